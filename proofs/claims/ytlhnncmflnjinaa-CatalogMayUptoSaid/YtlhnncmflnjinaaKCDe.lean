/- Packed by a program of this repo: De. -/
import Derived.Test.YtlhnncmflnjinaaKCDd
set_option linter.unusedSimpArgs false
set_option linter.unusedVariables false
set_option maxRecDepth 100000
namespace Go.Proofs.Ytlhnncmflnjinaa
open Go Go.RowKit Am

theorem brw_all {σ : Hp} {d i k len : Nat} {rows : List (List AV)} {w : Bool} (h : σ i = some (.c ⟨k, rows, w, true⟩)) (hl : rows.length = len) (hk : 0 < k) : brw σ (d + 1) (.ow i k 0 len) = some (.tr rows, [i]) := by
  subst hl
  rw [brw_ow', h]
  simp only
  rw [if_pos ⟨trivial, trivial, by omega, hk⟩, List.drop_zero, List.take_of_length_le (Nat.le_refl _)]
theorem encX_len (x : Ix) : (encX x).length = 2 := rfl
theorem encC_all (l : List Cl) : ((l.map encC).all fun r => r.length == 3) = true := all_enc encC 3 encC_len l
theorem encX_all (l : List Ix) : ((l.map encX).all fun r => r.length == 2) = true := all_enc encX 2 encX_len l
theorem encT_all (l : List Tb) : ((l.map encT).all fun r => r.length == 4) = true := all_enc encT 4 encT_len l
theorem encC_leafs (l : List Cl) : ((l.map encC).all fun r => r.all leafok) = true := by simp [encC, leafok]
theorem encX_leafs (l : List Ix) : ((l.map encX).all fun r => r.all leafok) = true := by simp [encX, leafok]
theorem encC_leaf (c : Cl) : (encC c).all leafok = true := rfl
theorem encX_leaf (x : Ix) : (encX x).all leafok = true := rfl
theorem encX_clo (x : Ix) : (encX x).all clo = true := rfl
theorem encX_take (x : Ix) : (encX x).take 2 = encX x := rfl
theorem encX_drop (x : Ix) : (encX x).drop 2 = [] := rfl
theorem encC_drop (x : Cl) : (encC x).drop 3 = [] := rfl
theorem encC_take (x : Cl) : (encC x).take 3 = encC x := rfl
theorem encT_take (x : Tb) : (encT x).take 4 = encT x := rfl
theorem encT_drop (x : Tb) : (encT x).drop 4 = [] := rfl
attribute [go_sem] encX_take encX_drop encC_take encC_drop encT_take encT_drop
theorem encT_leafs (l : List Tb) : ((l.map encT).all fun r => r.all leafok) = true := by simp [encT, leafok]
theorem encT_leaf (t : Tb) : (encT t).all leafok = true := rfl
theorem encT_clo (t : Tb) : (encT t).all clo = true := rfl
theorem encT_brw (σ : Hp) (d : Nat) (t : Tb) : brwL σ d (encT t) = some (encT t, []) := by
  simp only [brwL_cons, brwL_nil, brw_sc, brw_tr, encT, brw_s, List.append_nil]
theorem encX_brw (σ : Hp) (d : Nat) (x : Ix) : brwL σ d (encX x) = some (encX x, []) := by
  simp only [brwL_cons, brwL_nil, brw_sc, encX, brw_s, List.append_nil]
attribute [go_sem] encC_leaf encX_leaf encX_clo encX_len encC_all encX_all encT_all encC_leafs encX_leafs encT_leafs encT_leaf encT_clo encT_brw encX_brw
/-- tables that are not too long -/
structure TBd (t : Tb) : Prop where
  col : t.columns.length ≤ 1048576
  ind : t.indexes.length ≤ 1048576
set_option maxHeartbeats 4000000 in
theorem of_con (t : Tb) (hb : TBd t) : Con Try.prog 27 [.ag (encT t)] (.ret (.ag (encT t))) := by
  refine con_of (by_law06_Of ?_)
  generalize hR : RC _ = R
  have HR := Lib.hid hR; clear hR
  obtain ⟨name, columns, key, indexes⟩ := t
  obtain ⟨hc, hi⟩ := hb
  simp only at hc hi
  have loop : ∀ (cv : AV) (σ : Hp) (n : Nat), ((columns = [] ∧ cv = .em) ∨ (cv = .ow 112 3 0 columns.length ∧ σ 112 = some (.c ⟨3, columns.map encC, true, true⟩))) → 192 ≤ n →
      σ 0 = some (.c ⟨4, [[.s name, .tr (columns.map encC), .sc (.int .i64 key), .tr (indexes.map encX)]], true, false⟩) →
      σ 16 = some (.c ⟨4, [[.s [], .em, .sc (.int .i64 0), .em]], true, false⟩) → σ 176 = some (.c ⟨4, [[.s name, cv, .sc (.int .i64 key), .em]], true, false⟩) →
      LOOP (lb_law06_Of1 (.rf 0 4 0 0) (.rf 176 4 0 0) (.rf 16 4 0 0) R) [.tp [], .sc (.int .i64 0)] σ n := by
    intro cv σ n hcv hn h0 h16 h176
    refine LOOP_listM indexes (fun i s σ' n' => (∃ a, s = [a, .sc (.int .i64 i)]) ∧ ((columns = [] ∧ cv = .em) ∨ (cv = .ow 112 3 0 columns.length ∧ σ' 112 = some (.c ⟨3, columns.map encC, true, true⟩))) ∧ 192 ≤ n' ∧
      σ' 0 = some (.c ⟨4, [[.s name, .tr (columns.map encC), .sc (.int .i64 key), .tr (indexes.map encX)]], true, false⟩) ∧
      σ' 16 = some (.c ⟨4, [[.s [], .em, .sc (.int .i64 0), .em]], true, false⟩) ∧
      ∃ iv, σ' 176 = some (.c ⟨4, [[.s name, cv, .sc (.int .i64 key), iv]], true, false⟩) ∧ ((i = 0 ∧ iv = .em) ∨ ∃ i1, i1 < n' ∧ 176 < i1 ∧ iv = .ow i1 2 0 i ∧ σ' i1 = some (.c ⟨2, (indexes.take i).map encX, true, true⟩)))
      (.refl ⟨⟨_, rfl⟩, hcv, hn, h0, h16, _, h176, .inl ⟨rfl, rfl⟩⟩) ?_ ?_
    · rintro i x K s' σ' n2 hx hi1 hi' hn1 ⟨⟨a, rfl⟩, hcv, hn2, h0, h16, iv, h176, hiv⟩ hK
      have HK := Lib.hid hK; clear hK
      have HCV := Lib.hid hcv; clear hcv
      have ht : (indexes.take (i + 1)).map encX = (indexes.take i).map encX ++ [encX x] := by rw [List.take_add_one, hx, List.map_append]; rfl
      have HT := Lib.hid ht; clear ht
      rcases hiv with ⟨rfl, rfl⟩ | ⟨i1, hl1, hg1, rfl, hs1⟩
      · simp (maxSteps := 1000000) (disch := omega) only [lb_law06_Of1, go_sem, wrapI, wrapB, upd_is, upd_not, Nat.reduceAdd, Nat.reduceSub, Nat.reduceMul, Nat.reduceLeDiff, Nat.reduceEqDiff, Int.reduceAdd, Int.reduceSub, Int.reduceMul, Int.reduceNeg, Int.reduceLT, Int.reduceLE, Int.reduceEq, Int.reduceToNat, reduceCtorEq, reduceIte, Nat.zero_add, Nat.add_zero, *]
        refine fun _ => ⟨fun x hx => by omega, fun n_ hn_ => HK.out _ _ _ (.refl ⟨⟨_, rfl⟩, ?_, by omega, ?_, ?_, .ow (n2 + 128) 2 0 1, ?_, .inr ⟨n2 + 128, by omega, by omega, rfl, ?_⟩⟩)⟩
        · rcases HCV.out with h | ⟨h, h'⟩
          · exact .inl h
          · exact .inr ⟨h, by simp (disch := omega) only [upd_not]; exact h'⟩
        · simp (disch := omega) only [upd_not]; exact h0
        · simp (disch := omega) only [upd_not]; exact h16
        · exact upd_is rfl
        · rw [upd_not (by omega), upd_is rfl, HT.out]; rfl
      · have hl : (List.take i indexes).length = i := by rw [List.length_take]; omega
        have c1 : (i + 1) * 24 ≤ 140737488355328 := by omega
        have c2 : ¬ i1 = n2 + 128 := by omega
        simp (maxSteps := 1000000) (disch := omega) only [lb_law06_Of1, go_sem, wrapI, wrapB, upd_is, upd_not, Nat.reduceAdd, Nat.reduceSub, Nat.reduceMul, Nat.reduceLeDiff, Nat.reduceEqDiff, Int.reduceAdd, Int.reduceSub, Int.reduceMul, Int.reduceNeg, Int.reduceLT, Int.reduceLE, Int.reduceEq, Int.reduceToNat, reduceCtorEq, reduceIte, Nat.zero_add, Nat.add_zero, *]
        refine fun _ => ⟨fun x hx => by omega, fun n_ hn_ => HK.out _ _ _ (.refl ⟨⟨_, rfl⟩, ?_, by omega, ?_, ?_, .ow (n2 + 128) 2 0 (i + 1), ?_, .inr ⟨n2 + 128, by omega, by omega, rfl, ?_⟩⟩)⟩
        · rcases HCV.out with h | ⟨h, h'⟩
          · exact .inl h
          · exact .inr ⟨h, by simp (disch := omega) only [upd_not]; exact h'⟩
        · simp (disch := omega) only [upd_not]; exact h0
        · simp (disch := omega) only [upd_not]; exact h16
        · exact upd_is rfl
        · rw [upd_not (by omega), upd_is rfl, HT.out]
    · rintro K s' σ' n2 hn1 ⟨⟨a, rfl⟩, hcv, hn2, h0, h16, iv, h176, hiv⟩
      rw [List.take_length] at hiv
      have hlc : leafok cv = true := by rcases hcv with ⟨_, rfl⟩ | ⟨rfl, _⟩ <;> rfl
      have hli : leafok iv = true := by rcases hiv with ⟨_, rfl⟩ | ⟨i1, _, _, rfl, _⟩ <;> rfl
      have HCV := Lib.hid hcv; clear hcv
      have HIV := Lib.hid hiv; clear hiv
      simp (maxSteps := 1000000) (disch := omega) only [lb_law06_Of1, Int.lt_irrefl, go_sem, wrapI, wrapB, upd_is, upd_not, Nat.reduceAdd, Nat.reduceSub, Nat.reduceMul, Nat.reduceLeDiff, Nat.reduceEqDiff, Int.reduceAdd, Int.reduceSub, Int.reduceMul, Int.reduceNeg, Int.reduceLT, Int.reduceLE, Int.reduceEq, Int.reduceToNat, reduceCtorEq, reduceIte, Nat.zero_add, Nat.add_zero, *]
      intro _
      rw [← HR.out]
      have hcb : ∃ I, ∀ v, brw (upd σ' 16 v) 5 cv = some (.tr (columns.map encC), I) := by
        rcases HCV.out with ⟨h, rfl⟩ | ⟨rfl, h⟩
        · subst h; exact ⟨[], fun _ => rfl⟩
        · refine ⟨[112], fun v => ?_⟩
          exact brw_all (by rw [upd_not (by omega)]; exact h) (List.length_map _) (by omega)
      have hib : ∃ I, ∀ v, brw (upd σ' 16 v) 5 iv = some (.tr (indexes.map encX), I) := by
        rcases HIV.out with ⟨h, rfl⟩ | ⟨i1, h1, h2, rfl, h⟩
        · have h3 := List.eq_nil_of_length_eq_zero h
          subst h3; exact ⟨[], fun _ => rfl⟩
        · refine ⟨[i1], fun v => ?_⟩
          exact brw_all (by rw [upd_not (by omega)]; exact h) (List.length_map _) (by omega)
      obtain ⟨I, hI⟩ := hcb
      obtain ⟨J, hJ⟩ := hib
      refine RC_ret (c := .ag (encT ⟨name, columns, key, indexes⟩)) (I := [] ++ (I ++ ([] ++ (J ++ [])))) ?_ rfl
      simp only [brw_ag, brwL_cons, brwL_nil, brw_s, brw_sc, hI, hJ, Option.map_some, encT]
  have LOOPH := Lib.hid loop; clear loop
  cases columns with
  | nil =>
    simp (maxSteps := 1000000) (disch := omega) only [sh_law06_Of, encT, go_sem, wrapI, wrapB, upd_is, upd_not, Nat.reduceAdd, Nat.reduceSub, Nat.reduceMul, Nat.reduceLeDiff, Nat.reduceEqDiff, Int.reduceAdd, Int.reduceSub, Int.reduceMul, Int.reduceNeg, Int.reduceLT, Int.reduceLE, Int.reduceEq, Int.reduceToNat, reduceCtorEq, reduceIte, Nat.zero_add, Nat.add_zero, *]
    refine ⟨fun x hx => by omega, fun x hx => by omega, fun x hx => by omega, fun n_ hn_ => LOOPH.out .em _ _ (.inl ⟨rfl, rfl⟩) (by omega) rfl rfl rfl⟩
  | cons c columns =>
    have c1 : (columns.length + 1) * 32 ≤ 140737488355328 := by simp only [List.length_cons] at hc; omega
    simp (maxSteps := 1000000) (disch := omega) only [sh_law06_Of, encT, go_sem, wrapI, wrapB, upd_is, upd_not, Nat.reduceAdd, Nat.reduceSub, Nat.reduceMul, Nat.reduceLeDiff, Nat.reduceEqDiff, Int.reduceAdd, Int.reduceSub, Int.reduceMul, Int.reduceNeg, Int.reduceLT, Int.reduceLE, Int.reduceEq, Int.reduceToNat, reduceCtorEq, reduceIte, Nat.zero_add, Nat.add_zero, *]
    refine ⟨fun x hx => by omega, fun x hx => by omega, fun x hx => by omega, fun x hx => by omega, ⟨fun x hx => by omega, fun x hx => by omega⟩, fun x hx => by omega, fun n_ hn_ => LOOPH.out (.ow 112 3 0 (columns.length + 1)) _ _ (.inr ⟨rfl, rfl⟩) (by omega) rfl rfl rfl⟩
end Go.Proofs.Ytlhnncmflnjinaa
