/- Packed by a program of this repo: Qq. -/
import Derived.Test.YtlhnncmflnjinaaKCQk
set_option linter.unusedSimpArgs false
set_option linter.unusedVariables false
set_option maxRecDepth 100000
namespace Go.Proofs.Ytlhnncmflnjinaa
open Go Go.RowKit Am
attribute [-go_sem] guardP_if guardK_if guardD_if COND_bool
attribute [local go_sem low] guardP_if guardK_if guardD_if COND_bool

theorem brwR_same {σ : Hp} {d : Nat} : ∀ {rows : List (List AV)}, (∀ r ∈ rows, brwL σ d r = some (r, [])) → brwR σ d rows = some (rows, [])
  | [], _ => rfl
  | r :: rows, h => by
    rw [brwR_cons, h r (by simp), brwR_same (fun q hq => h q (List.mem_cons_of_mem _ hq))]; rfl
theorem brwR_set {σ : Hp} {d : Nat} {r r' : List AV} {I : List Nat} (hr : brwL σ d r = some (r', I)) : ∀ {rows : List (List AV)} {p : Nat}, (∀ q ∈ rows, brwL σ d q = some (q, [])) → ∃ J, brwR σ d (rows.set p r) = some (rows.set p r', J)
  | [], _, _ => ⟨[], rfl⟩
  | q :: rows, 0, h => by
    rw [List.set_cons_zero, List.set_cons_zero, brwR_cons, hr, brwR_same (fun z hz => h z (List.mem_cons_of_mem _ hz))]; exact ⟨_, rfl⟩
  | q :: rows, p + 1, h => by
    obtain ⟨J, hJ⟩ := brwR_set hr (rows := rows) (p := p) (fun z hz => h z (List.mem_cons_of_mem _ hz))
    rw [List.set_cons_succ, List.set_cons_succ, brwR_cons, h q (by simp), hJ]; exact ⟨_, rfl⟩
/-- a table in memory of its own -/
def ownT (t : Tb) (a b : Nat) : List AV := [.s t.name, .ow a 3 0 t.columns.length, .sc (.int .i64 t.key), .ow b 2 0 t.indexes.length]
theorem wn_new2 {id j1 k1 l1 j2 k2 l2 : Nat} {u v : AV} {x y : Ob} {σ σ' : Hp} (hx : σ' j1 = some x) (hy : σ' j2 = some y) (hne : j1 ≠ j2) (hj1 : ∀ q, q < 16 → j1 ≠ id + q) (hj2 : ∀ q, q < 16 → j2 ≠ id + q) (h10 : σ j1 = none) (h20 : σ j2 = none) (hk : ∀ i y, σ i = some y → σ' i = some y) :
    Wn id (.ret (.ag [u, .ow j1 k1 0 l1, v, .ow j2 k2 0 l2])) σ' [] [] (.ret (.ag [u, .ow id k1 0 l1, v, .ow (id + 1) k2 0 l2])) (applyW σ [(id, some x), (id + 1, some y)]) := by
  refine .move _ _ _ _ j1 0 x _ _ hx (by omega) (by simp) hj1 (.move _ _ _ _ j2 1 y _ _ ?_ (by omega) (by simp) hj2 (.ret _ (.ag [u, .ow (id + 0) k1 0 l1, v, .ow (id + 1) k2 0 l2]) _ _ _ _ _ (.ag _ _ rfl (fun q a b ha hb => ?_)) (.less _ _ _ _ (applyW σ [(id, some x), (id + 1, some y)]) _ _ (fun i z hz => ?_) (.done _ _ _ _))))
  · rw [upd_not (hj2 0 (by omega)), upd_not hne.symm]; exact hy
  · match q, ha, hb with
    | 0, ha, hb => cases ha; cases hb; exact .same _
    | 1, ha, hb => cases ha; cases hb; exact .ow j1 (id + 0) k1 0 l1 (by simp)
    | 2, ha, hb => cases ha; cases hb; exact .same _
    | 3, ha, hb => cases ha; cases hb; exact .ow j2 (id + 1) k2 0 l2 (by simp)
    | q + 4, ha, hb => cases ha
  · simp only [applyW, upd, Nat.add_zero] at hz ⊢
    by_cases e2 : i = id + 1
    · rw [if_pos e2] at hz ⊢; exact ⟨z, hz, .refl z⟩
    · rw [if_neg e2] at hz ⊢
      by_cases e : i = id
      · rw [if_pos e] at hz
        have e3 : i ≠ j2 := by rw [e]; exact fun e => hj2 0 (by omega) (by omega)
        rw [if_neg e3, if_pos e]; exact ⟨z, hz, .refl z⟩
      · rw [if_neg e] at hz
        have e3 : i ≠ j1 := fun e => by rw [e, h10] at hz; cases hz
        have e4 : i ≠ j2 := fun e => by rw [e, h20] at hz; cases hz
        rw [if_neg e4, if_neg e, if_neg e3]; exact ⟨z, hk i z hz, .refl z⟩
set_option maxHeartbeats 2000000 in
theorem cloneTable_conW (t : Tb) (hb : TBd t) (id : Nat) : ConW Try.prog 116 [.ag (encT t)] [] id (.ret (.ag (ownT t id (id + 1)))) [(id, some (.c ⟨3, t.columns.map encC, true, true⟩)), (id + 1, some (.c ⟨2, t.indexes.map encX, true, true⟩))] := by
  refine conW_of (by kernel_rfl) (fun σ n _ hid => ConH.fresh (by kernel_rfl) fun hf => by_catalog_CloneTable ?_)
  generalize hR : (fun (r' : AEnd) (σ' : Hp) (_ : Nat) => _) = R
  have HR := Lib.hid hR; clear hR
  have HF := Lib.hid hf; clear hf
  obtain ⟨name, columns, key, indexes⟩ := t
  have h1 : columns.length ≤ 1048576 := hb.col
  have h2 : indexes.length ≤ 1048576 := hb.ind
  clear hb
  have HC := fun id => Lib.hid (clC_con columns h1 id)
  have HX := fun id => Lib.hid (clX_con indexes h2 id)
  simp (maxSteps := 1000000) (disch := omega) only [sh_catalog_CloneTable, encT, go_sem, wrapI, wrapB, upd_is, upd_not, Nat.reduceAdd, Nat.reduceSub, Nat.reduceMul, Nat.reduceLeDiff, Nat.reduceEqDiff, Int.reduceAdd, Int.reduceSub, Int.reduceMul, Int.reduceNeg, Int.reduceLT, Int.reduceLE, Int.reduceEq, Int.reduceToNat, reduceCtorEq, reduceIte, Nat.zero_add, Nat.add_zero, *]
  refine callD_conW (HC _).out (by simp) ?_
  simp (maxSteps := 1000000) (disch := omega) only [go_sem, wrapI, wrapB, upd_is, upd_not, Nat.reduceAdd, Nat.reduceSub, Nat.reduceMul, Nat.reduceLeDiff, Nat.reduceEqDiff, Int.reduceAdd, Int.reduceSub, Int.reduceMul, Int.reduceNeg, Int.reduceLT, Int.reduceLE, Int.reduceEq, Int.reduceToNat, reduceCtorEq, reduceIte, Nat.zero_add, Nat.add_zero, *]
  refine callD_conW (HX _).out (by simp) ?_
  simp (maxSteps := 1000000) (disch := omega) only [go_sem, wrapI, wrapB, upd_is, upd_not, Nat.reduceAdd, Nat.reduceSub, Nat.reduceMul, Nat.reduceLeDiff, Nat.reduceEqDiff, Int.reduceAdd, Int.reduceSub, Int.reduceMul, Int.reduceNeg, Int.reduceLT, Int.reduceLE, Int.reduceEq, Int.reduceToNat, reduceCtorEq, reduceIte, Nat.zero_add, Nat.add_zero, *]
  refine ⟨by omega, fun n_ hn_ => ?_⟩
  rw [← HR.out]
  refine wn_new2 (j1 := n + 16 + 16 + 32) (j2 := n + 16 + 16 + 80) ?_ ?_ (by omega) (fun q hq => by omega) (fun q hq => by omega) (HF.out _ (by omega)) (HF.out _ (by omega)) (fun i y hy => ?_)
  · simp (disch := omega) only [upd_not, upd_is]
  · simp (disch := omega) only [upd_not, upd_is]
  · have e1 : i ≠ n := fun e => by rw [e, HF.out n (by omega)] at hy; cases hy
    have e2 : i ≠ n + 16 := fun e => by rw [e, HF.out _ (by omega)] at hy; cases hy
    have e3 : i ≠ n + 16 + 16 + 32 := fun e => by rw [e, HF.out _ (by omega)] at hy; cases hy
    have e4 : i ≠ n + 16 + 16 + 80 := fun e => by rw [e, HF.out _ (by omega)] at hy; cases hy
    simp only [upd_not e1, upd_not e2, upd_not e3, upd_not e4]; exact hy
theorem ownT_len (t : Tb) (a b : Nat) : (ownT t a b).length = 4 := rfl
theorem ownT_leaf (t : Tb) (a b : Nat) : (ownT t a b).all leafok = true := rfl
theorem ownT_clo (t : Tb) (a b : Nat) : (ownT t a b).all clo = false := rfl
theorem ownT_take (t : Tb) (a b : Nat) : (ownT t a b).take 4 = ownT t a b := rfl
theorem ownT_drop (t : Tb) (a b : Nat) : (ownT t a b).drop 4 = [] := rfl
attribute [go_sem] ownT_len ownT_leaf ownT_clo ownT_take ownT_drop
/-- what Clone leaves, where the table at p may be written -/
def ClR (ts : List Tb) (p : Nat) (t : Tb) (n : Nat) (σ : Hp) : AEnd → Hp → Nat → Prop := fun r σ' n' => ∃ T a b, r = .ret (.ag [.ow T 4 0 ts.length]) ∧ n ≤ T ∧ T < a ∧ a < b ∧ b < n' ∧
  σ' T = some (.c ⟨4, (ts.map encT).set p (ownT t a b), true, false⟩) ∧ σ' a = some (.c ⟨3, t.columns.map encC, true, true⟩) ∧ σ' b = some (.c ⟨2, t.indexes.map encX, true, true⟩) ∧ (∀ q z, σ q = some z → σ' q = some z)
theorem set_it {α : Type} {l : List α} {i : Nat} {y : α} (h : l[i]? = some y) : l.set i y = l := by
  obtain ⟨hi, rfl⟩ := List.getElem?_eq_some_iff.1 h
  exact List.set_getElem_self hi
set_option maxHeartbeats 2000000 in
theorem catCloneAt_con (ts : List Tb) (hl : ts.length ≤ 1048576) (hb : ∀ t ∈ ts, TBd t) (p : Nat) (t : Tb) (hp : ts[p]? = some t) (σ : Hp) (n : Nat) : ConH Try.prog 67 [.ag [.tr (ts.map encT)]] σ n (ClR ts p t n σ) := by
  refine ConH.fresh (by kernel_rfl) fun hf => by_catalog_Clone ?_
  generalize hR : ClR ts p t n σ = R
  have HR := Lib.hid hR; clear hR
  have HF := Lib.hid hf; clear hf
  have HC := Lib.hid hb; clear hb
  have hpl : p < ts.length := (List.getElem?_eq_some_iff.1 hp).1
  have HPT := Lib.hid hp; clear hp
  simp (maxSteps := 1000000) (disch := omega) only [sh_catalog_Clone, go_sem, wrapI, wrapB, upd_is, upd_not, Nat.reduceAdd, Nat.reduceSub, Nat.reduceMul, Nat.reduceLeDiff, Nat.reduceEqDiff, Int.reduceAdd, Int.reduceSub, Int.reduceMul, Int.reduceNeg, Int.reduceLT, Int.reduceLE, Int.reduceEq, Int.reduceToNat, reduceCtorEq, reduceIte, Nat.zero_add, Nat.add_zero, *]
  refine CALL_conW (clT_con ts hl (n + 16 + 16)) (by simp) ?_
  intro n1 hn1
  simp (maxSteps := 1000000) (disch := omega) only [go_sem, wrapI, wrapB, upd_is, upd_not, Nat.reduceAdd, Nat.reduceSub, Nat.reduceMul, Nat.reduceLeDiff, Nat.reduceEqDiff, Int.reduceAdd, Int.reduceSub, Int.reduceMul, Int.reduceNeg, Int.reduceLT, Int.reduceLE, Int.reduceEq, Int.reduceToNat, reduceCtorEq, reduceIte, Nat.zero_add, Nat.add_zero, *]
  intros
  refine LOOP_listM ts (fun i s σ' n' => (∃ a b c, s = [a, b, c, .sc (.int .i64 i)]) ∧ n + 48 ≤ n' ∧ σ' n = some (.c ⟨1, [[.ow (n + 16 + 16) 4 0 ts.length]], true, false⟩) ∧ (∃ v, σ' (n + 16) = some (.c ⟨1, [[v]], true, false⟩)) ∧ (∀ q z, σ q = some z → σ' q = some z) ∧
      ((i ≤ p ∧ σ' (n + 16 + 16) = some (.c ⟨4, ts.map encT, true, true⟩)) ∨ (p < i ∧ ∃ a b, n + 48 ≤ a ∧ a < b ∧ b < n' ∧ σ' (n + 16 + 16) = some (.c ⟨4, (ts.map encT).set p (ownT t a b), true, false⟩) ∧ σ' a = some (.c ⟨3, t.columns.map encC, true, true⟩) ∧ σ' b = some (.c ⟨2, t.indexes.map encX, true, true⟩))))
    (.refl ⟨⟨_, _, _, rfl⟩, ?_, ?_, ⟨.em, ?_⟩, fun q z hz => ?_, .inl ⟨by omega, ?_⟩⟩) ?_ ?_
  · omega
  · simp (disch := omega) only [upd_not, upd_is]
  · rw [upd_not (by omega), upd_not (by omega), upd_is rfl]
  · have h1 : q ≠ n := fun e => by rw [e, HF.out n (by omega)] at hz; cases hz
    have h2 : q ≠ n + 16 := fun e => by rw [e, HF.out (n + 16) (by omega)] at hz; cases hz
    have h3 : q ≠ n + 16 + 16 := fun e => by rw [e, HF.out (n + 16 + 16) (by omega)] at hz; cases hz
    simp only [upd_not h1, upd_not h2, upd_not h3]; exact hz
  · simp (disch := omega) only [upd_not, upd_is]
  · rintro i x K s' σ' n2 hx hi hi' hn2 ⟨⟨a, b, c, rfl⟩, hn3, h0, ⟨v, h1⟩, hk, hT⟩ hK
    have HK := Lib.hid hK; clear hK
    have HP := Lib.hid hk; clear hk
    have hrow : (ts.map encT)[i]? = some (encT x) := by rw [List.getElem?_map, hx]; rfl
    rcases hT with ⟨hip, hT⟩ | ⟨hip, a', b', ha, hab, hbn, hT, hA, hB⟩
    · by_cases e : i = p
      · subst e
        have e2 : x = t := by rw [HPT.out] at hx; cases hx; rfl
        subst e2
        have HN := fun id => Lib.hid (cloneTable_conW x (HC.out x (List.mem_of_getElem? hx)) id)
        simp (maxSteps := 1000000) (disch := omega) only [lb_catalog_Clone2, go_sem, wrapI, wrapB, upd_is, upd_not, Nat.reduceAdd, Nat.reduceSub, Nat.reduceMul, Nat.reduceLeDiff, Nat.reduceEqDiff, Int.reduceAdd, Int.reduceSub, Int.reduceMul, Int.reduceNeg, Int.reduceLT, Int.reduceLE, Int.reduceEq, Int.reduceToNat, reduceCtorEq, reduceIte, Nat.zero_add, Nat.add_zero, *]
        refine callD_conW (HN _).out (by simp) ?_
        simp (maxSteps := 1000000) (disch := omega) only [Bool.true_and, Bool.and_true, go_sem, wrapI, wrapB, upd_is, upd_not, Nat.reduceAdd, Nat.reduceSub, Nat.reduceMul, Nat.reduceLeDiff, Nat.reduceEqDiff, Int.reduceAdd, Int.reduceSub, Int.reduceMul, Int.reduceNeg, Int.reduceLT, Int.reduceLE, Int.reduceEq, Int.reduceToNat, reduceCtorEq, reduceIte, Nat.zero_add, Nat.add_zero, *]
        refine ⟨fun q hq => by rcases hq with h | h <;> omega, fun n_ hn_ => HK.out _ _ _ (.refl ⟨⟨_, _, _, rfl⟩, by omega, ?_, ⟨v, ?_⟩, fun q z hz => ?_, .inr ⟨by omega, n2 + 16 + 16 + 64, n2 + 16 + 16 + 64 + 1, by omega, by omega, by omega, ?_, ?_, ?_⟩⟩)⟩
        · simp (disch := omega) only [upd_not]; exact h0
        · simp (disch := omega) only [upd_not]; exact h1
        · have e1 : q ≠ n2 := fun e => by rw [e, HF.out n2 (by omega)] at hz; cases hz
          have e3 : q ≠ n + 16 + 16 := fun e => by rw [e, HF.out (n + 16 + 16) (by omega)] at hz; cases hz
          have e4 : q ≠ n2 + 16 + 16 + 64 := fun e => by rw [e, HF.out _ (by omega)] at hz; cases hz
          have e5 : q ≠ n2 + 16 + 16 + 64 + 1 := fun e => by rw [e, HF.out _ (by omega)] at hz; cases hz
          simp only [upd_not e1, upd_not e3, upd_not e4, upd_not e5]; exact HP.out q z hz
        · simp (disch := omega) only [upd_not, upd_is]
        · simp (disch := omega) only [upd_not, upd_is]
        · simp (disch := omega) only [upd_not, upd_is]
      · have HN := Lib.hid (cloneTable_con x (HC.out x (List.mem_of_getElem? hx)))
        have hset : (ts.map encT).set i (encT x) = ts.map encT := set_it hrow
        simp (maxSteps := 1000000) (disch := omega) only [lb_catalog_Clone2, go_sem, wrapI, wrapB, upd_is, upd_not, Nat.reduceAdd, Nat.reduceSub, Nat.reduceMul, Nat.reduceLeDiff, Nat.reduceEqDiff, Int.reduceAdd, Int.reduceSub, Int.reduceMul, Int.reduceNeg, Int.reduceLT, Int.reduceLE, Int.reduceEq, Int.reduceToNat, reduceCtorEq, reduceIte, Nat.zero_add, Nat.add_zero, *]
        refine callD_con0 HN.out (by simp only [List.append_nil, brwL_cons, brwL_nil, brw_ag, encT_brw, Option.map_some]) ?_
        simp (maxSteps := 1000000) (disch := omega) only [Bool.true_and, Bool.and_true, go_sem, wrapI, wrapB, upd_is, upd_not, Nat.reduceAdd, Nat.reduceSub, Nat.reduceMul, Nat.reduceLeDiff, Nat.reduceEqDiff, Int.reduceAdd, Int.reduceSub, Int.reduceMul, Int.reduceNeg, Int.reduceLT, Int.reduceLE, Int.reduceEq, Int.reduceToNat, reduceCtorEq, reduceIte, Nat.zero_add, Nat.add_zero, *]
        refine fun n_ hn_ => HK.out _ _ _ (.refl ⟨⟨_, _, _, rfl⟩, by omega, ?_, ⟨v, ?_⟩, fun q z hz => ?_, .inl ⟨by omega, ?_⟩⟩)
        · simp (disch := omega) only [upd_not]; exact h0
        · simp (disch := omega) only [upd_not]; exact h1
        · have e1 : q ≠ n2 := fun e => by rw [e, HF.out n2 (by omega)] at hz; cases hz
          have e3 : q ≠ n + 16 + 16 := fun e => by rw [e, HF.out (n + 16 + 16) (by omega)] at hz; cases hz
          simp only [upd_not e1, upd_not e3]; exact HP.out q z hz
        · simp (disch := omega) only [upd_not, upd_is]
    · have HN := Lib.hid (cloneTable_con x (HC.out x (List.mem_of_getElem? hx)))
      have hrow2 : ((ts.map encT).set p (ownT t a' b'))[i]? = some (encT x) := by rw [List.getElem?_set_ne (by omega)]; exact hrow
      have hset : ((ts.map encT).set p (ownT t a' b')).set i (encT x) = (ts.map encT).set p (ownT t a' b') := set_it hrow2
      simp (maxSteps := 1000000) (disch := omega) only [lb_catalog_Clone2, go_sem, wrapI, wrapB, upd_is, upd_not, Nat.reduceAdd, Nat.reduceSub, Nat.reduceMul, Nat.reduceLeDiff, Nat.reduceEqDiff, Int.reduceAdd, Int.reduceSub, Int.reduceMul, Int.reduceNeg, Int.reduceLT, Int.reduceLE, Int.reduceEq, Int.reduceToNat, reduceCtorEq, reduceIte, Nat.zero_add, Nat.add_zero, *]
      refine callD_con0 HN.out (by simp only [List.append_nil, brwL_cons, brwL_nil, brw_ag, encT_brw, Option.map_some]) ?_
      simp (maxSteps := 1000000) (disch := omega) only [Bool.true_and, Bool.and_true, go_sem, wrapI, wrapB, upd_is, upd_not, Nat.reduceAdd, Nat.reduceSub, Nat.reduceMul, Nat.reduceLeDiff, Nat.reduceEqDiff, Int.reduceAdd, Int.reduceSub, Int.reduceMul, Int.reduceNeg, Int.reduceLT, Int.reduceLE, Int.reduceEq, Int.reduceToNat, reduceCtorEq, reduceIte, Nat.zero_add, Nat.add_zero, *]
      refine fun n_ hn_ => HK.out _ _ _ (.refl ⟨⟨_, _, _, rfl⟩, by omega, ?_, ⟨v, ?_⟩, fun q z hz => ?_, .inr ⟨by omega, a', b', by omega, by omega, by omega, ?_, ?_, ?_⟩⟩)
      · simp (disch := omega) only [upd_not]; exact h0
      · simp (disch := omega) only [upd_not]; exact h1
      · have e1 : q ≠ n2 := fun e => by rw [e, HF.out n2 (by omega)] at hz; cases hz
        have e3 : q ≠ n + 16 + 16 := fun e => by rw [e, HF.out (n + 16 + 16) (by omega)] at hz; cases hz
        simp only [upd_not e1, upd_not e3]; exact HP.out q z hz
      · simp (disch := omega) only [upd_not, upd_is]
      · simp (disch := omega) only [upd_not]; exact hA
      · simp (disch := omega) only [upd_not]; exact hB
  · rintro K s' σ' n2 hn2 ⟨⟨a, b, c, rfl⟩, hn3, h0, ⟨v, h1⟩, hk, hT⟩
    have HP := Lib.hid hk; clear hk
    rcases hT with ⟨hip, hT⟩ | ⟨hip, a', b', ha, hab, hbn, hT, hA, hB⟩
    · omega
    · simp (maxSteps := 1000000) (disch := omega) only [lb_catalog_Clone2, Int.lt_irrefl, go_sem, wrapI, wrapB, upd_is, upd_not, Nat.reduceAdd, Nat.reduceSub, Nat.reduceMul, Nat.reduceLeDiff, Nat.reduceEqDiff, Int.reduceAdd, Int.reduceSub, Int.reduceMul, Int.reduceNeg, Int.reduceLT, Int.reduceLE, Int.reduceEq, Int.reduceToNat, reduceCtorEq, reduceIte, Nat.zero_add, Nat.add_zero, *]
      rw [← HR.out]
      refine ⟨n + 16 + 16, a', b', rfl, by omega, by omega, hab, by omega, ?_, ?_, ?_, fun q z hz => ?_⟩
      · rw [upd_not (by omega)]; exact hT
      · rw [upd_not (by omega)]; exact hA
      · rw [upd_not (by omega)]; exact hB
      · have h2 : q ≠ n + 16 := fun e => by rw [e, HF.out (n + 16) (by omega)] at hz; cases hz
        rw [upd_not h2]; exact HP.out q z hz
end Go.Proofs.Ytlhnncmflnjinaa
