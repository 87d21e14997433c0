/- Packed by a program of this repo: Qg. -/
import Derived.Test.YtlhnncmflnjinaaKCQf
import Derived.Test.YtlhnncmflnjinaaKCFb
set_option linter.unusedSimpArgs false
set_option linter.unusedVariables false
set_option maxRecDepth 100000
namespace Go.Proofs.Ytlhnncmflnjinaa
open Go Go.RowKit Am
attribute [-go_sem] guardP_if guardK_if guardD_if COND_bool
attribute [local go_sem low] guardP_if guardK_if guardD_if COND_bool

/-- the names of indexes, added to those that are known -/
def ixNew : List Tx → List Ix → Option (List Tx)
  | seen, [] => some seen
  | seen, x :: xs => if x.name ∈ seen then none else ixNew (seen ++ [x.name]) xs
def leS (a b : Tx) : Bool := Op.bytesLess a b || (a == b)
def catF : List Tx → Tx → List Tb → Int
  | _, _, [] => 0
  | seen, last, t :: ts => if mayF t = false ∨ leS t.name last = true then 9 else match ixNew seen t.indexes with
    | none => 9
    | some seen' => catF seen' t.name ts
def catCheckF (ts : List Tb) : Int := if 8 < (ts.length : Int) then 9 else catF [] [] ts
structure CBd (ts : List Tb) : Prop where
  len : ts.length ≤ 1048576
  rg : ∀ t ∈ ts, TRg t
theorem binS_leq' (a b : Tx) : semBin .leq (.s a) (.s b) = some (.sc (.bool (leS a b))) := rfl
attribute [local go_sem high] binS_leq'
set_option maxHeartbeats 8000000 in
theorem catCheck_con (ts : List Tb) (ht : CBd ts) : Con Try.prog 47 [.ag [.tr (ts.map encT)]] (.ret (.sc (.int .i64 (catCheckF ts)))) := by
  refine con_of (by_catalog_Check ?_)
  generalize hR : RC _ = R
  have HR := Lib.hid hR; clear hR
  have HM := Lib.hid (fun t (h : t ∈ ts) => may_con t (ht.rg t h))
  have HLn := Lib.hid ht.len
  have HIl := Lib.hid (fun t (h : t ∈ ts) => (ht.rg t h).bd.ind.1)
  clear ht
  by_cases h8 : 8 < (ts.length : Int)
  · simp (maxSteps := 1000000) (disch := omega) only [sh_catalog_Check, go_sem, wrapI, wrapB, upd_is, upd_not, Nat.reduceAdd, Nat.reduceSub, Nat.reduceMul, Nat.reduceLeDiff, Nat.reduceEqDiff, Int.reduceAdd, Int.reduceSub, Int.reduceMul, Int.reduceNeg, Int.reduceLT, Int.reduceLE, Int.reduceEq, Int.reduceToNat, reduceCtorEq, reduceIte, Nat.zero_add, Nat.add_zero, *]
    intro _
    rw [← HR.out]; exact RC_ret rfl (by rw [catCheckF, if_pos h8])
  · have hgo : catCheckF ts = catF [] [] ts := by rw [catCheckF, if_neg h8]
    have HGO := Lib.hid hgo; clear hgo
    simp (maxSteps := 1000000) (disch := omega) only [sh_catalog_Check, go_sem, wrapI, wrapB, upd_is, upd_not, Nat.reduceAdd, Nat.reduceSub, Nat.reduceMul, Nat.reduceLeDiff, Nat.reduceEqDiff, Int.reduceAdd, Int.reduceSub, Int.reduceMul, Int.reduceNeg, Int.reduceLT, Int.reduceLE, Int.reduceEq, Int.reduceToNat, reduceCtorEq, reduceIte, Nat.zero_add, Nat.add_zero, *]
    intro _ _
    refine LOOP_listM ts (fun i s σ n => ∃ a0 a1 a2 last a4 a5 a6 a7 a8 a9 a10 seen, s = [a0, a1, a2, .s last, a4, a5, a6, a7, a8, a9, a10, .sc (.int .i64 i)] ∧ 32 ≤ n ∧ σ 16 = some (.m (setOf seen) true) ∧ catF [] [] ts = catF seen last (ts.drop i))
      (.refl ⟨_, _, _, [], _, _, _, _, _, _, _, [], rfl, ?_, ?_, rfl⟩) ?_ ?_
    · omega
    · simp (disch := omega) only [upd_is]
    · rintro i t K s σ n hx hi hi' hn ⟨a0, a1, a2, last, a4, a5, a6, a7, a8, a9, a10, seen, rfl, hn32, hσ, hc⟩ hK
      have HK := Lib.hid hK; clear hK
      have htm : t ∈ ts := List.mem_of_getElem? hx
      have HM' := Lib.hid (HM.out t htm)
      have hil := HIl.out t htm
      rw [drop_at hx, catF] at hc
      have HC := Lib.hid hc; clear hc
      simp (maxSteps := 1000000) (disch := omega) only [lb_catalog_Check3, encT, go_sem, wrapI, wrapB, upd_is, upd_not, Nat.reduceAdd, Nat.reduceSub, Nat.reduceMul, Nat.reduceLeDiff, Nat.reduceEqDiff, Int.reduceAdd, Int.reduceSub, Int.reduceMul, Int.reduceNeg, Int.reduceLT, Int.reduceLE, Int.reduceEq, Int.reduceToNat, reduceCtorEq, reduceIte, Nat.zero_add, Nat.add_zero, *]
      refine CALL_con0 HM'.out rfl ?_
      have no : (mayF t = false ∨ leS t.name last = true) → ∀ σ m, R (.ret (.sc (.int .i64 9))) σ m := by
        intro h σ m
        rw [← HR.out, HGO.out, HC.out, if_pos h]; exact RC_ret rfl rfl
      have NO := Lib.hid no; clear no
      cases h1 : mayF t with
      | false =>
        simp (maxSteps := 1000000) (disch := omega) only [go_sem, wrapI, wrapB, upd_is, upd_not, Nat.reduceAdd, Nat.reduceSub, Nat.reduceMul, Nat.reduceLeDiff, Nat.reduceEqDiff, Int.reduceAdd, Int.reduceSub, Int.reduceMul, Int.reduceNeg, Int.reduceLT, Int.reduceLE, Int.reduceEq, Int.reduceToNat, reduceCtorEq, reduceIte, Nat.zero_add, Nat.add_zero, *]
        exact NO.out (.inl h1) _ _
      | true =>
        cases h2 : leS t.name last with
        | true =>
          simp (maxSteps := 1000000) (disch := omega) only [go_sem, wrapI, wrapB, upd_is, upd_not, Nat.reduceAdd, Nat.reduceSub, Nat.reduceMul, Nat.reduceLeDiff, Nat.reduceEqDiff, Int.reduceAdd, Int.reduceSub, Int.reduceMul, Int.reduceNeg, Int.reduceLT, Int.reduceLE, Int.reduceEq, Int.reduceToNat, reduceCtorEq, reduceIte, Nat.zero_add, Nat.add_zero, *]
          exact NO.out (.inr h2) _ _
        | false =>
          have hc' : catF [] [] ts = (match ixNew seen t.indexes with | none => 9 | some seen' => catF seen' t.name (ts.drop (i + 1))) := by
            rw [HC.out, if_neg (by simp [h1, h2])]
          clear HC NO
          have HC := Lib.hid hc'; clear hc'
          simp (maxSteps := 1000000) (disch := omega) only [go_sem, wrapI, wrapB, upd_is, upd_not, Nat.reduceAdd, Nat.reduceSub, Nat.reduceMul, Nat.reduceLeDiff, Nat.reduceEqDiff, Int.reduceAdd, Int.reduceSub, Int.reduceMul, Int.reduceNeg, Int.reduceLT, Int.reduceLE, Int.reduceEq, Int.reduceToNat, reduceCtorEq, reduceIte, Nat.zero_add, Nat.add_zero, *]
          intro _
          refine LOOP_listM t.indexes (fun j s σ' n' => ∃ b0 b1 b2 b3 seenj, s = [b0, b1, b2, b3, .sc (.int .i64 j)] ∧ 32 ≤ n' ∧ σ' 16 = some (.m (setOf seenj) true) ∧ ixNew seen t.indexes = ixNew seenj (t.indexes.drop j))
            (.refl ⟨_, _, _, _, seen, rfl, ?_, ?_, rfl⟩) ?_ ?_
          · omega
          · simp (disch := omega) only [upd_not]; exact hσ
          · rintro j z K2 s2 σ3 n3 hz hj hj' hn3 ⟨b0, b1, b2, b3, seenj, rfl, hn4, hσ3, hx3⟩ hK2
            have HK2 := Lib.hid hK2; clear hK2
            rw [drop_at hz, ixNew] at hx3
            have HX3 := Lib.hid hx3; clear hx3
            simp (maxSteps := 1000000) (disch := omega) only [lb_catalog_Check1, encX, go_sem, wrapI, wrapB, upd_is, upd_not, Nat.reduceAdd, Nat.reduceSub, Nat.reduceMul, Nat.reduceLeDiff, Nat.reduceEqDiff, Int.reduceAdd, Int.reduceSub, Int.reduceMul, Int.reduceNeg, Int.reduceLT, Int.reduceLE, Int.reduceEq, Int.reduceToNat, reduceCtorEq, reduceIte, Nat.zero_add, Nat.add_zero, *]
            rw [aLkp_set (show _ from (by simp (disch := omega) only [upd_not]; exact hσ3))]
            by_cases g1 : z.name ∈ seenj
            · have hd : decide (z.name ∈ seenj) = true := decide_eq_true g1
              have G1 := Lib.hid g1; clear g1
              simp (maxSteps := 1000000) (disch := omega) only [hd, go_sem, wrapI, wrapB, upd_is, upd_not, Nat.reduceAdd, Nat.reduceSub, Nat.reduceMul, Nat.reduceLeDiff, Nat.reduceEqDiff, Int.reduceAdd, Int.reduceSub, Int.reduceMul, Int.reduceNeg, Int.reduceLT, Int.reduceLE, Int.reduceEq, Int.reduceToNat, reduceCtorEq, reduceIte, Nat.zero_add, Nat.add_zero, *]
              rw [← HR.out]; exact RC_ret rfl (by rw [HGO.out, HC.out, HX3.out, if_pos G1.out])
            · have hd : decide (z.name ∈ seenj) = false := decide_eq_false g1
              have G1 := Lib.hid g1; clear g1
              simp (maxSteps := 1000000) (disch := omega) only [hd, go_sem, wrapI, wrapB, upd_is, upd_not, Nat.reduceAdd, Nat.reduceSub, Nat.reduceMul, Nat.reduceLeDiff, Nat.reduceEqDiff, Int.reduceAdd, Int.reduceSub, Int.reduceMul, Int.reduceNeg, Int.reduceLT, Int.reduceLE, Int.reduceEq, Int.reduceToNat, reduceCtorEq, reduceIte, Nat.zero_add, Nat.add_zero, *]
              rw [hMup_set (show _ from (by simp (disch := omega) only [upd_not]; exact hσ3)), if_neg G1.out]
              simp (maxSteps := 1000000) (disch := omega) only [go_sem, wrapI, wrapB, upd_is, upd_not, Nat.reduceAdd, Nat.reduceSub, Nat.reduceMul, Nat.reduceLeDiff, Nat.reduceEqDiff, Int.reduceAdd, Int.reduceSub, Int.reduceMul, Int.reduceNeg, Int.reduceLT, Int.reduceLE, Int.reduceEq, Int.reduceToNat, reduceCtorEq, reduceIte, Nat.zero_add, Nat.add_zero, *]
              refine HK2.out _ _ _ (.refl ⟨_, _, _, _, seenj ++ [z.name], rfl, ?_, ?_, ?_⟩)
              · omega
              · simp only [upd_is]
              · rw [HX3.out, if_neg G1.out]
          · rintro K2 s2 σ3 n3 hn3 ⟨b0, b1, b2, b3, seenj, rfl, hn4, hσ3, hx3⟩
            rw [List.drop_length, ixNew] at hx3
            have HX3 := Lib.hid hx3; clear hx3
            simp (maxSteps := 1000000) (disch := omega) only [lb_catalog_Check1, Int.lt_irrefl, go_sem, wrapI, wrapB, upd_is, upd_not, Nat.reduceAdd, Nat.reduceSub, Nat.reduceMul, Nat.reduceLeDiff, Nat.reduceEqDiff, Int.reduceAdd, Int.reduceSub, Int.reduceMul, Int.reduceNeg, Int.reduceLT, Int.reduceLE, Int.reduceEq, Int.reduceToNat, reduceCtorEq, reduceIte, Nat.zero_add, Nat.add_zero, *]
            refine HK.out _ _ _ (.refl ⟨_, _, _, t.name, _, _, _, _, _, _, _, seenj, rfl, ?_, hσ3, ?_⟩)
            · omega
            · rw [HC.out, HX3.out]
    · rintro K s σ n hn ⟨a0, a1, a2, last, a4, a5, a6, a7, a8, a9, a10, seen, rfl, hn32, hσ, hc⟩
      rw [List.drop_length, catF] at hc
      simp (maxSteps := 1000000) (disch := omega) only [lb_catalog_Check3, Int.lt_irrefl, go_sem, wrapI, wrapB, upd_is, upd_not, Nat.reduceAdd, Nat.reduceSub, Nat.reduceMul, Nat.reduceLeDiff, Nat.reduceEqDiff, Int.reduceAdd, Int.reduceSub, Int.reduceMul, Int.reduceNeg, Int.reduceLT, Int.reduceLE, Int.reduceEq, Int.reduceToNat, reduceCtorEq, reduceIte, Nat.zero_add, Nat.add_zero, *]
      rw [← HR.out]; exact RC_ret rfl (by rw [HGO.out, hc])
end Go.Proofs.Ytlhnncmflnjinaa
