/- Packed by a program of this repo: Cw. -/
import Derived.Test.YtodoejfkjimeaaaDoorKEMs
import Derived.Test.YtodoejfkjimeaaaDoorKECa
set_option linter.unusedSimpArgs false
set_option linter.unusedVariables false
set_option maxRecDepth 100000
namespace Go.Proofs.YtodoejfkjimeaaaDoor
open Go Go.RowKit Am

def goOver (f : Ep → Nat → Int × Nat) : List Ep → Nat → Int × Nat
  | [], c => (0, c)
  | a :: l, c => if (f a c).1 = 0 then goOver f l (f a c).2 else f a c
def walkF : Nat → Ep → Nat → Int × Nat
  | 0, _, c => (10, c)
  | k + 1, e, c => if 64 ≤ c then (3, c) else if partOk e = false then (9, c) else goOver (walkF k) e.args (c + 1)
theorem goOver_append (f : Ep → Nat → Int × Nat) : ∀ (l m : List Ep) (c : Nat), (goOver f l c).1 = 0 → goOver f (l ++ m) c = goOver f m (goOver f l c).2
  | [], m, c, _ => rfl
  | a :: l, m, c, h => by
    simp only [List.cons_append, goOver] at h ⊢
    split
    · rename_i h0; rw [if_pos h0] at h; exact goOver_append f l m _ h
    · rename_i h0; rw [if_neg h0] at h; exact absurd h h0
theorem goOver_stop (f : Ep → Nat → Int × Nat) : ∀ (l m : List Ep) (c : Nat), (goOver f l c).1 ≠ 0 → goOver f (l ++ m) c = goOver f l c
  | [], m, c, h => absurd rfl h
  | a :: l, m, c, h => by
    simp only [List.cons_append, goOver] at h ⊢
    split
    · rename_i h0; rw [if_pos h0] at h; exact goOver_stop f l m _ h
    · rfl
abbrev errPan (n : Int) : AEnd := .pan (.iface 28 (.int .i64 n))
def endW (n : Int) : AEnd := if n = 0 then .ret (.tp []) else errPan n
theorem walkF_le : ∀ (k : Nat) (e : Ep) (c : Nat), c ≤ 64 → (walkF k e c).2 ≤ 64
  | 0, e, c, h => h
  | k + 1, e, c, h => by
    simp only [walkF]
    split
    · exact h
    · split
      · exact h
      · have : ∀ (l : List Ep) (c : Nat), c ≤ 64 → (goOver (walkF k) l c).2 ≤ 64 := by
          intro l
          induction l with
          | nil => intro c h; exact h
          | cons a l ih =>
            intro c h
            simp only [goOver]
            split
            · exact ih _ (walkF_le k a c h)
            · exact walkF_le k a c h
        exact this _ _ (by omega)
theorem encE_take (e : Ep) : (encE e).take 7 = encE e := by rw [encE_eq]; rfl
theorem encE_leaf (e : Ep) : (encE e).all leafok = true := by rw [encE_eq]; rfl
theorem encE_clo (e : Ep) : (encE e).all clo = true := by rw [encE_eq]; rfl
attribute [go_sem] encE_take encE_leaf encE_clo
theorem Bd.arg {e a : Ep} {i : Nat} (h : Bd e) (hx : e.args[i]? = some a) : Bd a := by
  cases h with
  | mk op kind n text table name args h1 h2 h3 h4 h => exact h a (List.mem_of_getElem? hx)
theorem keep_new {σ : Hp} {i n j : Nat} {v x : Ob} {y : Option Ob} (hi : σ i = some v) (hf : ∀ j, n ≤ j → σ j = none) (hin : i < n) (h : upd σ i (some v) j = some x) : upd σ n y j = some x := by
  by_cases e : j = n
  · subst e
    rw [upd_not (by omega), hf _ (Nat.le_refl _)] at h; cases h
  · rw [upd_not e]
    by_cases e2 : j = i
    · subst e2; rw [upd_is rfl] at h; rw [hi]; exact h
    · rw [upd_not e2] at h; exact h
theorem walk_con : ∀ (k : Nat) (e : Ep) (c i id : Nat) (lv : Int), lv = 13 - k → Bd e → c ≤ 64 → k ≤ 12 → ConW Tryd.prog 32 [.rf i 1 0 0, .ag (encE e), .sc (.int .i64 lv)] [(i, blk1 (.sc (.int .i64 c)))] id (endW (walkF k e c).1) [(i, some (blk1 (.sc (.int .i64 ((walkF k e c).2 : Int)))))] := by
  intro k
  induction k with
  | zero =>
    intro e c i id lv hlv hb hc hk
    refine conW_less' (by kernel_rfl) (fun σ n R hp hf hR => by_psyntax_walker_walk ?_)
    have hi := hp _ (List.mem_singleton.2 rfl)
    clear hp
    have hin : i < n := Nat.lt_of_not_le (fun h => by rw [hf i h] at hi; cases hi)
    have hl : ¬ lv ≤ 12 := by omega
    have HR := Lib.hid hR; clear hR
    clear hlv
    simp (contextual := true) (maxSteps := 1000000) (disch := omega) only [sh_psyntax_walker_walk, encE_eq, go_sem, wrapI, wrapB, upd_is, upd_not, Nat.reduceAdd, Nat.reduceSub, Nat.reduceMul, Nat.reduceLeDiff, Nat.reduceEqDiff, Int.reduceAdd, Int.reduceSub, Int.reduceMul, Int.reduceNeg, Int.reduceLT, Int.reduceLE, Int.reduceEq, Int.reduceToNat, reduceCtorEq, reduceIte, Nat.zero_add, Nat.add_zero, *]
    refine CALL_con0 (syneed_con _ _) rfl ?_
    simp (contextual := true) (maxSteps := 1000000) (disch := omega) only [go_sem, wrapI, wrapB, upd_is, upd_not, Nat.reduceAdd, Nat.reduceSub, Nat.reduceMul, Nat.reduceLeDiff, Nat.reduceEqDiff, Int.reduceAdd, Int.reduceSub, Int.reduceMul, Int.reduceNeg, Int.reduceLT, Int.reduceLE, Int.reduceEq, Int.reduceToNat, reduceCtorEq, reduceIte, Nat.zero_add, Nat.add_zero, *]
    exact HR.out _ _ _ rfl (fun j x h => keep_new hi hf hin h)
  | succ k ih =>
    intro e c i id lv hlv hb hc hk
    refine conW_less' (by kernel_rfl) (fun σ n R hp hf hR => by_psyntax_walker_walk ?_)
    have hi := hp _ (List.mem_singleton.2 rfl)
    simp only [blk1] at hi
    clear hp
    have hin : i < n := Nat.lt_of_not_le (fun h => by rw [hf i h] at hi; cases hi)
    have hne : n ≠ i := by omega
    have hl : lv ≤ 12 := by omega
    have hl0 : 0 ≤ lv := by omega
    have HR := Lib.hid hR; clear hR
    have HL := Lib.hid hlv; clear hlv
    have HI := Lib.hid ih; clear ih
    simp (contextual := true) (maxSteps := 1000000) (disch := omega) only [sh_psyntax_walker_walk, go_sem, wrapI, wrapB, upd_is, upd_not, Nat.reduceAdd, Nat.reduceSub, Nat.reduceMul, Nat.reduceLeDiff, Nat.reduceEqDiff, Int.reduceAdd, Int.reduceSub, Int.reduceMul, Int.reduceNeg, Int.reduceLT, Int.reduceLE, Int.reduceEq, Int.reduceToNat, reduceCtorEq, reduceIte, Nat.zero_add, Nat.add_zero, *]
    rw [encE_eq]
    refine CALL_con0 (syneed_con _ _) rfl ?_
    simp (contextual := true) (maxSteps := 1000000) (disch := omega) only [go_sem, wrapI, wrapB, upd_is, upd_not, Nat.reduceAdd, Nat.reduceSub, Nat.reduceMul, Nat.reduceLeDiff, Nat.reduceEqDiff, Int.reduceAdd, Int.reduceSub, Int.reduceMul, Int.reduceNeg, Int.reduceLT, Int.reduceLE, Int.reduceEq, Int.reduceToNat, reduceCtorEq, reduceIte, Nat.zero_add, Nat.add_zero, *]
    refine CALL_con0 (syneed_con _ _) rfl ?_
    by_cases h64 : (c : Int) < 64
    · simp (contextual := true) (maxSteps := 1000000) (disch := omega) only [go_sem, wrapI, wrapB, upd_is, upd_not, Nat.reduceAdd, Nat.reduceSub, Nat.reduceMul, Nat.reduceLeDiff, Nat.reduceEqDiff, Int.reduceAdd, Int.reduceSub, Int.reduceMul, Int.reduceNeg, Int.reduceLT, Int.reduceLE, Int.reduceEq, Int.reduceToNat, reduceCtorEq, reduceIte, Nat.zero_add, Nat.add_zero, *]
      refine CALL_con0 (part_con e hb) (by simp only [brwL_cons, brwL_nil, brw_ag, brw_sc, brw_s, brw_tr, encE_eq, List.append_nil, Option.map_some, List.nil_append]) ?_
      simp (contextual := true) (maxSteps := 1000000) (disch := omega) only [go_sem, wrapI, wrapB, upd_is, upd_not, Nat.reduceAdd, Nat.reduceSub, Nat.reduceMul, Nat.reduceLeDiff, Nat.reduceEqDiff, Int.reduceAdd, Int.reduceSub, Int.reduceMul, Int.reduceNeg, Int.reduceLT, Int.reduceLE, Int.reduceEq, Int.reduceToNat, reduceCtorEq, reduceIte, Nat.zero_add, Nat.add_zero, *]
      refine CALL_con0 (syneed_con _ _) rfl ?_
      cases hp : partOk e with
      | false =>
        simp (contextual := true) (maxSteps := 1000000) (disch := omega) only [go_sem, wrapI, wrapB, upd_is, upd_not, Nat.reduceAdd, Nat.reduceSub, Nat.reduceMul, Nat.reduceLeDiff, Nat.reduceEqDiff, Int.reduceAdd, Int.reduceSub, Int.reduceMul, Int.reduceNeg, Int.reduceLT, Int.reduceLE, Int.reduceEq, Int.reduceToNat, reduceCtorEq, reduceIte, Nat.zero_add, Nat.add_zero, *]
        have hw : walkF (k + 1) e c = (9, c) := by simp [walkF, hp, show ¬ 64 ≤ c by omega]
        exact HR.out _ _ _ (by rw [hw]; rfl) (by rw [hw]; exact fun j x h => keep_new hi hf hin h)
      | true =>
        simp (contextual := true) (maxSteps := 1000000) (disch := omega) only [go_sem, wrapI, wrapB, upd_is, upd_not, Nat.reduceAdd, Nat.reduceSub, Nat.reduceMul, Nat.reduceLeDiff, Nat.reduceEqDiff, Int.reduceAdd, Int.reduceSub, Int.reduceMul, Int.reduceNeg, Int.reduceLT, Int.reduceLE, Int.reduceEq, Int.reduceToNat, reduceCtorEq, reduceIte, Nat.zero_add, Nat.add_zero, *]
        intro hlen
        have hw : walkF (k + 1) e c = goOver (walkF k) e.args (c + 1) := by simp [walkF, hp, show ¬ 64 ≤ c by omega]
        rw [hw] at HR
        refine LOOP_listM e.args (fun j s σ' n' => ∃ x y, s = [x, y, .sc (.int .i64 j)] ∧ (goOver (walkF k) (e.args.take j) (c + 1)).1 = 0 ∧ (goOver (walkF k) (e.args.take j) (c + 1)).2 ≤ 64 ∧
          σ' i = some (.c ⟨1, [[.sc (.int .i64 ((goOver (walkF k) (e.args.take j) (c + 1)).2 : Nat))]], true, false⟩) ∧ (∀ q z, q ≠ i → σ q = some z → σ' q = some z)) (.refl ⟨_, _, rfl, rfl, ?_, ?_, ?_⟩) ?_ ?_
        · simp only [List.take_zero, goOver]; omega
        · rw [upd_is rfl]; rfl
        · intro q z hq hz
          rw [upd_not hq, upd_not (fun e => by rw [e, hf n (Nat.le_refl _)] at hz; cases hz)]; exact hz
        · rintro j a K s' σ' n' hx hj hj' hn ⟨x, y, rfl, h0, h64', hci, hkp⟩ hK
          have hne' : n' ≠ i := by omega
          have HK := Lib.hid hK; clear hK
          have HP := Lib.hid hkp; clear hkp
          generalize hg : goOver (walkF k) (e.args.take j) (c + 1) = g at *
          have HG := Lib.hid hg; clear hg
          have FR := Lib.hid hf; clear hf hi
          simp (contextual := true) (maxSteps := 1000000) (disch := omega) only [lb_psyntax_walker_walk2, go_sem, wrapI, wrapB, upd_is, upd_not, Nat.reduceAdd, Nat.reduceSub, Nat.reduceMul, Nat.reduceLeDiff, Nat.reduceEqDiff, Int.reduceAdd, Int.reduceSub, Int.reduceMul, Int.reduceNeg, Int.reduceLT, Int.reduceLE, Int.reduceEq, Int.reduceToNat, reduceCtorEq, reduceIte, Nat.zero_add, Nat.add_zero, *]
          have hnext : goOver (walkF k) (e.args.take (j + 1)) (c + 1) = walkF k a g.2 := by
            rw [List.take_add_one, hx, goOver_append _ _ _ _ (by rw [HG.out]; exact h0), HG.out]
            simp only [Option.toList, goOver]
            split
            · rename_i h; exact Prod.ext h.symm rfl
            · rfl
          have hle := walkF_le k a g.2 h64'
          refine CALL_conW (HI.out a g.2 i _ (lv + 1) (by have := HL.out; omega) (hb.arg hx) h64' (by omega)) ?_ ?_
          · intro p hp'
            simp only [List.mem_singleton] at hp'
            subst hp'
            simp only
            rw [upd_not hne'.symm, upd_not hne'.symm]; exact hci
          · intro n2 hn2
            have keep : ∀ (v : Option Ob) (b1 b2 : Option Ob) (q : Nat) (z : Ob), q ≠ i → σ q = some z → upd (upd (upd σ' n' b1) n' b2) i v q = some z := by
              intro v b1 b2 q z hq hz
              have hqn : q ≠ n' := fun e => by
                have := FR.out q (by omega)
                rw [this] at hz; cases hz
              rw [upd_not hq, upd_not hqn, upd_not hqn]; exact HP.out q z hq hz
            generalize hw2 : walkF k a g.2 = r at *
            by_cases h1 : r.1 = 0
            · simp (contextual := true) (maxSteps := 1000000) (disch := omega) only [endW, go_sem, wrapI, wrapB, upd_is, upd_not, Nat.reduceAdd, Nat.reduceSub, Nat.reduceMul, Nat.reduceLeDiff, Nat.reduceEqDiff, Int.reduceAdd, Int.reduceSub, Int.reduceMul, Int.reduceNeg, Int.reduceLT, Int.reduceLE, Int.reduceEq, Int.reduceToNat, reduceCtorEq, reduceIte, Nat.zero_add, Nat.add_zero, *]
              refine HK.out _ _ _ (.refl ⟨_, _, rfl, ?_, ?_, ?_, fun q z hq hz => keep _ _ _ q z hq hz⟩)
              · rw [hnext]; exact h1
              · rw [hnext]; exact hle
              · rw [hnext, upd_is rfl]
            · simp (contextual := true) (maxSteps := 1000000) (disch := omega) only [endW, go_sem, wrapI, wrapB, upd_is, upd_not, Nat.reduceAdd, Nat.reduceSub, Nat.reduceMul, Nat.reduceLeDiff, Nat.reduceEqDiff, Int.reduceAdd, Int.reduceSub, Int.reduceMul, Int.reduceNeg, Int.reduceLT, Int.reduceLE, Int.reduceEq, Int.reduceToNat, reduceCtorEq, reduceIte, Nat.zero_add, Nat.add_zero, *]
              have hall : goOver (walkF k) e.args (c + 1) = r := by
                have := goOver_stop (walkF k) (e.args.take (j + 1)) (e.args.drop (j + 1)) (c + 1) (by rw [hnext]; exact h1)
                rw [List.take_append_drop, hnext] at this; exact this
              rw [hall] at HR
              refine HR.out _ _ _ (by rw [endW, if_neg h1]) (fun q z h => ?_)
              simp only [applyW] at h
              by_cases e1 : q = i
              · subst e1; rw [upd_is rfl] at h ⊢; exact h
              · rw [upd_not e1] at h; exact keep _ _ _ q z e1 h
        · rintro K s' σ' n' hn ⟨x, y, rfl, h0, _, hci, hkp⟩
          rw [List.take_length] at h0 hci
          simp (contextual := true) (maxSteps := 1000000) (disch := omega) only [lb_psyntax_walker_walk2, go_sem, wrapI, wrapB, upd_is, upd_not, Nat.reduceAdd, Nat.reduceSub, Nat.reduceMul, Nat.reduceLeDiff, Nat.reduceEqDiff, Int.reduceAdd, Int.reduceSub, Int.reduceMul, Int.reduceNeg, Int.reduceLT, Int.reduceLE, Int.reduceEq, Int.reduceToNat, reduceCtorEq, reduceIte, Nat.zero_add, Nat.add_zero, *]
          refine HR.out _ _ _ (by rw [endW, if_pos h0]) (fun q z h => ?_)
          simp only [applyW] at h
          by_cases e1 : q = i
          · subst e1; rw [upd_is rfl] at h; rw [hci]; exact h
          · rw [upd_not e1] at h; exact hkp q z e1 h
    · simp (contextual := true) (maxSteps := 1000000) (disch := omega) only [go_sem, wrapI, wrapB, upd_is, upd_not, Nat.reduceAdd, Nat.reduceSub, Nat.reduceMul, Nat.reduceLeDiff, Nat.reduceEqDiff, Int.reduceAdd, Int.reduceSub, Int.reduceMul, Int.reduceNeg, Int.reduceLT, Int.reduceLE, Int.reduceEq, Int.reduceToNat, reduceCtorEq, reduceIte, Nat.zero_add, Nat.add_zero, *]
      have hw : walkF (k + 1) e c = (3, c) := by simp [walkF, show 64 ≤ c by omega]
      exact HR.out _ _ _ (by rw [hw]; rfl) (by rw [hw]; exact fun j x h => keep_new hi hf hin h)
end Go.Proofs.YtodoejfkjimeaaaDoor
