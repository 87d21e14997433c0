/- Packed by a program of this repo: Ca Cw Sp Rg Su Va. -/
import Derived.Test.YtodoejfkjimeaaaDoorKRMu
import Derived.Test.YtodoejfkjimeaaaDoorKRSh7
import Derived.Test.YtodoejfkjimeaaaDoorKRMs
import Derived.Lib.Replace
import Derived.Lib.ReplaceLaws
import Derived.Lib.Strings
import Derived.Test.YtodoejfkjimeaaaDoorProg
import Derived.Lib.Builder
import Derived.Lib.UnsafeStr
set_option linter.unusedSimpArgs false
set_option linter.unusedVariables false
set_option maxRecDepth 100000
namespace Go.Proofs.YtodoejfkjimeaaaDoor
open Go Go.RowKit Am

theorem syneed_con (b : Bool) (n : Int) : Con Tryd.prog 62 [.sc (.bool b), .sc (.int .i64 n)] (cond b (.ret (.tp [])) (.pan (.iface 28 (.int .i64 n)))) := by
  refine con_of (by_syntax_need ?_)
  cases b
  · simp only [sh_syntax_need, go_sem]
    exact RC_pan rfl
  · simp only [sh_syntax_need, go_sem]
    exact RC_ret rfl rfl
def argsN (op : Int) : Int × Bool :=
  if op = 0 ∨ op = 1 ∨ op = 18 then (0, true) else if op = 2 ∨ op = 3 ∨ op = 16 ∨ op = 17 ∨ op = 19 ∨ op = 20 ∨ op = 21 ∨ op = 22 then (1, true) else (2, decide (4 ≤ op) && decide (op < 16))
theorem args_con (op : Int) : Con Tryd.prog 104 [.sc (.int .i64 op)] (.ret (.tp [.sc (.int .i64 (argsN op).1), .sc (.bool (argsN op).2)])) := by
  refine con_of (by_syntax_Args ?_)
  simp only [sh_syntax_Args, go_sem]
  (repeat' first | contradiction | simp (contextual:=true) (maxSteps:=1000000) (disch:=omega) only [go_sem,wrapI,wrapB,upd_is,upd_not,Nat.reduceAdd,Nat.reduceSub,Nat.reduceMul,Nat.reduceLeDiff,Nat.reduceEqDiff,Int.reduceAdd,Int.reduceSub,Int.reduceMul,Int.reduceNeg,Int.reduceLT,Int.reduceLE,Int.reduceEq,Int.reduceToNat,reduceCtorEq,reduceIte,Nat.zero_add,Nat.add_zero, *] | intro _ | refine And.intro ?_ ?_ | simp only [COND_bif, COND_bool, guardP_if, guardK_if, guardD_if, onEnd_cond])
  all_goals exact RC_ret rfl (by simp [argsN, *])
def valOk (kind n : Int) (text : Tx) : Bool :=
  if kind = 0 then decide (n = 0) && decide (text = []) else if kind = 1 then decide (text = []) else if kind = 2 then decide (text = []) && decide (IntKind.u64.wrap n ≤ 1) else if kind = 3 then decide (n = 0) && decide ((text.length : Int) ≤ 64) else false
theorem valCheck_con (kind n : Int) (text : Tx) : Con Tryd.prog 105 [.ag [.sc (.int .i64 kind), .sc (.int .i64 n), .s text]] (.ret (.sc (.int .i64 (if valOk kind n text then 0 else 9)))) := by
  refine con_of (by_value_Check ?_)
  simp only [sh_value_Check, go_sem]
  (repeat' first | contradiction | simp (contextual:=true) (maxSteps:=1000000) (disch:=omega) only [go_sem,wrapI,wrapB,upd_is,upd_not,Nat.reduceAdd,Nat.reduceSub,Nat.reduceMul,Nat.reduceLeDiff,Nat.reduceEqDiff,Int.reduceAdd,Int.reduceSub,Int.reduceMul,Int.reduceNeg,Int.reduceLT,Int.reduceLE,Int.reduceEq,Int.reduceToNat,reduceCtorEq,reduceIte,Nat.zero_add,Nat.add_zero, *] | intro _ | refine And.intro ?_ ?_ | simp only [COND_bif, COND_bool, guardP_if, guardK_if, guardD_if, onEnd_cond])
  all_goals exact RC_ret rfl (by first | (simp_all [valOk]; done) | grind [valOk])
inductive Bd : Ep → Prop
  | mk (op kind n : Int) (text table name : Tx) (args : List Ep) (h1 : text.length ≤ 1048576) (h2 : table.length ≤ 1048576) (h3 : name.length ≤ 1048576) (h4 : args.length ≤ 1048576) (h : ∀ a ∈ args, Bd a) : Bd (.mk op kind n text table name args)
def partOk (e : Ep) : Bool :=
  (argsN e.op).2 && decide ((argsN e.op).1 = (e.args.length : Int)) &&
  (if e.op = 0 then decide (e.table ++ e.name = []) && valOk e.kind e.n e.text && (decide (¬ e.kind = 1) || decide (0 ≤ e.n))
   else if e.op = 1 then (decide (e.kind = 0) && (decide (e.n = 0) && decide (e.text = []))) && nameL e.name && (decide (e.table = []) || nameL e.table)
   else (decide (e.kind = 0) && (decide (e.n = 0) && decide (e.text = []))) && decide (e.table ++ e.name = []))
set_option maxHeartbeats 4000000 in
theorem part_con (e : Ep) (hb : Bd e) : Con Tryd.prog 63 [.ag (encE e)] (.ret (.sc (.bool (partOk e)))) := by
  refine con_of (by_syntax_part ?_)
  obtain ⟨op, kind, n, text, table, name, args, h1, h2, h3, h4, h⟩ := hb
  rw [encE_eq]
  have hadd : table.length + name.length ≤ 9223372036854775807 := by omega
  simp (contextual:=true) (maxSteps:=1000000) (disch:=omega) only [sh_syntax_part,Ep.op,Ep.kind,Ep.n,Ep.text,Ep.table,Ep.name,Ep.args,go_sem,wrapI,wrapB,upd_is,upd_not,Nat.reduceAdd,Nat.reduceSub,Nat.reduceMul,Nat.reduceLeDiff,Nat.reduceEqDiff,Int.reduceAdd,Int.reduceSub,Int.reduceMul,Int.reduceNeg,Int.reduceLT,Int.reduceLE,Int.reduceEq,Int.reduceToNat,reduceCtorEq,reduceIte,Nat.zero_add,Nat.add_zero, *]
  refine CALL_con0 (args_con _) rfl ?_
  (repeat' first | contradiction | simp (contextual:=true) (maxSteps:=1000000) (disch:=omega) only [go_sem,wrapI,wrapB,upd_is,upd_not,Nat.reduceAdd,Nat.reduceSub,Nat.reduceMul,Nat.reduceLeDiff,Nat.reduceEqDiff,Int.reduceAdd,Int.reduceSub,Int.reduceMul,Int.reduceNeg,Int.reduceLT,Int.reduceLE,Int.reduceEq,Int.reduceToNat,reduceCtorEq,reduceIte,Nat.zero_add,Nat.add_zero, *] | intro _ | refine And.intro ?_ ?_ | refine CALL_con0 (valCheck_con _ _ _) rfl ?_ | refine CALL_con0 (name_con _ (by omega)) rfl ?_ | simp only [COND_bif, COND_bool, guardP_if, guardK_if, guardD_if, onEnd_cond])
  all_goals first
    | exact RC_ret rfl (by first | (simp_all [partOk, Ep.op, Ep.kind, Ep.n, Ep.text, Ep.table, Ep.name, Ep.args]; done) | grind [partOk, Ep.op, Ep.kind, Ep.n, Ep.text, Ep.table, Ep.name, Ep.args])
end Go.Proofs.YtodoejfkjimeaaaDoor

set_option linter.unusedSimpArgs false
set_option linter.unusedVariables false
set_option maxRecDepth 100000
namespace Go.Proofs.YtodoejfkjimeaaaDoor
open Go Go.RowKit Am

def goOver (f : Ep → Nat → Int × Nat) : List Ep → Nat → Int × Nat
  | [], c => (0, c)
  | a :: l, c => if (f a c).1 = 0 then goOver f l (f a c).2 else f a c
def walkF : Nat → Ep → Nat → Int × Nat
  | 0, _, c => (10, c)
  | k + 1, e, c => if 64 ≤ c then (3, c) else if partOk e = false then (9, c) else goOver (walkF k) e.args (c + 1)
theorem goOver_append (f : Ep → Nat → Int × Nat) : ∀ (l m : List Ep) (c : Nat), (goOver f l c).1 = 0 → goOver f (l ++ m) c = goOver f m (goOver f l c).2
  | [], m, c, _ => rfl
  | a :: l, m, c, h => by
    simp only [List.cons_append, goOver] at h ⊢
    split
    · rename_i h0; rw [if_pos h0] at h; exact goOver_append f l m _ h
    · rename_i h0; rw [if_neg h0] at h; exact absurd h h0
theorem goOver_stop (f : Ep → Nat → Int × Nat) : ∀ (l m : List Ep) (c : Nat), (goOver f l c).1 ≠ 0 → goOver f (l ++ m) c = goOver f l c
  | [], m, c, h => absurd rfl h
  | a :: l, m, c, h => by
    simp only [List.cons_append, goOver] at h ⊢
    split
    · rename_i h0; rw [if_pos h0] at h; exact goOver_stop f l m _ h
    · rfl
abbrev errPan (n : Int) : AEnd := .pan (.iface 28 (.int .i64 n))
def endW (n : Int) : AEnd := if n = 0 then .ret (.tp []) else errPan n
theorem walkF_le : ∀ (k : Nat) (e : Ep) (c : Nat), c ≤ 64 → (walkF k e c).2 ≤ 64
  | 0, e, c, h => h
  | k + 1, e, c, h => by
    simp only [walkF]
    split
    · exact h
    · split
      · exact h
      · have : ∀ (l : List Ep) (c : Nat), c ≤ 64 → (goOver (walkF k) l c).2 ≤ 64 := by
          intro l
          induction l with
          | nil => intro c h; exact h
          | cons a l ih =>
            intro c h
            simp only [goOver]
            split
            · exact ih _ (walkF_le k a c h)
            · exact walkF_le k a c h
        exact this _ _ (by omega)
theorem encE_take (e : Ep) : (encE e).take 7 = encE e := by rw [encE_eq]; rfl
theorem encE_leaf (e : Ep) : (encE e).all leafok = true := by rw [encE_eq]; rfl
theorem encE_clo (e : Ep) : (encE e).all clo = true := by rw [encE_eq]; rfl
attribute [go_sem] encE_take encE_leaf encE_clo
theorem Bd.arg {e a : Ep} {i : Nat} (h : Bd e) (hx : e.args[i]? = some a) : Bd a := by
  cases h with
  | mk op kind n text table name args h1 h2 h3 h4 h => exact h a (List.mem_of_getElem? hx)
theorem keep_new {σ : Hp} {i n j : Nat} {v x : Ob} {y : Option Ob} (hi : σ i = some v) (hf : ∀ j, n ≤ j → σ j = none) (hin : i < n) (h : upd σ i (some v) j = some x) : upd σ n y j = some x := by
  by_cases e : j = n
  · subst e
    rw [upd_not (by omega), hf _ (Nat.le_refl _)] at h; cases h
  · rw [upd_not e]
    by_cases e2 : j = i
    · subst e2; rw [upd_is rfl] at h; rw [hi]; exact h
    · rw [upd_not e2] at h; exact h
theorem walk_con : ∀ (k : Nat) (e : Ep) (c i id : Nat) (lv : Int), lv = 13 - k → Bd e → c ≤ 64 → k ≤ 12 → ConW Tryd.prog 32 [.rf i 1 0 0, .ag (encE e), .sc (.int .i64 lv)] [(i, blk1 (.sc (.int .i64 c)))] id (endW (walkF k e c).1) [(i, some (blk1 (.sc (.int .i64 ((walkF k e c).2 : Int)))))] := by
  intro k
  induction k with
  | zero =>
    intro e c i id lv hlv hb hc hk
    refine conW_less' (by kernel_rfl) (fun σ n R hp hf hR => by_psyntax_walker_walk ?_)
    have hi := hp _ (List.mem_singleton.2 rfl)
    clear hp
    have hin : i < n := Nat.lt_of_not_le (fun h => by rw [hf i h] at hi; cases hi)
    have hl : ¬ lv ≤ 12 := by omega
    have HR := Lib.hid hR; clear hR
    clear hlv
    simp (contextual:=true) (maxSteps:=1000000) (disch:=omega) only [sh_psyntax_walker_walk,encE_eq,go_sem,wrapI,wrapB,upd_is,upd_not,Nat.reduceAdd,Nat.reduceSub,Nat.reduceMul,Nat.reduceLeDiff,Nat.reduceEqDiff,Int.reduceAdd,Int.reduceSub,Int.reduceMul,Int.reduceNeg,Int.reduceLT,Int.reduceLE,Int.reduceEq,Int.reduceToNat,reduceCtorEq,reduceIte,Nat.zero_add,Nat.add_zero, *]
    refine CALL_con0 (syneed_con _ _) rfl ?_
    simp (contextual:=true) (maxSteps:=1000000) (disch:=omega) only [go_sem,wrapI,wrapB,upd_is,upd_not,Nat.reduceAdd,Nat.reduceSub,Nat.reduceMul,Nat.reduceLeDiff,Nat.reduceEqDiff,Int.reduceAdd,Int.reduceSub,Int.reduceMul,Int.reduceNeg,Int.reduceLT,Int.reduceLE,Int.reduceEq,Int.reduceToNat,reduceCtorEq,reduceIte,Nat.zero_add,Nat.add_zero, *]
    exact HR.out _ _ _ rfl (fun j x h => keep_new hi hf hin h)
  | succ k ih =>
    intro e c i id lv hlv hb hc hk
    refine conW_less' (by kernel_rfl) (fun σ n R hp hf hR => by_psyntax_walker_walk ?_)
    have hi := hp _ (List.mem_singleton.2 rfl)
    simp only [blk1] at hi
    clear hp
    have hin : i < n := Nat.lt_of_not_le (fun h => by rw [hf i h] at hi; cases hi)
    have hne : n ≠ i := by omega
    have hl : lv ≤ 12 := by omega
    have hl0 : 0 ≤ lv := by omega
    have HR := Lib.hid hR; clear hR
    have HL := Lib.hid hlv; clear hlv
    have HI := Lib.hid ih; clear ih
    simp (contextual:=true) (maxSteps:=1000000) (disch:=omega) only [sh_psyntax_walker_walk,go_sem,wrapI,wrapB,upd_is,upd_not,Nat.reduceAdd,Nat.reduceSub,Nat.reduceMul,Nat.reduceLeDiff,Nat.reduceEqDiff,Int.reduceAdd,Int.reduceSub,Int.reduceMul,Int.reduceNeg,Int.reduceLT,Int.reduceLE,Int.reduceEq,Int.reduceToNat,reduceCtorEq,reduceIte,Nat.zero_add,Nat.add_zero, *]
    rw [encE_eq]
    refine CALL_con0 (syneed_con _ _) rfl ?_
    simp (contextual:=true) (maxSteps:=1000000) (disch:=omega) only [go_sem,wrapI,wrapB,upd_is,upd_not,Nat.reduceAdd,Nat.reduceSub,Nat.reduceMul,Nat.reduceLeDiff,Nat.reduceEqDiff,Int.reduceAdd,Int.reduceSub,Int.reduceMul,Int.reduceNeg,Int.reduceLT,Int.reduceLE,Int.reduceEq,Int.reduceToNat,reduceCtorEq,reduceIte,Nat.zero_add,Nat.add_zero, *]
    refine CALL_con0 (syneed_con _ _) rfl ?_
    by_cases h64 : (c : Int) < 64
    · simp (contextual:=true) (maxSteps:=1000000) (disch:=omega) only [go_sem,wrapI,wrapB,upd_is,upd_not,Nat.reduceAdd,Nat.reduceSub,Nat.reduceMul,Nat.reduceLeDiff,Nat.reduceEqDiff,Int.reduceAdd,Int.reduceSub,Int.reduceMul,Int.reduceNeg,Int.reduceLT,Int.reduceLE,Int.reduceEq,Int.reduceToNat,reduceCtorEq,reduceIte,Nat.zero_add,Nat.add_zero, *]
      refine CALL_con0 (part_con e hb) (by simp only [brwL_cons, brwL_nil, brw_ag, brw_sc, brw_s, brw_tr, encE_eq, List.append_nil, Option.map_some, List.nil_append]) ?_
      simp (contextual:=true) (maxSteps:=1000000) (disch:=omega) only [go_sem,wrapI,wrapB,upd_is,upd_not,Nat.reduceAdd,Nat.reduceSub,Nat.reduceMul,Nat.reduceLeDiff,Nat.reduceEqDiff,Int.reduceAdd,Int.reduceSub,Int.reduceMul,Int.reduceNeg,Int.reduceLT,Int.reduceLE,Int.reduceEq,Int.reduceToNat,reduceCtorEq,reduceIte,Nat.zero_add,Nat.add_zero, *]
      refine CALL_con0 (syneed_con _ _) rfl ?_
      cases hp : partOk e with
      | false =>
        simp (contextual:=true) (maxSteps:=1000000) (disch:=omega) only [go_sem,wrapI,wrapB,upd_is,upd_not,Nat.reduceAdd,Nat.reduceSub,Nat.reduceMul,Nat.reduceLeDiff,Nat.reduceEqDiff,Int.reduceAdd,Int.reduceSub,Int.reduceMul,Int.reduceNeg,Int.reduceLT,Int.reduceLE,Int.reduceEq,Int.reduceToNat,reduceCtorEq,reduceIte,Nat.zero_add,Nat.add_zero, *]
        have hw : walkF (k + 1) e c = (9, c) := by simp [walkF, hp, show ¬ 64 ≤ c by omega]
        exact HR.out _ _ _ (by rw [hw]; rfl) (by rw [hw]; exact fun j x h => keep_new hi hf hin h)
      | true =>
        simp (contextual:=true) (maxSteps:=1000000) (disch:=omega) only [go_sem,wrapI,wrapB,upd_is,upd_not,Nat.reduceAdd,Nat.reduceSub,Nat.reduceMul,Nat.reduceLeDiff,Nat.reduceEqDiff,Int.reduceAdd,Int.reduceSub,Int.reduceMul,Int.reduceNeg,Int.reduceLT,Int.reduceLE,Int.reduceEq,Int.reduceToNat,reduceCtorEq,reduceIte,Nat.zero_add,Nat.add_zero, *]
        intro hlen
        have hw : walkF (k + 1) e c = goOver (walkF k) e.args (c + 1) := by simp [walkF, hp, show ¬ 64 ≤ c by omega]
        rw [hw] at HR
        refine LOOP_listM e.args (fun j s σ' n' => ∃ x y, s = [x, y, .sc (.int .i64 j)] ∧ (goOver (walkF k) (e.args.take j) (c + 1)).1 = 0 ∧ (goOver (walkF k) (e.args.take j) (c + 1)).2 ≤ 64 ∧
          σ' i = some (.c ⟨1, [[.sc (.int .i64 ((goOver (walkF k) (e.args.take j) (c + 1)).2 : Nat))]], true, false⟩) ∧ (∀ q z, q ≠ i → σ q = some z → σ' q = some z)) (.refl ⟨_, _, rfl, rfl, ?_, ?_, ?_⟩) ?_ ?_
        · simp only [List.take_zero, goOver]; omega
        · rw [upd_is rfl]; rfl
        · intro q z hq hz
          rw [upd_not hq, upd_not (fun e => by rw [e, hf n (Nat.le_refl _)] at hz; cases hz)]; exact hz
        · rintro j a K s' σ' n' hx hj hj' hn ⟨x, y, rfl, h0, h64', hci, hkp⟩ hK
          have hne' : n' ≠ i := by omega
          have HK := Lib.hid hK; clear hK
          have HP := Lib.hid hkp; clear hkp
          generalize hg : goOver (walkF k) (e.args.take j) (c + 1) = g at *
          have HG := Lib.hid hg; clear hg
          have FR := Lib.hid hf; clear hf hi
          simp (contextual:=true) (maxSteps:=1000000) (disch:=omega) only [lb_psyntax_walker_walk2,go_sem,wrapI,wrapB,upd_is,upd_not,Nat.reduceAdd,Nat.reduceSub,Nat.reduceMul,Nat.reduceLeDiff,Nat.reduceEqDiff,Int.reduceAdd,Int.reduceSub,Int.reduceMul,Int.reduceNeg,Int.reduceLT,Int.reduceLE,Int.reduceEq,Int.reduceToNat,reduceCtorEq,reduceIte,Nat.zero_add,Nat.add_zero, *]
          have hnext : goOver (walkF k) (e.args.take (j + 1)) (c + 1) = walkF k a g.2 := by
            rw [List.take_add_one, hx, goOver_append _ _ _ _ (by rw [HG.out]; exact h0), HG.out]
            simp only [Option.toList, goOver]
            split
            · rename_i h; exact Prod.ext h.symm rfl
            · rfl
          have hle := walkF_le k a g.2 h64'
          refine CALL_conW (HI.out a g.2 i _ (lv + 1) (by have := HL.out; omega) (hb.arg hx) h64' (by omega)) ?_ ?_
          · intro p hp'
            simp only [List.mem_singleton] at hp'
            subst hp'
            simp only
            rw [upd_not hne'.symm, upd_not hne'.symm]; exact hci
          · intro n2 hn2
            have keep : ∀ (v : Option Ob) (b1 b2 : Option Ob) (q : Nat) (z : Ob), q ≠ i → σ q = some z → upd (upd (upd σ' n' b1) n' b2) i v q = some z := by
              intro v b1 b2 q z hq hz
              have hqn : q ≠ n' := fun e => by
                have := FR.out q (by omega)
                rw [this] at hz; cases hz
              rw [upd_not hq, upd_not hqn, upd_not hqn]; exact HP.out q z hq hz
            generalize hw2 : walkF k a g.2 = r at *
            by_cases h1 : r.1 = 0
            · simp (contextual:=true) (maxSteps:=1000000) (disch:=omega) only [endW,go_sem,wrapI,wrapB,upd_is,upd_not,Nat.reduceAdd,Nat.reduceSub,Nat.reduceMul,Nat.reduceLeDiff,Nat.reduceEqDiff,Int.reduceAdd,Int.reduceSub,Int.reduceMul,Int.reduceNeg,Int.reduceLT,Int.reduceLE,Int.reduceEq,Int.reduceToNat,reduceCtorEq,reduceIte,Nat.zero_add,Nat.add_zero, *]
              refine HK.out _ _ _ (.refl ⟨_, _, rfl, ?_, ?_, ?_, fun q z hq hz => keep _ _ _ q z hq hz⟩)
              · rw [hnext]; exact h1
              · rw [hnext]; exact hle
              · rw [hnext, upd_is rfl]
            · simp (contextual:=true) (maxSteps:=1000000) (disch:=omega) only [endW,go_sem,wrapI,wrapB,upd_is,upd_not,Nat.reduceAdd,Nat.reduceSub,Nat.reduceMul,Nat.reduceLeDiff,Nat.reduceEqDiff,Int.reduceAdd,Int.reduceSub,Int.reduceMul,Int.reduceNeg,Int.reduceLT,Int.reduceLE,Int.reduceEq,Int.reduceToNat,reduceCtorEq,reduceIte,Nat.zero_add,Nat.add_zero, *]
              have hall : goOver (walkF k) e.args (c + 1) = r := by
                have := goOver_stop (walkF k) (e.args.take (j + 1)) (e.args.drop (j + 1)) (c + 1) (by rw [hnext]; exact h1)
                rw [List.take_append_drop, hnext] at this; exact this
              rw [hall] at HR
              refine HR.out _ _ _ (by rw [endW, if_neg h1]) (fun q z h => ?_)
              simp only [applyW] at h
              by_cases e1 : q = i
              · subst e1; rw [upd_is rfl] at h ⊢; exact h
              · rw [upd_not e1] at h; exact keep _ _ _ q z e1 h
        · rintro K s' σ' n' hn ⟨x, y, rfl, h0, _, hci, hkp⟩
          rw [List.take_length] at h0 hci
          simp (contextual:=true) (maxSteps:=1000000) (disch:=omega) only [lb_psyntax_walker_walk2,go_sem,wrapI,wrapB,upd_is,upd_not,Nat.reduceAdd,Nat.reduceSub,Nat.reduceMul,Nat.reduceLeDiff,Nat.reduceEqDiff,Int.reduceAdd,Int.reduceSub,Int.reduceMul,Int.reduceNeg,Int.reduceLT,Int.reduceLE,Int.reduceEq,Int.reduceToNat,reduceCtorEq,reduceIte,Nat.zero_add,Nat.add_zero, *]
          refine HR.out _ _ _ (by rw [endW, if_pos h0]) (fun q z h => ?_)
          simp only [applyW] at h
          by_cases e1 : q = i
          · subst e1; rw [upd_is rfl] at h; rw [hci]; exact h
          · rw [upd_not e1] at h; exact hkp q z e1 h
    · simp (contextual:=true) (maxSteps:=1000000) (disch:=omega) only [go_sem,wrapI,wrapB,upd_is,upd_not,Nat.reduceAdd,Nat.reduceSub,Nat.reduceMul,Nat.reduceLeDiff,Nat.reduceEqDiff,Int.reduceAdd,Int.reduceSub,Int.reduceMul,Int.reduceNeg,Int.reduceLT,Int.reduceLE,Int.reduceEq,Int.reduceToNat,reduceCtorEq,reduceIte,Nat.zero_add,Nat.add_zero, *]
      have hw : walkF (k + 1) e c = (3, c) := by simp [walkF, show 64 ≤ c by omega]
      exact HR.out _ _ _ (by rw [hw]; rfl) (by rw [hw]; exact fun j x h => keep_new hi hf hin h)
end Go.Proofs.YtodoejfkjimeaaaDoor

set_option linter.unusedSimpArgs false
set_option linter.unusedVariables false
set_option maxRecDepth 100000
namespace Go.Proofs.YtodoejfkjimeaaaDoor
open Go Go.RowKit Am
/-! what the program prints -/
def decF : Nat → Int → Tx
  | 0, _ => []
  | k + 1, n => if n < 0 ∧ n.tdiv 10 = 0 then 45 :: decF k (-n) else (if n.tdiv 10 ≠ 0 then decF k (n.tdiv 10) else []) ++ [UInt8.ofNat (48 + (n.tmod 10).natAbs)]
def litF (kind n : Int) (text : Tx) : Tx :=
  if kind = 0 then [78, 85, 76, 76] else if kind = 1 then decF 40 n else if kind = 2 then (if n = 1 then [84, 82, 85, 69] else [70, 65, 76, 83, 69]) else [39] ++ Lib.replaceAll text [39] [39, 39] ++ [39]
def signF (k : Nat) : Tx := ([[43], [45], [42], [47], [61], [60, 62], [60], [60, 61], [62], [62, 61], [65, 78, 68], [79, 82]] : List Tx).getD k []
def fnF (k : Nat) : Tx := ([[67, 79, 85, 78, 84], [83, 85, 77], [77, 73, 78], [77, 65, 88]] : List Tx).getD k []
def putF (op kind n : Int) (text table name : Tx) (l : List Tx) : Tx :=
  if op = 0 then litF kind n text
  else if op = 1 then Lib.trimPrefix (table ++ [46] ++ name) [46]
  else if op = 2 then [40, 45] ++ l.getD 0 [] ++ [41]
  else if op = 3 then [40, 78, 79, 84, 32] ++ l.getD 0 [] ++ [41]
  else if op = 16 then [40] ++ l.getD 0 [] ++ [32, 73, 83, 32, 78, 85, 76, 76, 41]
  else if op = 17 then [40] ++ l.getD 0 [] ++ [32, 73, 83, 32, 78, 79, 84, 32, 78, 85, 76, 76, 41]
  else if op = 18 then [67, 79, 85, 78, 84, 40, 42, 41]
  else if 19 ≤ op ∧ op ≤ 22 then fnF (op - 19).toNat ++ [40] ++ l.getD 0 [] ++ [41]
  else [40] ++ l.getD 0 [] ++ [32] ++ signF (op - 4).toNat ++ [32] ++ l.getD 1 [] ++ [41]
mutual
def printF : Ep → Tx
  | .mk op kind n text table name args => putF op kind n text table name (printFs args)
def printFs : List Ep → List Tx
  | [] => []
  | e :: l => printF e :: printFs l
end
theorem printFs_map : ∀ (l : List Ep), printFs l = l.map printF
  | [] => rfl
  | e :: l => by rw [printFs, printFs_map l]; rfl
theorem printF_eq (e : Ep) : printF e = putF e.op e.kind e.n e.text e.table e.name (e.args.map printF) := by
  cases e with
  | mk op kind n text table name args => rw [printF, printFs_map]; rfl
theorem args_two {op : Int} {n : Nat} (h : argsN op = ((n : Int), true)) : n ≤ 2 := by
  unfold argsN at h
  split at h
  · simp only [Prod.mk.injEq] at h; omega
  · split at h
    · simp only [Prod.mk.injEq] at h; omega
    · simp only [Prod.mk.injEq] at h; omega
theorem decF_len : ∀ (k : Nat) (n : Int), (decF k n).length ≤ k
  | 0, n => by simp [decF]
  | k + 1, n => by
    rw [decF]
    split
    · have := decF_len k (-n); simp; omega
    · split
      · have := decF_len k (n.tdiv 10); simp; omega
      · simp
def OKk : Nat → Ep → Prop
  | 0, _ => False
  | k + 1, e => partOk e = true ∧ ∀ a ∈ e.args, OKk k a
theorem walk_ok : ∀ (k : Nat) (e : Ep) (c : Nat), (walkF k e c).1 = 0 → OKk k e
  | 0, e, c, h => by simp [walkF] at h
  | k + 1, e, c, h => by
    simp only [walkF] at h
    split at h
    · simp at h
    · split at h
      · simp at h
      · rename_i h1 h2
        refine ⟨by simpa using h2, ?_⟩
        have : ∀ (l : List Ep) (c : Nat), (goOver (walkF k) l c).1 = 0 → ∀ a ∈ l, OKk k a := by
          intro l
          induction l with
          | nil => intro c _ a ha; cases ha
          | cons b l ih =>
            intro c hc a ha
            simp only [goOver] at hc
            split at hc
            · rename_i h0
              rcases List.mem_cons.1 ha with rfl | ha
              · exact walk_ok k a c h0
              · exact ih _ hc a ha
            · rename_i h0; exact absurd hc h0
        exact this _ _ h
theorem replaceK_len : ∀ (k : Nat) (s : List UInt8), (Lib.replaceK [39] [39, 39] k s).length ≤ s.length + 2 * k
  | 0, s => by simp [Lib.replaceK]
  | k + 1, s => by
    rw [Lib.replaceK]
    split
    · omega
    · have := replaceK_len k (s.drop ((Lib.index s [39]).toNat + [39].length))
      simp only [List.length_append, List.length_cons, List.length_nil, List.length_drop, List.length_take] at this ⊢
      omega
theorem replace_len {s : List UInt8} (h : Lib.count s [39] ≤ s.length) : (Lib.replaceAll s [39] [39, 39]).length ≤ 3 * s.length := by
  unfold Lib.replaceAll Lib.replace
  split
  · omega
  · have := replaceK_len (Lib.replaceNum s [39] (-1)) s
    have h2 : Lib.replaceNum s [39] (-1) = Lib.count s [39] := by simp [Lib.replaceNum]
    rw [h2] at this ⊢
    omega
theorem trim_len (s p : List UInt8) : (Lib.trimPrefix s p).length ≤ s.length := by
  unfold Lib.trimPrefix
  split <;> simp
theorem lit_len {kind n : Int} {text : Tx} (h : text.length ≤ 1048576) (hc : Lib.count text [39] ≤ text.length) : (litF kind n text).length ≤ 3900000 := by
  unfold litF
  split
  · simp
  · split
    · have := decF_len 40 n; omega
    · split
      · split <;> simp
      · have := replace_len hc
        simp only [List.length_append, List.length_cons, List.length_nil]
        omega
theorem getD_small {l : List Tx} {M : Nat} (h : ∀ t ∈ l, t.length ≤ M) (i : Nat) : (l.getD i []).length ≤ M := by
  rw [List.getD_eq_getElem?_getD]
  cases hx : l[i]? with
  | none => simp
  | some t => exact h t (List.mem_of_getElem? hx)
theorem put_len {op kind n : Int} {text table name : Tx} {l : List Tx} {M : Nat} (h : ∀ t ∈ l, t.length ≤ M) (h1 : text.length ≤ 1048576) (h2 : table.length ≤ 1048576) (h3 : name.length ≤ 1048576) (hc : Lib.count text [39] ≤ text.length) :
    (putF op kind n text table name l).length ≤ 3900000 ∨ (putF op kind n text table name l).length ≤ 2 * M + 100 := by
  have g0 := getD_small h 0
  have g1 := getD_small h 1
  have hs : (signF (op - 4).toNat).length ≤ 10 := getD_small (by decide) _
  have hf : (fnF (op - 19).toNat).length ≤ 10 := getD_small (by decide) _
  unfold putF
  split
  · exact .inl (lit_len h1 hc)
  · split
    · have := trim_len (table ++ [46] ++ name) [46]
      simp only [List.length_append, List.length_cons, List.length_nil] at this
      exact .inl (by omega)
    · right
      repeat' split
      all_goals simp only [List.length_append, List.length_cons, List.length_nil]
      all_goals omega
theorem count_le (l : List UInt8) : Lib.count l [39] ≤ l.length := by
  have h := Lib.countB_mul_le ⟨#[39]⟩ (by decide) l.length ⟨l.toArray⟩ (by simp [ByteArray.size])
  have e : Lib.countB ⟨l.toArray⟩ ⟨#[39]⟩ = Lib.count l [39] := by
    show Lib.count (l.toArray.toList) [39] = _
    simp
  rw [e] at h
  have e2 : (⟨#[39]⟩ : ByteArray).size = 1 := rfl
  have e3 : (⟨l.toArray⟩ : ByteArray).size = l.length := by simp [ByteArray.size]
  rw [e2, e3] at h
  omega
theorem print_len : ∀ (k : Nat) (e : Ep), OKk k e → Bd e → (printF e).length + 100 ≤ 4000000 * 2 ^ k
  | 0, e, h, _ => h.elim
  | k + 1, e, ⟨_, ha⟩, hb => by
    rw [printF_eq]
    have h1 : 1 ≤ 2 ^ k := Nat.one_le_two_pow
    have hM : ∀ t ∈ e.args.map printF, t.length ≤ 4000000 * 2 ^ k - 100 := by
      intro t ht
      obtain ⟨a, ha', rfl⟩ := List.mem_map.1 ht
      have := print_len k a (ha a ha') (by
        obtain ⟨i, hi⟩ := List.mem_iff_getElem?.1 ha'
        exact hb.arg hi)
      omega
    have hbt : e.text.length ≤ 1048576 ∧ e.table.length ≤ 1048576 ∧ e.name.length ≤ 1048576 := by
      cases hb with
      | mk op kind n text table name args h1 h2 h3 h4 h => exact ⟨h1, h2, h3⟩
    have := put_len (op := e.op) (kind := e.kind) (n := e.n) hM hbt.1 hbt.2.1 hbt.2.2 (count_le e.text)
    rw [Nat.pow_succ]
    omega
end Go.Proofs.YtodoejfkjimeaaaDoor

set_option linter.unusedSimpArgs false
set_option linter.unusedVariables false
namespace Go.Proofs.YtodoejfkjimeaaaDoor
open Go Go.RowKit Am

def rng (n : Int) : Prop := -9223372036854775808 ≤ n ∧ n ≤ 9223372036854775807
inductive Rg : Ep → Prop
  | mk (e : Ep) (h : rng e.n) (ha : ∀ a ∈ e.args, Rg a) : Rg e
theorem Rg.arg {e a : Ep} {i : Nat} (h : Rg e) (hx : e.args[i]? = some a) : Rg a := by
  cases h with
  | mk e h ha => exact ha a (List.mem_of_getElem? hx)
end Go.Proofs.YtodoejfkjimeaaaDoor

set_option linter.unusedSimpArgs false
set_option linter.unusedVariables false
set_option maxRecDepth 100000
namespace Go.Proofs.YtodoejfkjimeaaaDoor
open Go Go.RowKit Am
def esc (b : UInt8) : Tx := if b = 39 then [39, 39] else [b]
theorem replaceK_esc : ∀ (s : List UInt8) (k : Nat), k = Lib.count s [39] → Lib.replaceK [39] [39, 39] k s = s.flatMap esc
  | [], k, h => by
    have h0 : Lib.count ([] : List UInt8) [39] = 0 := rfl
    rw [h0] at h; subst h; rfl
  | b :: l, k, h => by
    by_cases hb : b = 39
    · subst hb
      rw [Lib.count_cons_eq, Nat.add_comm] at h
      subst h
      have hix : Lib.index (39 :: l) [39] = ((0 : Nat) : Int) := by rw [Lib.index]; simp [List.isPrefixOf]
      rw [Lib.replaceK_hit _ _ _ _ 0 hix]
      simp only [List.take_zero, List.nil_append, Nat.zero_add, List.length_cons, List.length_nil, List.drop_succ_cons, List.drop_zero]
      rw [replaceK_esc l _ rfl]; rfl
    · rw [Lib.count_cons_ne _ _ _ hb] at h
      have he : (b :: l).flatMap esc = b :: l.flatMap esc := by rw [List.flatMap_cons, esc, if_neg hb]; rfl
      rw [he, ← replaceK_esc l k h]
      cases k with
      | zero => rfl
      | succ k =>
        obtain ⟨i, hi⟩ := Lib.index_of_count (s := l) (old := [39]) (by omega)
        have hp : ([39] : List UInt8).isPrefixOf (b :: l) = false := by simp [List.isPrefixOf, Ne.symm hb]
        have hix : Lib.index (b :: l) [39] = ((i + 1 : Nat) : Int) := by
          rw [Lib.index, hp, hi]
          have : ((i : Int) == -1) = false := by rw [beq_eq_false_iff_ne]; omega
          simp [this]
        rw [Lib.replaceK_hit _ _ _ _ _ hix, Lib.replaceK_hit _ _ _ _ _ hi]
        rfl
theorem replaceAll_esc (s : List UInt8) : Lib.replaceAll s [39] [39, 39] = s.flatMap esc := by
  unfold Lib.replaceAll Lib.replace
  rw [if_neg (by decide)]
  exact replaceK_esc s _ (by simp [Lib.replaceNum])
def digF : Nat → Int → Tx
  | 0, _ => []
  | k + 1, m => (if m.tdiv 10 ≠ 0 then digF k (m.tdiv 10) else []) ++ [UInt8.ofNat (48 + (m.tmod 10).natAbs)]
theorem tdiv_lt {m : Int} {k : Nat} (h : m.natAbs < 10 ^ (k + 1)) : (m.tdiv 10).natAbs < 10 ^ k := by
  rw [Nat.pow_succ] at h
  rw [Int.natAbs_tdiv]
  exact Nat.div_lt_of_lt_mul (by rw [Nat.mul_comm]; exact h)
theorem dec_dig : ∀ (k : Nat) (n : Int), n.natAbs < 10 ^ (k + 1) → decF (k + 2) n = (if n < 0 then [45] else []) ++ digF (k + 1) n := by
  intro k
  induction k with
  | zero =>
    intro n h
    have hq := tdiv_lt (k := 0) (m := n) (by simpa using h)
    have hq0 : n.tdiv 10 = 0 := Int.natAbs_eq_zero.1 (by rw [Nat.pow_zero] at hq; omega)
    have hqn : (-n).tdiv 10 = 0 := by rw [Int.neg_tdiv, hq0]; rfl
    simp only [decF, digF, hq0, hqn, Int.tmod_neg, Int.neg_tmod, Int.natAbs_neg]
    by_cases hn : n < 0
    · simp [hn, show ¬ (0 < n) by omega]
    · simp [hn]
  | succ k ih =>
    intro n h
    by_cases hq0 : n.tdiv 10 = 0
    · have hqn : (-n).tdiv 10 = 0 := by rw [Int.neg_tdiv, hq0]; rfl
      rw [decF, digF, decF]
      simp only [hq0, hqn, Int.neg_tmod, Int.natAbs_neg]
      by_cases hn : n < 0
      · simp [hn, show ¬ (0 < n) by omega]
      · simp [hn]
    · have hq := tdiv_lt h
      have hs : n.tdiv 10 < 0 ↔ n < 0 := by
        have := Int.mul_tdiv_add_tmod n 10
        constructor
        · intro h1
          rcases Int.lt_or_le n 0 with h2 | h2
          · exact h2
          · have := Int.tdiv_nonneg h2 (show (0 : Int) ≤ 10 by decide); omega
        · intro h1
          have h3 : 0 ≤ (-n).tdiv 10 := Int.tdiv_nonneg (by omega) (by decide)
          rw [Int.neg_tdiv] at h3
          omega
      rw [decF, digF, if_neg (by simp [hq0]), if_pos hq0, if_pos hq0, ih _ hq]
      by_cases hn : n < 0
      · rw [if_pos hn, if_pos (hs.2 hn)]; rfl
      · rw [if_neg hn, if_neg (fun h => hn (hs.1 h))]; rfl
theorem dec40 {n : Int} (h : rng n) : decF 40 n = (if n < 0 then [45] else []) ++ digF 39 n := dec_dig 38 n (by
  unfold rng at h
  have : (10 : Nat) ^ (38 + 1) = 1000000000000000000000000000000000000000 := by decide
  rw [this]; omega)
theorem trim_dot {table name : Tx} (h : ∀ b, table.head? = some b → b ≠ 46) : Lib.trimPrefix (table ++ [46] ++ name) [46] = if table = [] then name else table ++ [46] ++ name := by
  unfold Lib.trimPrefix Lib.hasPrefix
  cases table with
  | nil => simp
  | cons b l =>
    have := h b rfl
    simp [List.isPrefixOf, Ne.symm this]
end Go.Proofs.YtodoejfkjimeaaaDoor

set_option linter.unusedSimpArgs false
set_option linter.unusedVariables false
set_option maxRecDepth 100000
namespace Go.Proofs.YtodoejfkjimeaaaDoor
open Go Go.RowKit Am

theorem cc_info : ∃ j, Tryd.prog.info? 82 = some j ∧ j.size = 2 := Option.map_eq_some_iff.1 (show (Tryd.prog.info? 82).map (·.size) = some 2 by kernel_rfl)
theorem cc_used_is (b : Nat) (w : World) (h0 : w.cell? ⟨b, 0, none⟩ = some (.pointer (some ⟨b, 0, none⟩))) :
    Calls Tryd.prog 126 #[.pointer (some ⟨b, 0, none⟩)] w fun e w' => e = .returned (.tuple #[]) ∧ w' = w := by
  obtain ⟨j, hj, hjs⟩ := cc_info
  go_enter Tryd.func126, Tryd.ntmps126
  go_wp2
  rw [Lib.run_neq_ptr_same w _ Tryd.underlying79 hj]
  go_wp2
  go_end0
  exact ⟨rfl, rfl⟩
set_option maxHeartbeats 1000000 in
theorem cc_fresh_is (t : Nat) (hl : liesAt Tryd.prog Tryd.prog.depth t (2 / Tryd.prog.cellsOf t) 0 82 1 = true) (b : Nat) (w : World) (h0 : w.cell? ⟨b, 0, none⟩ = some (.pointer none)) (hsh : w.shape? b = some (t, 2)) (hfz : w.frozen? ⟨b, 0, none⟩ = false) :
    Calls Tryd.prog 126 #[.pointer (some ⟨b, 0, none⟩)] w fun e w' => e = .returned (.tuple #[]) ∧ w' = w.setCell ⟨b, 0, none⟩ (.pointer (some ⟨b, 0, none⟩)) := by
  obtain ⟨j, hj, hjs⟩ := cc_info
  go_enter Tryd.func126, Tryd.ntmps126
  go_wp2
  rw [Lib.run_to_unsafe w ⟨b, 0, none⟩ Tryd.underlying79 Tryd.underlying162 hj (by rw [hjs]; decide) hsh (Nat.zero_lt_succ 1)]
  simp only [Result.andThen]
  rw [Oper.upon_value]
  go_wp2
  rw [run_callFunc_extern Tryd.func134 (by kernel_rfl) (by kernel_rfl) (by kernel_rfl) (e := Extern.AbiNoEscape.same) (by kernel_rfl)]
  rw [Lib.run_noEscape]
  simp only [Result.andThen]
  rw [Oper.upon_value]
  go_wp2
  rw [Lib.run_from_unsafe w ⟨b, 0, none⟩ Tryd.underlying162 Tryd.underlying79 hj hsh hl]
  simp only [Result.andThen]
  rw [Oper.upon_value]
  go_wp2
  go_end0
  exact ⟨rfl, rfl⟩
set_option maxHeartbeats 1000000 in
theorem bstr_is (b g cap : Nat) (p : Value) (l : List UInt8) (h0 : l ≠ []) (hc : l.length ≤ cap) (n : Nat) (hcn : cap ≤ n) (hlen : l.length ≤ 4611686018427387904) (w : World) (c1 : w.cell? ⟨b, 1, none⟩ = some (.slice (some ⟨g, 0, none⟩) l.length cap))
    (hsh : w.shape? g = some (5, n)) (hcell : ∀ j x, l[j]? = some x → w.cell? ((⟨g, 0, none⟩ : Addr).add j) = some (.int .u8 x.toNat)) :
    Calls Tryd.prog 49 #[.pointer (some ⟨b, 0, none⟩)] w fun e w' => e = .returned (.string ⟨l.toArray⟩) ∧ w' = w.drew.freeze ⟨g, 0, none⟩ l.length := by
  have hl0 : l.length ≠ 0 := by simpa using h0
  have c1' : w.drew.cell? ⟨b, 1, none⟩ = some (.slice (some ⟨g, 0, none⟩) l.length cap) := c1
  have hSD : (Builtin.unsafeSliceData_ #[80] 116 #[.slice (some ⟨g, 0, none⟩) l.length cap]).run Tryd.prog w.drew = .ok (.pointer (some ⟨g, 0, none⟩)) w.drew :=
    Lib.run_unsafeSliceData_row _ _ _ _ _ _ (by omega)
  have hUS : (Builtin.unsafeString_ #[116, 3] 9 #[.pointer (some ⟨g, 0, none⟩), .int .i64 l.length]).run Tryd.prog w.drew = .ok (.string ⟨l.toArray⟩) (w.drew.freeze ⟨g, 0, none⟩ l.length) :=
    Lib.run_unsafeString_row w.drew 116 3 9 5 Tryd.underlying116 (by kernel_rfl) g n hsh l h0 (by omega) (by omega) hcell
  go_enter Tryd.func49, Tryd.ntmps49
  go_wp2
  go_region
  all_goals (go_wp2; go_ret; exact ⟨rfl, rfl⟩)
theorem rt_inv {M : Nat → Prop} {w : World} {β : Nat → Option Nat} {v : Value} {i k t : Nat} (h : Rel M w β v (.rt i k t)) : ∃ b, v = .pointer (some ⟨b, 0, none⟩) ∧ β i = some b ∧ w.shape? b = some (t, k) := by
  cases h; exact ⟨_, rfl, by assumption, by assumption⟩
theorem ob_inv {M : Nat → Prop} {w : World} {β : Nat → Option Nat} {v : Value} {i len : Nat} (h : Rel M w β v (.ob i len)) : ∃ b cap n, v = .slice (some ⟨b, 0, none⟩) len cap ∧ β i = some b ∧ len ≤ cap ∧ w.shape? b = some (5, n) ∧ cap ≤ n := by
  cases h; exact ⟨_, _, _, rfl, by assumption, by assumption, by assumption, by assumption⟩
section
variable {N : Nat → Prop} {β : Nat → Option Nat} {σ : Hp} {F : Nat → Prop} {w w' : World}
theorem hrel_drop (H : HRel N β σ F w) {j g : Nat} {x : Ob} (hj : σ j = some x) (hw : x.wr = true) (hb : β j = some g)
    (hother : ∀ b, b ≠ g → w'.heap[b]? = w.heap[b]?) (hshape : ∀ b s, w.shape? b = some s → w'.shape? b = some s) :
    HRel N β (upd σ j none) F w' ∧ (∀ {β' v z}, Rel (live N β σ) w β' v z → Rel (live N β (upd σ j none)) w' β' v z) ∧ (∀ b, own β (upd σ j none) b → own β σ b) := by
  have hg : live N β σ g := .inr ⟨j, x, hj, hw, hb⟩
  have hσ : ∀ i y, upd σ j none i = some y → i ≠ j ∧ σ i = some y := by
    intro i y h
    by_cases e : i = j
    · subst e; simp at h
    · rw [upd_ne _ _ e] at h; exact ⟨e, h⟩
  have hl0 : ∀ b, own β (upd σ j none) b → own β σ b := by
    rintro b ⟨i, y, h1, h2, h3⟩
    exact ⟨i, y, (hσ i y h1).2, h2, h3⟩
  have hl : ∀ b, live N β (upd σ j none) b → live N β σ b := fun b h => h.imp (fun h => h) (hl0 b)
  have hcell : ∀ ad u, w.cell? ad = some u → ¬ live N β σ ad.block → w'.cell? ad = some u := fun ad u hc hn => by
    simpa only [World.cell?, hother ad.block (fun e => hn (by rw [e]; exact hg))] using hc
  have hne : ∀ i y b, upd σ j none i = some y → β i = some b → b ≠ g := by
    rintro i y b h1 h2 rfl
    obtain ⟨e, h3⟩ := hσ i y h1
    exact e (H.inj i j b h2 hb (by simp [h3]) (by simp [hj]))
  refine ⟨⟨fun i hi => ⟨(H.dom i hi).1, ?_⟩, fun i y b hx hb => H.off i y b (hσ i y hx).2 hb, fun i k b hi hk si sk => ?_, fun i y hx => ?_, fun i es wr hx => ?_, fun i L fr S st pe wr hx => ?_, fun i o wr hx => ?_⟩, fun hr => Rel.step (fun _ _ h => h) (fun b _ h => hl b h) hcell hshape hr, hl0⟩
  · by_cases e : i = j
    · subst e; simp
    · rw [upd_ne _ _ e]; exact (H.dom i hi).2
  · obtain ⟨y, hy⟩ := Option.isSome_iff_exists.1 si
    obtain ⟨z, hz⟩ := Option.isSome_iff_exists.1 sk
    exact H.inj i k b hi hk (by simp [(hσ i y hy).2]) (by simp [(hσ k z hz).2])
  · rcases H.blk i y (hσ i _ hx).2 with h0 | ⟨b, cells, e, h1, h2⟩
    · exact .inl h0
    · exact .inr ⟨b, cells, e, h1, h2.step (fun _ _ h => h) (fun b _ h => hl b h) hcell hshape (hother b (hne i _ b hx h1))⟩
  · obtain ⟨b, ms, cl, h1, h2⟩ := H.map i es wr (hσ i _ hx).2
    exact ⟨b, ms, cl, h1, h2.step (fun b _ h => hl b h) hcell hshape (hother b (hne i _ b hx h1))⟩
  · obtain ⟨b, tm, D, h1, h2⟩ := H.lp i L fr S st pe wr (hσ i _ hx).2
    exact ⟨b, tm, D, h1, h2.step (fun _ _ h => h) (fun b _ h => hl b h) hcell hshape (hother b (hne i _ b hx h1))⟩
  · obtain ⟨b, h1, h2⟩ := H.df i o wr (hσ i _ hx).2
    exact ⟨b, h1, (hother b (hne i _ b hx h1)).trans h2⟩
theorem hrel_free {F' : Nat → Prop} (H : HRel N β σ F w) (hF : ∀ i, F' i → F i) : HRel N β σ F' w :=
  ⟨fun i hi => H.dom i (hF i hi), H.off, H.inj, H.blk, H.map, H.lp, H.df⟩
theorem setCell_row {b : Nat} {cs : Array Value} {t : TypeId} {fr : Nat × Nat} (v : Value) (h : w.heap[b]? = some (.cells cs t fr)) : w.setCell ⟨b, 0, none⟩ v = w.setRow b (cs.setIfInBounds 0 v) := by
  unfold World.setCell World.setRow
  congr 1
  apply Array.ext_getElem?
  intro j
  rw [Array.getElem?_modify, Array.getElem?_modify]
  by_cases e : b = j
  · subst e; simp [h]
  · simp [e]
end
theorem cc_used (i t : Nat) (v : AV) (id : Nat) : ConW Tryd.prog 126 [.rt i 2 t] [(i, .c ⟨2, [[.rt i 2 t, v]], true, false⟩)] id (.ret (.tp [])) [] := by
  refine ⟨by kernel_rfl, fun N β σ F w vs hpre hid T hT hF hN H hargs => ?_⟩
  have hσ := hpre (i, _) List.mem_cons_self
  obtain ⟨u, rfl⟩ : ∃ u, vs = #[u] := Array.size_eq_one_iff.1 hargs.1
  have h0 := hargs.2 0 u _ rfl rfl
  obtain ⟨b, rfl, hb, hs⟩ := rt_inv h0
  obtain ⟨cells, e, h2, h3, h4, h4', h5⟩ := H.phys hσ hb
  obtain ⟨c0, hc0, hr0⟩ := h5 0 0 _ _ rfl rfl
  obtain ⟨b', rfl, hb', _⟩ := rt_inv hr0
  have hbb : b' = b := by
    have h1 : β i = some b' := hb'
    rw [hb] at h1; exact (Option.some.inj h1).symm
  subst hbb
  refine (cc_used_is b' w (blk_cell h2 hc0)).mono ?_
  rintro e' w' ⟨rfl, rfl⟩
  exact ⟨β, T, Nat.le_refl _, fun _ _ h => h, hrel_free H (fun _ h => h.1), .tp #[] [] rfl (fun _ _ _ h _ => by simp at h), Fr.refl _ _, fun _ h _ => h⟩
theorem cc_fresh (t : Nat) (hl : liesAt Tryd.prog Tryd.prog.depth t (2 / Tryd.prog.cellsOf t) 0 82 1 = true) (i : Nat) (v : AV) (id : Nat) :
    ConW Tryd.prog 126 [.rt i 2 t] [(i, .c ⟨2, [[.sc (.pointer none), v]], true, false⟩)] id (.ret (.tp [])) [(i, some (.c ⟨2, [[.rt i 2 t, v]], true, false⟩))] := by
  refine ⟨by kernel_rfl, fun N β σ F w vs hpre hid T hT hF hN H hargs => ?_⟩
  have hσ := hpre (i, _) List.mem_cons_self
  obtain ⟨u, rfl⟩ : ∃ u, vs = #[u] := Array.size_eq_one_iff.1 hargs.1
  have h0 := hargs.2 0 u _ rfl rfl
  obtain ⟨b, rfl, hb, hs⟩ := rt_inv h0
  obtain ⟨cells, e, h2, h3, h4, h4', h5⟩ := H.phys hσ hb
  obtain ⟨c0, hc0, hr0⟩ := h5 0 0 _ _ rfl rfl
  obtain ⟨c1, hc1, hr1⟩ := h5 0 1 _ _ rfl rfl
  have e0 := rel_sc hr0
  subst e0
  have hsz : cells.size = 2 := by simp only [World.shape?, h2, Option.some.injEq, Prod.mk.injEq] at hs; exact hs.2
  refine (cc_fresh_is t hl b w (blk_cell h2 hc0) hs (by simp [World.frozen?, h2])).mono ?_
  rintro e' w' ⟨rfl, rfl⟩
  rw [setCell_row _ h2]
  have R : SRel N w (own β σ) β [] β (fun _ => .tp []) σ F { tmps := #[], defers := [] } w := ⟨H, fun t => .tp #[] [] rfl (fun i u z h _ => by simp at h), Fr.refl _ _, fun _ h _ => h, hN, rfl, fun _ _ h => h⟩
  obtain ⟨R', _⟩ := R.set hσ rfl hb h2 (cells.setIfInBounds 0 (.pointer (some ⟨b, 0, none⟩))) (by simp) ⟨2, [[.rt i 2 t, v]], true, false⟩ (by simp [hsz]) (by simp) (by simp) (by
    intro p q r z hp hq
    cases p with
    | succ p => simp at hp
    | zero =>
      simp only [List.getElem?_cons_zero, Option.some.injEq] at hp
      subst hp
      match q, hq with
      | 0, hq => cases hq; exact ⟨_, by simp [hsz], .rt i 2 t b hb hs⟩
      | 1, hq => cases hq; exact ⟨c1, by simpa using hc1, hr1⟩
      | q + 2, hq => simp at hq)
  exact ⟨β, T, Nat.le_refl _, fun _ _ h => h, hrel_free R'.heap (fun _ h => h.1), .tp #[] [] rfl (fun _ _ _ h _ => by simp at h), R'.frame, R'.old⟩
theorem freeze_other (w : World) (g n b : Nat) (h : b ≠ g) : (w.drew.freeze ⟨g, 0, none⟩ n).heap[b]? = w.heap[b]? := by
  unfold World.freeze
  split
  · rfl
  · simp only [Array.getElem?_modify]
    rw [if_neg (Ne.symm h)]; rfl
theorem freeze_shape (w : World) (g n b : Nat) (s : TypeId × Nat) (h : w.shape? b = some s) : (w.drew.freeze ⟨g, 0, none⟩ n).shape? b = some s := by
  by_cases e : b = g
  · subst e
    unfold World.freeze
    split
    · exact h
    · unfold World.shape? at h ⊢
      simp only [Array.getElem?_modify, if_true]
      have h' : (match w.drew.heap[b]? with | some (.cells cells elem _) => some (elem, cells.size) | some (.view _ _) => none | _ => none) = some s ∨ True := .inr trivial
      cases hx : w.heap[b]? with
      | none => rw [hx] at h; cases h
      | some o =>
        rw [hx] at h
        have hx' : w.drew.heap[b]? = some o := hx
        rw [hx', Option.map_some]
        cases o <;> first | exact h | (rename_i c e f; obtain ⟨lo, hi⟩ := f; exact h)
  · unfold World.shape? at h ⊢
    rw [freeze_other w g n b e]; exact h
theorem bstr (i j t : Nat) (a : AV) (l : List UInt8) (h0 : l ≠ []) (hlen : l.length ≤ 4611686018427387904) (id : Nat) :
    ConW Tryd.prog 49 [.rt i 2 t] [(i, .c ⟨2, [[a, .ob j l.length]], true, false⟩), (j, .c ⟨1, byteRows l, true, true⟩)] id (.ret (.s l)) [(j, none)] := by
  refine ⟨by kernel_rfl, fun N β σ F w vs hpre hid T hT hF hN H hargs => ?_⟩
  have hσ := hpre (i, _) List.mem_cons_self
  have hj := hpre (j, _) (List.mem_cons_of_mem _ List.mem_cons_self)
  obtain ⟨u, rfl⟩ : ∃ u, vs = #[u] := Array.size_eq_one_iff.1 hargs.1
  have hx0 := hargs.2 0 u _ rfl rfl
  obtain ⟨b, rfl, hb, hs⟩ := rt_inv hx0
  obtain ⟨cells, e, h2, h3, h4, h4', h5⟩ := H.phys hσ hb
  obtain ⟨c1, hc1, hr1⟩ := h5 0 1 _ _ rfl rfl
  obtain ⟨g, cap, n, rfl, hb1, hl, hs1, hn⟩ := ob_inv hr1
  have hbj : β j = some g := hb1
  obtain ⟨cellsj, ej, k2, k3, k4, k4', k5⟩ := H.phys hj hbj
  refine (bstr_is b g cap (.pointer none) l h0 hl n hn hlen w (blk_cell h2 hc1) hs1 (fun q x hq => ?_)).mono ?_
  · obtain ⟨u, hu, hr⟩ := k5 q 0 [.sc (.int .u8 x.toNat)] (.sc (.int .u8 x.toNat)) (by simp only [byteRows, List.getElem?_map, hq, Option.map_some]) rfl
    rw [rel_sc hr] at hu
    rw [add_none, Nat.zero_add]
    exact blk_cell k2 (by simpa using hu)
  · rintro e' w' ⟨rfl, rfl⟩
    obtain ⟨g1, g2, g3⟩ := hrel_drop (w' := w.drew.freeze ⟨g, 0, none⟩ l.length) H hj rfl hbj (fun b hb => freeze_other w g _ b hb) (fun b s hs => freeze_shape w g _ b s hs)
    have hos : (w.drew.freeze ⟨g, 0, none⟩ l.length).os = w.os ∧ (w.drew.freeze ⟨g, 0, none⟩ l.length).tape = w.tape ∧ (w.drew.freeze ⟨g, 0, none⟩ l.length).output = w.output ∧ (w.drew.freeze ⟨g, 0, none⟩ l.length).heap.size = w.heap.size := by
      unfold World.freeze
      split
      · exact ⟨rfl, rfl, rfl, rfl⟩
      · exact ⟨rfl, rfl, rfl, by simp⟩
    exact ⟨β, T, Nat.le_refl _, fun _ _ h => h, hrel_free g1 (fun _ h => h.1), .s _ _ (by simp) (by omega),
      ⟨hos.1, hos.2.1, hos.2.2.1, Nat.le_of_eq hos.2.2.2.symm, fun b _ hb => freeze_other w g _ b (fun e => hb (e ▸ ⟨j, _, hj, rfl, hbj⟩)), fun b s hs => freeze_shape w g _ b s hs⟩, fun b h _ => g3 b h⟩
end Go.Proofs.YtodoejfkjimeaaaDoor
