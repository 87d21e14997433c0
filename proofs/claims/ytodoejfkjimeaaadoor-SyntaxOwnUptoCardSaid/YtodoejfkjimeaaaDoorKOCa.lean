/- Packed by a program of this repo: Ca Cw Cx Cy Cz Da Db Dc Dd De. -/
import Derived.Test.YtodoejfkjimeaaaDoorKOMu
import Derived.Test.YtodoejfkjimeaaaDoorKOSh7
import Derived.Test.YtodoejfkjimeaaaDoorKOMs
set_option linter.unusedSimpArgs false
set_option linter.unusedVariables false
set_option maxRecDepth 100000
namespace Go.Proofs.YtodoejfkjimeaaaDoor
open Go Go.RowKit Am

theorem syneed_con (b : Bool) (n : Int) : Con Tryd.prog 62 [.sc (.bool b), .sc (.int .i64 n)] (cond b (.ret (.tp [])) (.pan (.iface 28 (.int .i64 n)))) := by
  refine con_of (by_syntax_need ?_)
  cases b
  · simp only [sh_syntax_need, go_sem]
    exact RC_pan rfl
  · simp only [sh_syntax_need, go_sem]
    exact RC_ret rfl rfl
def argsN (op : Int) : Int × Bool :=
  if op = 0 ∨ op = 1 ∨ op = 18 then (0, true) else if op = 2 ∨ op = 3 ∨ op = 16 ∨ op = 17 ∨ op = 19 ∨ op = 20 ∨ op = 21 ∨ op = 22 then (1, true) else (2, decide (4 ≤ op) && decide (op < 16))
theorem args_con (op : Int) : Con Tryd.prog 104 [.sc (.int .i64 op)] (.ret (.tp [.sc (.int .i64 (argsN op).1), .sc (.bool (argsN op).2)])) := by
  refine con_of (by_syntax_Args ?_)
  simp only [sh_syntax_Args, go_sem]
  (repeat' first | contradiction | simp (contextual:=true) (maxSteps:=1000000) (disch:=omega) only [go_sem,wrapI,wrapB,upd_is,upd_not,Nat.reduceAdd,Nat.reduceSub,Nat.reduceMul,Nat.reduceLeDiff,Nat.reduceEqDiff,Int.reduceAdd,Int.reduceSub,Int.reduceMul,Int.reduceNeg,Int.reduceLT,Int.reduceLE,Int.reduceEq,Int.reduceToNat,reduceCtorEq,reduceIte,Nat.zero_add,Nat.add_zero, *] | intro _ | refine And.intro ?_ ?_ | simp only [COND_bif, COND_bool, guardP_if, guardK_if, guardD_if, onEnd_cond])
  all_goals exact RC_ret rfl (by simp [argsN, *])
def valOk (kind n : Int) (text : Tx) : Bool :=
  if kind = 0 then decide (n = 0) && decide (text = []) else if kind = 1 then decide (text = []) else if kind = 2 then decide (text = []) && decide (IntKind.u64.wrap n ≤ 1) else if kind = 3 then decide (n = 0) && decide ((text.length : Int) ≤ 64) else false
theorem valCheck_con (kind n : Int) (text : Tx) : Con Tryd.prog 105 [.ag [.sc (.int .i64 kind), .sc (.int .i64 n), .s text]] (.ret (.sc (.int .i64 (if valOk kind n text then 0 else 9)))) := by
  refine con_of (by_value_Check ?_)
  simp only [sh_value_Check, go_sem]
  (repeat' first | contradiction | simp (contextual:=true) (maxSteps:=1000000) (disch:=omega) only [go_sem,wrapI,wrapB,upd_is,upd_not,Nat.reduceAdd,Nat.reduceSub,Nat.reduceMul,Nat.reduceLeDiff,Nat.reduceEqDiff,Int.reduceAdd,Int.reduceSub,Int.reduceMul,Int.reduceNeg,Int.reduceLT,Int.reduceLE,Int.reduceEq,Int.reduceToNat,reduceCtorEq,reduceIte,Nat.zero_add,Nat.add_zero, *] | intro _ | refine And.intro ?_ ?_ | simp only [COND_bif, COND_bool, guardP_if, guardK_if, guardD_if, onEnd_cond])
  all_goals exact RC_ret rfl (by first | (simp_all [valOk]; done) | grind [valOk])
inductive Bd : Ep → Prop
  | mk (op kind n : Int) (text table name : Tx) (args : List Ep) (h1 : text.length ≤ 1048576) (h2 : table.length ≤ 1048576) (h3 : name.length ≤ 1048576) (h4 : args.length ≤ 1048576) (h : ∀ a ∈ args, Bd a) : Bd (.mk op kind n text table name args)
def partOk (e : Ep) : Bool :=
  (argsN e.op).2 && decide ((argsN e.op).1 = (e.args.length : Int)) &&
  (if e.op = 0 then decide (e.table ++ e.name = []) && valOk e.kind e.n e.text && (decide (¬ e.kind = 1) || decide (0 ≤ e.n))
   else if e.op = 1 then (decide (e.kind = 0) && (decide (e.n = 0) && decide (e.text = []))) && nameL e.name && (decide (e.table = []) || nameL e.table)
   else (decide (e.kind = 0) && (decide (e.n = 0) && decide (e.text = []))) && decide (e.table ++ e.name = []))
set_option maxHeartbeats 4000000 in
theorem part_con (e : Ep) (hb : Bd e) : Con Tryd.prog 63 [.ag (encE e)] (.ret (.sc (.bool (partOk e)))) := by
  refine con_of (by_syntax_part ?_)
  obtain ⟨op, kind, n, text, table, name, args, h1, h2, h3, h4, h⟩ := hb
  rw [encE_eq]
  have hadd : table.length + name.length ≤ 9223372036854775807 := by omega
  simp (contextual:=true) (maxSteps:=1000000) (disch:=omega) only [sh_syntax_part,Ep.op,Ep.kind,Ep.n,Ep.text,Ep.table,Ep.name,Ep.args,go_sem,wrapI,wrapB,upd_is,upd_not,Nat.reduceAdd,Nat.reduceSub,Nat.reduceMul,Nat.reduceLeDiff,Nat.reduceEqDiff,Int.reduceAdd,Int.reduceSub,Int.reduceMul,Int.reduceNeg,Int.reduceLT,Int.reduceLE,Int.reduceEq,Int.reduceToNat,reduceCtorEq,reduceIte,Nat.zero_add,Nat.add_zero, *]
  refine CALL_con0 (args_con _) rfl ?_
  (repeat' first | contradiction | simp (contextual:=true) (maxSteps:=1000000) (disch:=omega) only [go_sem,wrapI,wrapB,upd_is,upd_not,Nat.reduceAdd,Nat.reduceSub,Nat.reduceMul,Nat.reduceLeDiff,Nat.reduceEqDiff,Int.reduceAdd,Int.reduceSub,Int.reduceMul,Int.reduceNeg,Int.reduceLT,Int.reduceLE,Int.reduceEq,Int.reduceToNat,reduceCtorEq,reduceIte,Nat.zero_add,Nat.add_zero, *] | intro _ | refine And.intro ?_ ?_ | refine CALL_con0 (valCheck_con _ _ _) rfl ?_ | refine CALL_con0 (name_con _ (by omega)) rfl ?_ | simp only [COND_bif, COND_bool, guardP_if, guardK_if, guardD_if, onEnd_cond])
  all_goals first
    | exact RC_ret rfl (by first | (simp_all [partOk, Ep.op, Ep.kind, Ep.n, Ep.text, Ep.table, Ep.name, Ep.args]; done) | grind [partOk, Ep.op, Ep.kind, Ep.n, Ep.text, Ep.table, Ep.name, Ep.args])
end Go.Proofs.YtodoejfkjimeaaaDoor

set_option linter.unusedSimpArgs false
set_option linter.unusedVariables false
set_option maxRecDepth 100000
namespace Go.Proofs.YtodoejfkjimeaaaDoor
open Go Go.RowKit Am

def goOver (f : Ep → Nat → Int × Nat) : List Ep → Nat → Int × Nat
  | [], c => (0, c)
  | a :: l, c => if (f a c).1 = 0 then goOver f l (f a c).2 else f a c
def walkF : Nat → Ep → Nat → Int × Nat
  | 0, _, c => (10, c)
  | k + 1, e, c => if 64 ≤ c then (3, c) else if partOk e = false then (9, c) else goOver (walkF k) e.args (c + 1)
theorem goOver_append (f : Ep → Nat → Int × Nat) : ∀ (l m : List Ep) (c : Nat), (goOver f l c).1 = 0 → goOver f (l ++ m) c = goOver f m (goOver f l c).2
  | [], m, c, _ => rfl
  | a :: l, m, c, h => by
    simp only [List.cons_append, goOver] at h ⊢
    split
    · rename_i h0; rw [if_pos h0] at h; exact goOver_append f l m _ h
    · rename_i h0; rw [if_neg h0] at h; exact absurd h h0
theorem goOver_stop (f : Ep → Nat → Int × Nat) : ∀ (l m : List Ep) (c : Nat), (goOver f l c).1 ≠ 0 → goOver f (l ++ m) c = goOver f l c
  | [], m, c, h => absurd rfl h
  | a :: l, m, c, h => by
    simp only [List.cons_append, goOver] at h ⊢
    split
    · rename_i h0; rw [if_pos h0] at h; exact goOver_stop f l m _ h
    · rfl
abbrev errPan (n : Int) : AEnd := .pan (.iface 28 (.int .i64 n))
def endW (n : Int) : AEnd := if n = 0 then .ret (.tp []) else errPan n
theorem walkF_le : ∀ (k : Nat) (e : Ep) (c : Nat), c ≤ 64 → (walkF k e c).2 ≤ 64
  | 0, e, c, h => h
  | k + 1, e, c, h => by
    simp only [walkF]
    split
    · exact h
    · split
      · exact h
      · have : ∀ (l : List Ep) (c : Nat), c ≤ 64 → (goOver (walkF k) l c).2 ≤ 64 := by
          intro l
          induction l with
          | nil => intro c h; exact h
          | cons a l ih =>
            intro c h
            simp only [goOver]
            split
            · exact ih _ (walkF_le k a c h)
            · exact walkF_le k a c h
        exact this _ _ (by omega)
theorem encE_take (e : Ep) : (encE e).take 7 = encE e := by rw [encE_eq]; rfl
theorem encE_leaf (e : Ep) : (encE e).all leafok = true := by rw [encE_eq]; rfl
theorem encE_clo (e : Ep) : (encE e).all clo = true := by rw [encE_eq]; rfl
attribute [go_sem] encE_take encE_leaf encE_clo
theorem Bd.arg {e a : Ep} {i : Nat} (h : Bd e) (hx : e.args[i]? = some a) : Bd a := by
  cases h with
  | mk op kind n text table name args h1 h2 h3 h4 h => exact h a (List.mem_of_getElem? hx)
theorem keep_new {σ : Hp} {i n j : Nat} {v x : Ob} {y : Option Ob} (hi : σ i = some v) (hf : ∀ j, n ≤ j → σ j = none) (hin : i < n) (h : upd σ i (some v) j = some x) : upd σ n y j = some x := by
  by_cases e : j = n
  · subst e
    rw [upd_not (by omega), hf _ (Nat.le_refl _)] at h; cases h
  · rw [upd_not e]
    by_cases e2 : j = i
    · subst e2; rw [upd_is rfl] at h; rw [hi]; exact h
    · rw [upd_not e2] at h; exact h
theorem walk_con : ∀ (k : Nat) (e : Ep) (c i id : Nat) (lv : Int), lv = 13 - k → Bd e → c ≤ 64 → k ≤ 12 → ConW Tryd.prog 32 [.rf i 1 0 0, .ag (encE e), .sc (.int .i64 lv)] [(i, blk1 (.sc (.int .i64 c)))] id (endW (walkF k e c).1) [(i, some (blk1 (.sc (.int .i64 ((walkF k e c).2 : Int)))))] := by
  intro k
  induction k with
  | zero =>
    intro e c i id lv hlv hb hc hk
    refine conW_less' (by kernel_rfl) (fun σ n R hp hf hR => by_psyntax_walker_walk ?_)
    have hi := hp _ (List.mem_singleton.2 rfl)
    clear hp
    have hin : i < n := Nat.lt_of_not_le (fun h => by rw [hf i h] at hi; cases hi)
    have hl : ¬ lv ≤ 12 := by omega
    have HR := Lib.hid hR; clear hR
    clear hlv
    simp (contextual:=true) (maxSteps:=1000000) (disch:=omega) only [sh_psyntax_walker_walk,encE_eq,go_sem,wrapI,wrapB,upd_is,upd_not,Nat.reduceAdd,Nat.reduceSub,Nat.reduceMul,Nat.reduceLeDiff,Nat.reduceEqDiff,Int.reduceAdd,Int.reduceSub,Int.reduceMul,Int.reduceNeg,Int.reduceLT,Int.reduceLE,Int.reduceEq,Int.reduceToNat,reduceCtorEq,reduceIte,Nat.zero_add,Nat.add_zero, *]
    refine CALL_con0 (syneed_con _ _) rfl ?_
    simp (contextual:=true) (maxSteps:=1000000) (disch:=omega) only [go_sem,wrapI,wrapB,upd_is,upd_not,Nat.reduceAdd,Nat.reduceSub,Nat.reduceMul,Nat.reduceLeDiff,Nat.reduceEqDiff,Int.reduceAdd,Int.reduceSub,Int.reduceMul,Int.reduceNeg,Int.reduceLT,Int.reduceLE,Int.reduceEq,Int.reduceToNat,reduceCtorEq,reduceIte,Nat.zero_add,Nat.add_zero, *]
    exact HR.out _ _ _ rfl (fun j x h => keep_new hi hf hin h)
  | succ k ih =>
    intro e c i id lv hlv hb hc hk
    refine conW_less' (by kernel_rfl) (fun σ n R hp hf hR => by_psyntax_walker_walk ?_)
    have hi := hp _ (List.mem_singleton.2 rfl)
    simp only [blk1] at hi
    clear hp
    have hin : i < n := Nat.lt_of_not_le (fun h => by rw [hf i h] at hi; cases hi)
    have hne : n ≠ i := by omega
    have hl : lv ≤ 12 := by omega
    have hl0 : 0 ≤ lv := by omega
    have HR := Lib.hid hR; clear hR
    have HL := Lib.hid hlv; clear hlv
    have HI := Lib.hid ih; clear ih
    simp (contextual:=true) (maxSteps:=1000000) (disch:=omega) only [sh_psyntax_walker_walk,go_sem,wrapI,wrapB,upd_is,upd_not,Nat.reduceAdd,Nat.reduceSub,Nat.reduceMul,Nat.reduceLeDiff,Nat.reduceEqDiff,Int.reduceAdd,Int.reduceSub,Int.reduceMul,Int.reduceNeg,Int.reduceLT,Int.reduceLE,Int.reduceEq,Int.reduceToNat,reduceCtorEq,reduceIte,Nat.zero_add,Nat.add_zero, *]
    rw [encE_eq]
    refine CALL_con0 (syneed_con _ _) rfl ?_
    simp (contextual:=true) (maxSteps:=1000000) (disch:=omega) only [go_sem,wrapI,wrapB,upd_is,upd_not,Nat.reduceAdd,Nat.reduceSub,Nat.reduceMul,Nat.reduceLeDiff,Nat.reduceEqDiff,Int.reduceAdd,Int.reduceSub,Int.reduceMul,Int.reduceNeg,Int.reduceLT,Int.reduceLE,Int.reduceEq,Int.reduceToNat,reduceCtorEq,reduceIte,Nat.zero_add,Nat.add_zero, *]
    refine CALL_con0 (syneed_con _ _) rfl ?_
    by_cases h64 : (c : Int) < 64
    · simp (contextual:=true) (maxSteps:=1000000) (disch:=omega) only [go_sem,wrapI,wrapB,upd_is,upd_not,Nat.reduceAdd,Nat.reduceSub,Nat.reduceMul,Nat.reduceLeDiff,Nat.reduceEqDiff,Int.reduceAdd,Int.reduceSub,Int.reduceMul,Int.reduceNeg,Int.reduceLT,Int.reduceLE,Int.reduceEq,Int.reduceToNat,reduceCtorEq,reduceIte,Nat.zero_add,Nat.add_zero, *]
      refine CALL_con0 (part_con e hb) (by simp only [brwL_cons, brwL_nil, brw_ag, brw_sc, brw_s, brw_tr, encE_eq, List.append_nil, Option.map_some, List.nil_append]) ?_
      simp (contextual:=true) (maxSteps:=1000000) (disch:=omega) only [go_sem,wrapI,wrapB,upd_is,upd_not,Nat.reduceAdd,Nat.reduceSub,Nat.reduceMul,Nat.reduceLeDiff,Nat.reduceEqDiff,Int.reduceAdd,Int.reduceSub,Int.reduceMul,Int.reduceNeg,Int.reduceLT,Int.reduceLE,Int.reduceEq,Int.reduceToNat,reduceCtorEq,reduceIte,Nat.zero_add,Nat.add_zero, *]
      refine CALL_con0 (syneed_con _ _) rfl ?_
      cases hp : partOk e with
      | false =>
        simp (contextual:=true) (maxSteps:=1000000) (disch:=omega) only [go_sem,wrapI,wrapB,upd_is,upd_not,Nat.reduceAdd,Nat.reduceSub,Nat.reduceMul,Nat.reduceLeDiff,Nat.reduceEqDiff,Int.reduceAdd,Int.reduceSub,Int.reduceMul,Int.reduceNeg,Int.reduceLT,Int.reduceLE,Int.reduceEq,Int.reduceToNat,reduceCtorEq,reduceIte,Nat.zero_add,Nat.add_zero, *]
        have hw : walkF (k + 1) e c = (9, c) := by simp [walkF, hp, show ¬ 64 ≤ c by omega]
        exact HR.out _ _ _ (by rw [hw]; rfl) (by rw [hw]; exact fun j x h => keep_new hi hf hin h)
      | true =>
        simp (contextual:=true) (maxSteps:=1000000) (disch:=omega) only [go_sem,wrapI,wrapB,upd_is,upd_not,Nat.reduceAdd,Nat.reduceSub,Nat.reduceMul,Nat.reduceLeDiff,Nat.reduceEqDiff,Int.reduceAdd,Int.reduceSub,Int.reduceMul,Int.reduceNeg,Int.reduceLT,Int.reduceLE,Int.reduceEq,Int.reduceToNat,reduceCtorEq,reduceIte,Nat.zero_add,Nat.add_zero, *]
        intro hlen
        have hw : walkF (k + 1) e c = goOver (walkF k) e.args (c + 1) := by simp [walkF, hp, show ¬ 64 ≤ c by omega]
        rw [hw] at HR
        refine LOOP_listM e.args (fun j s σ' n' => ∃ x y, s = [x, y, .sc (.int .i64 j)] ∧ (goOver (walkF k) (e.args.take j) (c + 1)).1 = 0 ∧ (goOver (walkF k) (e.args.take j) (c + 1)).2 ≤ 64 ∧
          σ' i = some (.c ⟨1, [[.sc (.int .i64 ((goOver (walkF k) (e.args.take j) (c + 1)).2 : Nat))]], true, false⟩) ∧ (∀ q z, q ≠ i → σ q = some z → σ' q = some z)) (.refl ⟨_, _, rfl, rfl, ?_, ?_, ?_⟩) ?_ ?_
        · simp only [List.take_zero, goOver]; omega
        · rw [upd_is rfl]; rfl
        · intro q z hq hz
          rw [upd_not hq, upd_not (fun e => by rw [e, hf n (Nat.le_refl _)] at hz; cases hz)]; exact hz
        · rintro j a K s' σ' n' hx hj hj' hn ⟨x, y, rfl, h0, h64', hci, hkp⟩ hK
          have hne' : n' ≠ i := by omega
          have HK := Lib.hid hK; clear hK
          have HP := Lib.hid hkp; clear hkp
          generalize hg : goOver (walkF k) (e.args.take j) (c + 1) = g at *
          have HG := Lib.hid hg; clear hg
          have FR := Lib.hid hf; clear hf hi
          simp (contextual:=true) (maxSteps:=1000000) (disch:=omega) only [lb_psyntax_walker_walk2,go_sem,wrapI,wrapB,upd_is,upd_not,Nat.reduceAdd,Nat.reduceSub,Nat.reduceMul,Nat.reduceLeDiff,Nat.reduceEqDiff,Int.reduceAdd,Int.reduceSub,Int.reduceMul,Int.reduceNeg,Int.reduceLT,Int.reduceLE,Int.reduceEq,Int.reduceToNat,reduceCtorEq,reduceIte,Nat.zero_add,Nat.add_zero, *]
          have hnext : goOver (walkF k) (e.args.take (j + 1)) (c + 1) = walkF k a g.2 := by
            rw [List.take_add_one, hx, goOver_append _ _ _ _ (by rw [HG.out]; exact h0), HG.out]
            simp only [Option.toList, goOver]
            split
            · rename_i h; exact Prod.ext h.symm rfl
            · rfl
          have hle := walkF_le k a g.2 h64'
          refine CALL_conW (HI.out a g.2 i _ (lv + 1) (by have := HL.out; omega) (hb.arg hx) h64' (by omega)) ?_ ?_
          · intro p hp'
            simp only [List.mem_singleton] at hp'
            subst hp'
            simp only
            rw [upd_not hne'.symm, upd_not hne'.symm]; exact hci
          · intro n2 hn2
            have keep : ∀ (v : Option Ob) (b1 b2 : Option Ob) (q : Nat) (z : Ob), q ≠ i → σ q = some z → upd (upd (upd σ' n' b1) n' b2) i v q = some z := by
              intro v b1 b2 q z hq hz
              have hqn : q ≠ n' := fun e => by
                have := FR.out q (by omega)
                rw [this] at hz; cases hz
              rw [upd_not hq, upd_not hqn, upd_not hqn]; exact HP.out q z hq hz
            generalize hw2 : walkF k a g.2 = r at *
            by_cases h1 : r.1 = 0
            · simp (contextual:=true) (maxSteps:=1000000) (disch:=omega) only [endW,go_sem,wrapI,wrapB,upd_is,upd_not,Nat.reduceAdd,Nat.reduceSub,Nat.reduceMul,Nat.reduceLeDiff,Nat.reduceEqDiff,Int.reduceAdd,Int.reduceSub,Int.reduceMul,Int.reduceNeg,Int.reduceLT,Int.reduceLE,Int.reduceEq,Int.reduceToNat,reduceCtorEq,reduceIte,Nat.zero_add,Nat.add_zero, *]
              refine HK.out _ _ _ (.refl ⟨_, _, rfl, ?_, ?_, ?_, fun q z hq hz => keep _ _ _ q z hq hz⟩)
              · rw [hnext]; exact h1
              · rw [hnext]; exact hle
              · rw [hnext, upd_is rfl]
            · simp (contextual:=true) (maxSteps:=1000000) (disch:=omega) only [endW,go_sem,wrapI,wrapB,upd_is,upd_not,Nat.reduceAdd,Nat.reduceSub,Nat.reduceMul,Nat.reduceLeDiff,Nat.reduceEqDiff,Int.reduceAdd,Int.reduceSub,Int.reduceMul,Int.reduceNeg,Int.reduceLT,Int.reduceLE,Int.reduceEq,Int.reduceToNat,reduceCtorEq,reduceIte,Nat.zero_add,Nat.add_zero, *]
              have hall : goOver (walkF k) e.args (c + 1) = r := by
                have := goOver_stop (walkF k) (e.args.take (j + 1)) (e.args.drop (j + 1)) (c + 1) (by rw [hnext]; exact h1)
                rw [List.take_append_drop, hnext] at this; exact this
              rw [hall] at HR
              refine HR.out _ _ _ (by rw [endW, if_neg h1]) (fun q z h => ?_)
              simp only [applyW] at h
              by_cases e1 : q = i
              · subst e1; rw [upd_is rfl] at h ⊢; exact h
              · rw [upd_not e1] at h; exact keep _ _ _ q z e1 h
        · rintro K s' σ' n' hn ⟨x, y, rfl, h0, _, hci, hkp⟩
          rw [List.take_length] at h0 hci
          simp (contextual:=true) (maxSteps:=1000000) (disch:=omega) only [lb_psyntax_walker_walk2,go_sem,wrapI,wrapB,upd_is,upd_not,Nat.reduceAdd,Nat.reduceSub,Nat.reduceMul,Nat.reduceLeDiff,Nat.reduceEqDiff,Int.reduceAdd,Int.reduceSub,Int.reduceMul,Int.reduceNeg,Int.reduceLT,Int.reduceLE,Int.reduceEq,Int.reduceToNat,reduceCtorEq,reduceIte,Nat.zero_add,Nat.add_zero, *]
          refine HR.out _ _ _ (by rw [endW, if_pos h0]) (fun q z h => ?_)
          simp only [applyW] at h
          by_cases e1 : q = i
          · subst e1; rw [upd_is rfl] at h; rw [hci]; exact h
          · rw [upd_not e1] at h; exact hkp q z e1 h
    · simp (contextual:=true) (maxSteps:=1000000) (disch:=omega) only [go_sem,wrapI,wrapB,upd_is,upd_not,Nat.reduceAdd,Nat.reduceSub,Nat.reduceMul,Nat.reduceLeDiff,Nat.reduceEqDiff,Int.reduceAdd,Int.reduceSub,Int.reduceMul,Int.reduceNeg,Int.reduceLT,Int.reduceLE,Int.reduceEq,Int.reduceToNat,reduceCtorEq,reduceIte,Nat.zero_add,Nat.add_zero, *]
      have hw : walkF (k + 1) e c = (3, c) := by simp [walkF, show 64 ≤ c by omega]
      exact HR.out _ _ _ (by rw [hw]; rfl) (by rw [hw]; exact fun j x h => keep_new hi hf hin h)
end Go.Proofs.YtodoejfkjimeaaaDoor

set_option linter.unusedSimpArgs false
set_option linter.unusedVariables false
set_option maxRecDepth 100000
namespace Go.Proofs.YtodoejfkjimeaaaDoor
open Go Go.RowKit Am

abbrev eIf (n : Int) : Value := .iface 28 (.int .i64 n)
theorem syntold_err (n : Int) (i id : Nat) (v : AV) : ConW Tryd.prog 31 [.sc (eIf n), .rf i 1 0 0] [(i, blk1 v)] id (.ret (.tp [])) [(i, some (blk1 (.sc (.int .i64 n))))] := by
  refine conW_less' (by kernel_rfl) (fun σ n' R hp hf hR => by_syntax_told ?_)
  have hi := hp _ (List.mem_singleton.2 rfl)
  simp only [blk1] at hi
  clear hp
  have HR := Lib.hid hR; clear hR
  simp (contextual:=true) (maxSteps:=1000000) (disch:=omega) only [sh_syntax_told,go_sem,wrapI,wrapB,upd_is,upd_not,Nat.reduceAdd,Nat.reduceSub,Nat.reduceMul,Nat.reduceLeDiff,Nat.reduceEqDiff,Int.reduceAdd,Int.reduceSub,Int.reduceMul,Int.reduceNeg,Int.reduceLT,Int.reduceLE,Int.reduceEq,Int.reduceToNat,reduceCtorEq,reduceIte,Nat.zero_add,Nat.add_zero, *]
  exact HR.out _ _ _ rfl (fun j x h => h)
theorem syntold_nil (i id : Nat) : ConW Tryd.prog 31 [.sc .nilIface, .rf i 1 0 0] [] id (.ret (.tp [])) [] := by
  refine conW_less' (by kernel_rfl) (fun σ n' R hp hf hR => by_syntax_told ?_)
  have HR := Lib.hid hR; clear hR
  simp (contextual:=true) (maxSteps:=1000000) (disch:=omega) only [sh_syntax_told,go_sem,wrapI,wrapB,upd_is,upd_not,Nat.reduceAdd,Nat.reduceSub,Nat.reduceMul,Nat.reduceLeDiff,Nat.reduceEqDiff,Int.reduceAdd,Int.reduceSub,Int.reduceMul,Int.reduceNeg,Int.reduceLT,Int.reduceLE,Int.reduceEq,Int.reduceToNat,reduceCtorEq,reduceIte,Nat.zero_add,Nat.add_zero, *]
  exact HR.out _ _ _ rfl (fun j x h => h)
theorem syncatch (pv : Option Int) (i : Nat) (v : AV) (σ : Hp) (n : Nat) (hi : σ i = some (blk1 v)) : ConR Tryd.prog 30 [.rf i 1 0 0] σ n (pv.map eIf) (fun σ' _ => σ' i = some (blk1 (match pv with | none => v | some m => .sc (.int .i64 m)))) := by
  refine by_syntax_CheckExpr_c1 ?_
  cases pv with
  | none =>
    simp only [sh_syntax_CheckExpr_c1, Option.map_none, recV]
    refine CALL_conW (syntold_nil i n) (fun p hp => by cases hp) (fun n' hn' => ?_)
    simp only [kc_syntax_CheckExpr_c11, onEnd, applyW]
    exact hi
  | some m =>
    simp only [sh_syntax_CheckExpr_c1, Option.map_some, recV]
    refine CALL_conW (syntold_err m i n v) (fun p hp => by simp only [List.mem_singleton] at hp; subst hp; exact hi) (fun n' hn' => ?_)
    simp only [kc_syntax_CheckExpr_c11, onEnd, applyW]
    exact upd_is rfl
theorem checkExpr_con (e : Ep) (hb : Bd e) : Con Tryd.prog 14 [.ag (encE e)] (.ret (.sc (.int .i64 (walkF 12 e 0).1))) := by
  refine con_of (by_syntax_CheckExpr ?_)
  have HB := Lib.hid hb; clear hb
  simp (contextual:=true) (maxSteps:=1000000) (disch:=omega) only [sh_syntax_CheckExpr,go_sem,wrapI,wrapB,upd_is,upd_not,Nat.reduceAdd,Nat.reduceSub,Nat.reduceMul,Nat.reduceLeDiff,Nat.reduceEqDiff,Int.reduceAdd,Int.reduceSub,Int.reduceMul,Int.reduceNeg,Int.reduceLT,Int.reduceLE,Int.reduceEq,Int.reduceToNat,reduceCtorEq,reduceIte,Nat.zero_add,Nat.add_zero, *]
  refine CALL_conW (walk_con 12 e 0 32 48 1 (by omega) HB.out (by omega) (by omega)) (fun p hp => by simp only [List.mem_singleton] at hp; subst hp; rfl) (fun n' hn' => ?_)
  generalize hw : walkF 12 e 0 = r
  by_cases h1 : r.1 = 0
  · simp (contextual:=true) (maxSteps:=1000000) (disch:=omega) only [endW,go_sem,wrapI,wrapB,upd_is,upd_not,Nat.reduceAdd,Nat.reduceSub,Nat.reduceMul,Nat.reduceLeDiff,Nat.reduceEqDiff,Int.reduceAdd,Int.reduceSub,Int.reduceMul,Int.reduceNeg,Int.reduceLT,Int.reduceLE,Int.reduceEq,Int.reduceToNat,reduceCtorEq,reduceIte,Nat.zero_add,Nat.add_zero, *]
    refine DEF_con _ rfl (syncatch none 16 (.sc (.int .i64 0)) _ _ ?_) (fun σ' n2 h2 hn2 => ?_)
    · rw [upd_is rfl]
    · simp only [blk1] at h2
      simp (contextual:=true) (maxSteps:=1000000) (disch:=omega) only [go_sem,wrapI,wrapB,upd_is,upd_not,Nat.reduceAdd,Nat.reduceSub,Nat.reduceMul,Nat.reduceLeDiff,Nat.reduceEqDiff,Int.reduceAdd,Int.reduceSub,Int.reduceMul,Int.reduceNeg,Int.reduceLT,Int.reduceLE,Int.reduceEq,Int.reduceToNat,reduceCtorEq,reduceIte,Nat.zero_add,Nat.add_zero, *]
      exact RC_ret rfl rfl
  · simp (contextual:=true) (maxSteps:=1000000) (disch:=omega) only [endW,go_sem,wrapI,wrapB,upd_is,upd_not,Nat.reduceAdd,Nat.reduceSub,Nat.reduceMul,Nat.reduceLeDiff,Nat.reduceEqDiff,Int.reduceAdd,Int.reduceSub,Int.reduceMul,Int.reduceNeg,Int.reduceLT,Int.reduceLE,Int.reduceEq,Int.reduceToNat,reduceCtorEq,reduceIte,Nat.zero_add,Nat.add_zero, *]
    refine DEF_con _ rfl (syncatch (some r.1) 16 (.sc (.int .i64 0)) _ _ ?_) (fun σ' n2 h2 hn2 => ?_)
    · rw [upd_not (by omega), upd_not (by omega), upd_is rfl]
    · simp only [blk1] at h2
      simp (contextual:=true) (maxSteps:=1000000) (disch:=omega) only [go_sem,wrapI,wrapB,upd_is,upd_not,Nat.reduceAdd,Nat.reduceSub,Nat.reduceMul,Nat.reduceLeDiff,Nat.reduceEqDiff,Int.reduceAdd,Int.reduceSub,Int.reduceMul,Int.reduceNeg,Int.reduceLT,Int.reduceLE,Int.reduceEq,Int.reduceToNat,reduceCtorEq,reduceIte,Nat.zero_add,Nat.add_zero, *]
      exact RC_ret rfl rfl
end Go.Proofs.YtodoejfkjimeaaaDoor

set_option linter.unusedSimpArgs false
set_option linter.unusedVariables false
set_option maxRecDepth 100000
namespace Go.Proofs.YtodoejfkjimeaaaDoor
open Go Go.RowKit Am

theorem ixL_here {α : Type} {q : α → Bool} {xs : List α} {i : Nat} {x : α} (hx : xs[i]? = some x) (h0 : (xs.take i).any q = false) (h : q x = true) : ixL q xs = i := by
  obtain ⟨hi, rfl⟩ := List.getElem?_eq_some_iff.1 hx
  refine ixL_at q xs i hi (fun j hj => ?_) h
  rw [List.any_eq_false] at h0
  have := h0 xs[j] (List.mem_iff_getElem?.2 ⟨j, by rw [List.getElem?_take, if_pos hj]; exact List.getElem?_eq_getElem (by omega)⟩)
  simpa using this
theorem ixL_no {α : Type} {q : α → Bool} {xs : List α} (h0 : xs.any q = false) : ixL q xs = -1 := by
  unfold ixL; rw [h0]; rfl
theorem ixCol_con (g : FuncId) (caps : List AV) (q : Cl → Bool) (xs : List Cl) (hc : ∀ σ, brwL σ 6 caps = some (caps, [])) (h : ∀ x ∈ xs, Con Tryd.prog g ([.ag (encC x)] ++ caps) (.ret (.sc (.bool (q x))))) :
    Con Tryd.prog 120 [.tr (xs.map encC), .fn g caps] (.ret (.sc (.int .i64 (ixL q xs)))) := by
  refine con_of (by_slices_IndexFunc_lapi_Column_api_Column ?_)
  have H := Lib.hid h; clear h
  have HC := Lib.hid hc; clear hc
  simp (contextual:=true) (maxSteps:=1000000) (disch:=omega) only [sh_slices_IndexFunc_lapi_Column_api_Column,go_sem,wrapI,wrapB,upd_is,upd_not,Nat.reduceAdd,Nat.reduceSub,Nat.reduceMul,Nat.reduceLeDiff,Nat.reduceEqDiff,Int.reduceAdd,Int.reduceSub,Int.reduceMul,Int.reduceNeg,Int.reduceLT,Int.reduceLE,Int.reduceEq,Int.reduceToNat,reduceCtorEq,reduceIte,Nat.zero_add,Nat.add_zero, *]
  intro hl
  refine LOOP_list xs (fun i s => (xs.take i).any q = false ∧ ∃ a b c d, s = [a, b, c, d, .sc (.int .i64 i)]) ⟨rfl, _, _, _, _, rfl⟩ ?_ ?_
  · rintro i x K s' n' hx hi hi' hn ⟨h0, a, b, c, d, rfl⟩ hK
    have HK := Lib.hid hK; clear hK
    have HX := Lib.hid hx
    simp (contextual:=true) (maxSteps:=1000000) (disch:=omega) only [lb_slices_IndexFunc_lapi_Column_api_Column2,encC,go_sem,wrapI,wrapB,upd_is,upd_not,Nat.reduceAdd,Nat.reduceSub,Nat.reduceMul,Nat.reduceLeDiff,Nat.reduceEqDiff,Int.reduceAdd,Int.reduceSub,Int.reduceMul,Int.reduceNeg,Int.reduceLT,Int.reduceLE,Int.reduceEq,Int.reduceToNat,reduceCtorEq,reduceIte,Nat.zero_add,Nat.add_zero, *]
    refine CALL_con0 (H.out x (List.mem_of_getElem? hx)) (by simp only [encC, List.cons_append, List.nil_append, brwL_cons, brw_ag, brw_s, brw_sc, brwL_nil, HC.out, Option.map_some, List.append_nil]) ?_
    cases hq : q x with
    | true =>
      simp (contextual:=true) (maxSteps:=1000000) (disch:=omega) only [go_sem,wrapI,wrapB,upd_is,upd_not,Nat.reduceAdd,Nat.reduceSub,Nat.reduceMul,Nat.reduceLeDiff,Nat.reduceEqDiff,Int.reduceAdd,Int.reduceSub,Int.reduceMul,Int.reduceNeg,Int.reduceLT,Int.reduceLE,Int.reduceEq,Int.reduceToNat,reduceCtorEq,reduceIte,Nat.zero_add,Nat.add_zero, *]
      exact RC_ret rfl (by rw [ixL_here hx h0 hq])
    | false =>
      simp (contextual:=true) (maxSteps:=1000000) (disch:=omega) only [go_sem,wrapI,wrapB,upd_is,upd_not,Nat.reduceAdd,Nat.reduceSub,Nat.reduceMul,Nat.reduceLeDiff,Nat.reduceEqDiff,Int.reduceAdd,Int.reduceSub,Int.reduceMul,Int.reduceNeg,Int.reduceLT,Int.reduceLE,Int.reduceEq,Int.reduceToNat,reduceCtorEq,reduceIte,Nat.zero_add,Nat.add_zero, *]
      exact HK.out _ _ (Nat.le_refl _) ⟨by rw [any_take hx, h0, hq]; rfl, _, _, _, _, rfl⟩
  · rintro K s' n' hn ⟨h0, a, b, c, d, rfl⟩
    rw [List.take_length] at h0
    simp (contextual:=true) (maxSteps:=1000000) (disch:=omega) only [lb_slices_IndexFunc_lapi_Column_api_Column2,go_sem,wrapI,wrapB,upd_is,upd_not,Nat.reduceAdd,Nat.reduceSub,Nat.reduceMul,Nat.reduceLeDiff,Nat.reduceEqDiff,Int.reduceAdd,Int.reduceSub,Int.reduceMul,Int.reduceNeg,Int.reduceLT,Int.reduceLE,Int.reduceEq,Int.reduceToNat,reduceCtorEq,reduceIte,Nat.zero_add,Nat.add_zero, *]
    exact RC_ret rfl (by rw [ixL_no h0])
end Go.Proofs.YtodoejfkjimeaaaDoor

set_option linter.unusedSimpArgs false
set_option linter.unusedVariables false
set_option maxRecDepth 100000
namespace Go.Proofs.YtodoejfkjimeaaaDoor
open Go Go.RowKit Am

end Go.Proofs.YtodoejfkjimeaaaDoor

set_option linter.unusedSimpArgs false
set_option linter.unusedVariables false
set_option maxRecDepth 100000
namespace Go.Proofs.YtodoejfkjimeaaaDoor
open Go Go.RowKit Am

theorem encT_len (t : Tb) : (encT t).length = 4 := rfl
theorem encC_len (c : Cl) : (encC c).length = 3 := rfl
attribute [go_sem] encT_len encC_len
structure Pl where
  found : Int
  known : Bool
  at_ : Int
  kind : Int
  base : Int
end Go.Proofs.YtodoejfkjimeaaaDoor

set_option linter.unusedSimpArgs false
set_option linter.unusedVariables false
set_option maxRecDepth 100000
namespace Go.Proofs.YtodoejfkjimeaaaDoor
open Go Go.RowKit Am

theorem encE_brw (σ : Hp) (d : Nat) (e : Ep) : brwL σ d (encE e) = some (encE e, []) := by
  simp only [brwL_cons, brwL_nil, brw_ag, brw_sc, brw_tr, encE_eq, brw_s, List.append_nil, Option.map_some, List.nil_append]
attribute [go_sem] encE_brw
inductive Gd : Ep → Prop
  | mk (e : Ep) (h : partOk e = true) (ha : ∀ a ∈ e.args, Gd a) : Gd e
end Go.Proofs.YtodoejfkjimeaaaDoor

set_option linter.unusedSimpArgs false
set_option linter.unusedVariables false
set_option maxRecDepth 100000
namespace Go.Proofs.YtodoejfkjimeaaaDoor
open Go Go.RowKit Am

theorem encE_drop (e : Ep) : (encE e).drop 7 = [] := by rw [encE_eq]; rfl
attribute [go_sem] encE_drop
end Go.Proofs.YtodoejfkjimeaaaDoor

set_option linter.unusedSimpArgs false
set_option linter.unusedVariables false
set_option maxRecDepth 100000
namespace Go.Proofs.YtodoejfkjimeaaaDoor
open Go Go.RowKit Am

theorem callD_con {P : Program} {g : FuncId} {caps args cs : List AV} {I : List Nat} {r : AEnd} {σ : Hp} {id : Nat} {K : AEnd → Wr → List Nat → Prop} (h : Con P g cs r) (hb : brwL σ 6 (args ++ caps) = some (cs, I))
    (hk : K r (wrOf r σ I) I) : callD P (.fn g caps) args σ id K := .c ⟨cs, I, r, hb, h, by cases r <;> exact hk⟩
theorem callD_con0 {P : Program} {g : FuncId} {caps args cs : List AV} {r : AEnd} {σ : Hp} {id : Nat} {K : AEnd → Wr → List Nat → Prop} (h : Con P g cs r) (hb : brwL σ 6 (args ++ caps) = some (cs, []))
    (hk : K r [] []) : callD P (.fn g caps) args σ id K := by
  refine callD_con h hb ?_
  cases r with
  | ret v => by_cases hs : scal v = true <;> simpa [wrOf, hs, frz] using hk
  | pan x => exact hk
inductive Tr : Ep → Prop
  | mk (e : Ep) (h : ∀ a ∈ e.args, Tr a) : Tr e
theorem tr_all (e : Ep) : Tr e := by
  refine Ep.rec (motive_1 := Tr) (motive_2 := fun l => ∀ a ∈ l, Tr a) ?_ ?_ ?_ e
  · intro op kind n text table name args h; exact .mk _ h
  · intro a h; cases h
  · intro a l ha hl b hb
    rcases List.mem_cons.1 hb with rfl | hb
    · exact ha
    · exact hl b hb
mutual
def sameF : Ep → Ep → Bool
  | .mk op kind n text table name args, b => (decide (op = b.op) && (decide (kind = b.kind) && decide (n = b.n) && decide (text = b.text))) && decide (table = b.table) && decide (name = b.name) && sameL args b.args
def sameL : List Ep → List Ep → Bool
  | [], [] => true
  | a :: l, b :: m => sameF a b && sameL l m
  | _, _ => false
end
theorem sameF_eq (a b : Ep) : sameF a b = ((decide (a.op = b.op) && (decide (a.kind = b.kind) && decide (a.n = b.n) && decide (a.text = b.text))) && decide (a.table = b.table) && decide (a.name = b.name) && sameL a.args b.args) := by
  cases a; rw [sameF]; rfl
theorem sameF_iff (a : Ep) : ∀ b, sameF a b = true ↔ a = b := by
  refine Ep.rec (motive_1 := fun a => ∀ b, sameF a b = true ↔ a = b) (motive_2 := fun l => ∀ m, sameL l m = true ↔ l = m) ?_ ?_ ?_ a
  · intro op kind n text table name args ih b
    obtain ⟨op', kind', n', text', table', name', args'⟩ := b
    rw [sameF_eq]
    simp only [Ep.op, Ep.kind, Ep.n, Ep.text, Ep.table, Ep.name, Ep.args, Bool.and_eq_true, decide_eq_true_eq, ih, Ep.mk.injEq]
    constructor
    · rintro ⟨⟨⟨⟨a, ⟨b, c⟩, d⟩, e⟩, f⟩, g⟩; exact ⟨of_decide_eq_true a, of_decide_eq_true b, of_decide_eq_true c, of_decide_eq_true d, of_decide_eq_true e, of_decide_eq_true f, g⟩
    · rintro ⟨a, b, c, d, e, f, g⟩; exact ⟨⟨⟨⟨decide_eq_true a, ⟨decide_eq_true b, decide_eq_true c⟩, decide_eq_true d⟩, decide_eq_true e⟩, decide_eq_true f⟩, g⟩
  · intro m; cases m <;> simp [sameL]
  · intro a l iha ihl m
    cases m with
    | nil => simp [sameL]
    | cons b m => simp [sameL, iha, ihl]
theorem sameL_len : ∀ {l m : List Ep}, l.length ≠ m.length → sameL l m = false
  | [], [], h => absurd rfl h
  | [], _ :: _, _ => rfl
  | _ :: _, [], _ => rfl
  | a :: l, b :: m, h => by
    simp only [sameL]
    rw [sameL_len (l := l) (m := m) (by simpa using h), Bool.and_false]
theorem sameL_take {l m : List Ep} {i : Nat} {a b : Ep} (ha : l[i]? = some a) (hb : m[i]? = some b) : sameL (l.take (i + 1)) (m.take (i + 1)) = (sameL (l.take i) (m.take i) && sameF a b) := by
  induction i generalizing l m with
  | zero =>
    cases l with
    | nil => cases ha
    | cons x l => cases m with
      | nil => cases hb
      | cons y m => cases ha; cases hb; simp [sameL]
  | succ i ih =>
    cases l with
    | nil => cases ha
    | cons x l => cases m with
      | nil => cases hb
      | cons y m =>
        simp only [List.take_succ_cons, sameL]
        rw [ih (by simpa using ha) (by simpa using hb), Bool.and_assoc]
theorem sameL_no {i : Nat} : ∀ {l m : List Ep}, sameL (l.take i) (m.take i) = false → sameL l m = false := by
  induction i with
  | zero => intro l m h; simp [sameL] at h
  | succ i ih =>
    intro l m h
    cases l with
    | nil => cases m with
      | nil => simp [sameL] at h
      | cons y m => rfl
    | cons x l => cases m with
      | nil => rfl
      | cons y m =>
        simp only [List.take_succ_cons, sameL] at h ⊢
        cases hx : sameF x y with
        | false => rfl
        | true => rw [hx, Bool.true_and] at h; rw [ih h, Bool.and_false]
set_option maxHeartbeats 4000000 in
theorem sameL_con (l m : List Ep) (h : ∀ a ∈ l, ∀ b, Con Tryd.prog 16 [.ag (encE a), .ag (encE b)] (.ret (.sc (.bool (sameF a b))))) :
    Con Tryd.prog 34 [.tr (l.map encE), .tr (m.map encE)] (.ret (.sc (.bool (sameL l m)))) := by
  refine con_of (by_plain_SameExprs ?_)
  generalize hR : RC _ = R
  have HR := Lib.hid hR; clear hR
  have IH := Lib.hid h; clear h
  by_cases h1 : (l.length : Int) = m.length
  · simp (maxSteps:=1000000) (disch:=omega) only [sh_plain_SameExprs,go_sem,wrapI,wrapB,upd_is,upd_not,Nat.reduceAdd,Nat.reduceSub,Nat.reduceMul,Nat.reduceLeDiff,Nat.reduceEqDiff,Int.reduceAdd,Int.reduceSub,Int.reduceMul,Int.reduceNeg,Int.reduceLT,Int.reduceLE,Int.reduceEq,Int.reduceToNat,reduceCtorEq,reduceIte,Nat.zero_add,Nat.add_zero, *]
    intro _ _
    refine LOOP_listM l (fun i s σ' n' => (∃ a b c, s = [a, b, c, .sc (.int .i64 i)]) ∧ sameL (l.take i) (m.take i) = true) (.refl ⟨⟨_, _, _, rfl⟩, rfl⟩) ?_ ?_
    · rintro i x K s' σ' n2 hx hi hi' hn ⟨⟨a, b, c, rfl⟩, hal⟩ hK
      have HK := Lib.hid hK; clear hK
      have HA := Lib.hid hal; clear hal
      obtain ⟨y, hy⟩ : ∃ y, m[i]? = some y := ⟨m[i]'(by omega), List.getElem?_eq_getElem _⟩
      have HI := IH.out x (List.mem_of_getElem? hx) y
      have hi2 : (i : Int) < m.length := by omega
      have HT := Lib.hid (sameL_take hx hy)
      have HN := Lib.hid (sameL_no (i := i + 1) (l := l) (m := m))
      simp (maxSteps:=1000000) (disch:=omega) only [lb_plain_SameExprs2,go_sem,wrapI,wrapB,upd_is,upd_not,Nat.reduceAdd,Nat.reduceSub,Nat.reduceMul,Nat.reduceLeDiff,Nat.reduceEqDiff,Int.reduceAdd,Int.reduceSub,Int.reduceMul,Int.reduceNeg,Int.reduceLT,Int.reduceLE,Int.reduceEq,Int.reduceToNat,reduceCtorEq,reduceIte,Nat.zero_add,Nat.add_zero, *]
      refine callD_conS (I := []) HI (by simp only [brwL_cons, brwL_nil, brw_ag, brw_tr, brw_sc, encE_brw, List.append_nil, Option.map_some]) rfl ?_
      cases hq : sameF x y with
      | true =>
        have HQ := Lib.hid hq; clear hq
        simp (maxSteps:=1000000) (disch:=omega) only [go_sem,wrapI,wrapB,upd_is,upd_not,Nat.reduceAdd,Nat.reduceSub,Nat.reduceMul,Nat.reduceLeDiff,Nat.reduceEqDiff,Int.reduceAdd,Int.reduceSub,Int.reduceMul,Int.reduceNeg,Int.reduceLT,Int.reduceLE,Int.reduceEq,Int.reduceToNat,reduceCtorEq,reduceIte,Nat.zero_add,Nat.add_zero, *]
        refine fun n_ hn_ => HK.out _ _ _ (.refl ⟨⟨_, _, _, rfl⟩, by rw [HT.out, HA.out, HQ.out]; rfl⟩)
      | false =>
        have HQ := Lib.hid hq; clear hq
        simp (maxSteps:=1000000) (disch:=omega) only [go_sem,wrapI,wrapB,upd_is,upd_not,Nat.reduceAdd,Nat.reduceSub,Nat.reduceMul,Nat.reduceLeDiff,Nat.reduceEqDiff,Int.reduceAdd,Int.reduceSub,Int.reduceMul,Int.reduceNeg,Int.reduceLT,Int.reduceLE,Int.reduceEq,Int.reduceToNat,reduceCtorEq,reduceIte,Nat.zero_add,Nat.add_zero, *]
        intro n_ hn_
        rw [← HR.out, HN.out (by rw [HT.out, HQ.out, Bool.and_false])]; exact RC_ret rfl rfl
    · rintro K s' σ' n2 hn ⟨⟨a, b, c, rfl⟩, hal⟩
      have hlm : l.length = m.length := by omega
      rw [List.take_length, List.take_of_length_le (by omega)] at hal
      have HA := Lib.hid hal; clear hal hlm
      simp (maxSteps:=1000000) (disch:=omega) only [lb_plain_SameExprs2,Int.lt_irrefl,go_sem,wrapI,wrapB,upd_is,upd_not,Nat.reduceAdd,Nat.reduceSub,Nat.reduceMul,Nat.reduceLeDiff,Nat.reduceEqDiff,Int.reduceAdd,Int.reduceSub,Int.reduceMul,Int.reduceNeg,Int.reduceLT,Int.reduceLE,Int.reduceEq,Int.reduceToNat,reduceCtorEq,reduceIte,Nat.zero_add,Nat.add_zero, *]
      rw [← HR.out, HA.out]; exact RC_ret rfl rfl
  · have hf := Lib.hid (sameL_len (l := l) (m := m) (by omega))
    simp (maxSteps:=1000000) (disch:=omega) only [sh_plain_SameExprs,go_sem,wrapI,wrapB,upd_is,upd_not,Nat.reduceAdd,Nat.reduceSub,Nat.reduceMul,Nat.reduceLeDiff,Nat.reduceEqDiff,Int.reduceAdd,Int.reduceSub,Int.reduceMul,Int.reduceNeg,Int.reduceLT,Int.reduceLE,Int.reduceEq,Int.reduceToNat,reduceCtorEq,reduceIte,Nat.zero_add,Nat.add_zero, *]
    intro _ _
    rw [← HR.out, hf.out]; exact RC_ret rfl rfl
set_option maxHeartbeats 4000000 in
theorem same_con (a b : Ep) : Con Tryd.prog 16 [.ag (encE a), .ag (encE b)] (.ret (.sc (.bool (sameF a b)))) := by
  have htr := tr_all a
  induction htr generalizing b with
  | mk a h ih =>
    refine con_of (by_plain_SameExpr ?_)
    generalize hR : RC _ = R
    have HR := Lib.hid hR; clear hR
    have HL := Lib.hid (sameL_con a.args b.args ih); clear ih h
    have HF := Lib.hid (sameF_eq a b)
    by_cases h1 : a.op = b.op
    · skip
      by_cases h2 : a.kind = b.kind
      · skip
        by_cases h3 : a.n = b.n
        · skip
          by_cases h4 : a.text = b.text
          · skip
            by_cases h5 : a.table = b.table
            · skip
              by_cases h6 : a.name = b.name
              · skip
                have hf : sameF a b = sameL a.args b.args := by rw [HF.out]; simp [h1, h2, h3, h4, h5, h6]
                have HF' := Lib.hid hf; clear hf HF
                simp (maxSteps:=1000000) (disch:=omega) only [sh_plain_SameExpr,encE_eq,Bool.and_false,Bool.false_and,Bool.and_true,Bool.true_and,Bool.and_self,go_sem,wrapI,wrapB,upd_is,upd_not,Nat.reduceAdd,Nat.reduceSub,Nat.reduceMul,Nat.reduceLeDiff,Nat.reduceEqDiff,Int.reduceAdd,Int.reduceSub,Int.reduceMul,Int.reduceNeg,Int.reduceLT,Int.reduceLE,Int.reduceEq,Int.reduceToNat,reduceCtorEq,reduceIte,Nat.zero_add,Nat.add_zero, *]
                refine CALL_con0 HL.out rfl ?_
                simp (maxSteps:=1000000) (disch:=omega) only [go_sem,wrapI,wrapB,upd_is,upd_not,Nat.reduceAdd,Nat.reduceSub,Nat.reduceMul,Nat.reduceLeDiff,Nat.reduceEqDiff,Int.reduceAdd,Int.reduceSub,Int.reduceMul,Int.reduceNeg,Int.reduceLT,Int.reduceLE,Int.reduceEq,Int.reduceToNat,reduceCtorEq,reduceIte,Nat.zero_add,Nat.add_zero, *]
                rw [← HR.out, HF'.out]; exact RC_ret rfl rfl
              · have hf : sameF a b = false := by rw [HF.out]; simp [h6]
                have HF' := Lib.hid hf; clear hf HF
                simp (maxSteps:=1000000) (disch:=omega) only [sh_plain_SameExpr,encE_eq,Bool.and_false,Bool.false_and,Bool.and_true,Bool.true_and,Bool.and_self,go_sem,wrapI,wrapB,upd_is,upd_not,Nat.reduceAdd,Nat.reduceSub,Nat.reduceMul,Nat.reduceLeDiff,Nat.reduceEqDiff,Int.reduceAdd,Int.reduceSub,Int.reduceMul,Int.reduceNeg,Int.reduceLT,Int.reduceLE,Int.reduceEq,Int.reduceToNat,reduceCtorEq,reduceIte,Nat.zero_add,Nat.add_zero, *]
                rw [← HR.out, HF'.out]; exact RC_ret rfl rfl
            · have hf : sameF a b = false := by rw [HF.out]; simp [h5]
              have HF' := Lib.hid hf; clear hf HF
              simp (maxSteps:=1000000) (disch:=omega) only [sh_plain_SameExpr,encE_eq,Bool.and_false,Bool.false_and,Bool.and_true,Bool.true_and,Bool.and_self,go_sem,wrapI,wrapB,upd_is,upd_not,Nat.reduceAdd,Nat.reduceSub,Nat.reduceMul,Nat.reduceLeDiff,Nat.reduceEqDiff,Int.reduceAdd,Int.reduceSub,Int.reduceMul,Int.reduceNeg,Int.reduceLT,Int.reduceLE,Int.reduceEq,Int.reduceToNat,reduceCtorEq,reduceIte,Nat.zero_add,Nat.add_zero, *]
              rw [← HR.out, HF'.out]; exact RC_ret rfl rfl
          · have hf : sameF a b = false := by rw [HF.out]; simp [h4]
            have HF' := Lib.hid hf; clear hf HF
            simp (maxSteps:=1000000) (disch:=omega) only [sh_plain_SameExpr,encE_eq,Bool.and_false,Bool.false_and,Bool.and_true,Bool.true_and,Bool.and_self,go_sem,wrapI,wrapB,upd_is,upd_not,Nat.reduceAdd,Nat.reduceSub,Nat.reduceMul,Nat.reduceLeDiff,Nat.reduceEqDiff,Int.reduceAdd,Int.reduceSub,Int.reduceMul,Int.reduceNeg,Int.reduceLT,Int.reduceLE,Int.reduceEq,Int.reduceToNat,reduceCtorEq,reduceIte,Nat.zero_add,Nat.add_zero, *]
            rw [← HR.out, HF'.out]; exact RC_ret rfl rfl
        · have hf : sameF a b = false := by rw [HF.out]; simp [h3]
          have HF' := Lib.hid hf; clear hf HF
          simp (maxSteps:=1000000) (disch:=omega) only [sh_plain_SameExpr,encE_eq,Bool.and_false,Bool.false_and,Bool.and_true,Bool.true_and,Bool.and_self,go_sem,wrapI,wrapB,upd_is,upd_not,Nat.reduceAdd,Nat.reduceSub,Nat.reduceMul,Nat.reduceLeDiff,Nat.reduceEqDiff,Int.reduceAdd,Int.reduceSub,Int.reduceMul,Int.reduceNeg,Int.reduceLT,Int.reduceLE,Int.reduceEq,Int.reduceToNat,reduceCtorEq,reduceIte,Nat.zero_add,Nat.add_zero, *]
          rw [← HR.out, HF'.out]; exact RC_ret rfl rfl
      · have hf : sameF a b = false := by rw [HF.out]; simp [h2]
        have HF' := Lib.hid hf; clear hf HF
        simp (maxSteps:=1000000) (disch:=omega) only [sh_plain_SameExpr,encE_eq,Bool.and_false,Bool.false_and,Bool.and_true,Bool.true_and,Bool.and_self,go_sem,wrapI,wrapB,upd_is,upd_not,Nat.reduceAdd,Nat.reduceSub,Nat.reduceMul,Nat.reduceLeDiff,Nat.reduceEqDiff,Int.reduceAdd,Int.reduceSub,Int.reduceMul,Int.reduceNeg,Int.reduceLT,Int.reduceLE,Int.reduceEq,Int.reduceToNat,reduceCtorEq,reduceIte,Nat.zero_add,Nat.add_zero, *]
        rw [← HR.out, HF'.out]; exact RC_ret rfl rfl
    · have hf : sameF a b = false := by rw [HF.out]; simp [h1]
      have HF' := Lib.hid hf; clear hf HF
      have hd : decide (a.op = b.op) = false := decide_eq_false h1
      clear h1 HL
      simp only [sh_plain_SameExpr, encE_eq, go_sem, upd_is, upd_not, hd, reduceCtorEq, reduceIte, Nat.reduceAdd, Nat.reduceEqDiff]
      rw [← HR.out, HF'.out]; exact RC_ret rfl rfl
end Go.Proofs.YtodoejfkjimeaaaDoor

set_option linter.unusedSimpArgs false
set_option linter.unusedVariables false
set_option maxRecDepth 100000
namespace Go.Proofs.YtodoejfkjimeaaaDoor
open Go Go.RowKit Am

theorem brw_all {σ : Hp} {d i k len : Nat} {rows : List (List AV)} {w : Bool} (h : σ i = some (.c ⟨k, rows, w, true⟩)) (hl : rows.length = len) (hk : 0 < k) : brw σ (d + 1) (.ow i k 0 len) = some (.tr rows, [i]) := by
  subst hl
  rw [brw_ow', h]
  simp only
  rw [if_pos ⟨trivial, trivial, by omega, hk⟩, List.drop_zero, List.take_of_length_le (Nat.le_refl _)]
theorem encX_len (x : Ix) : (encX x).length = 2 := rfl
theorem encC_all (l : List Cl) : ((l.map encC).all fun r => r.length == 3) = true := all_enc encC 3 encC_len l
theorem encX_all (l : List Ix) : ((l.map encX).all fun r => r.length == 2) = true := all_enc encX 2 encX_len l
theorem encT_all (l : List Tb) : ((l.map encT).all fun r => r.length == 4) = true := all_enc encT 4 encT_len l
theorem encC_leafs (l : List Cl) : ((l.map encC).all fun r => r.all leafok) = true := by simp [encC, leafok]
theorem encX_leafs (l : List Ix) : ((l.map encX).all fun r => r.all leafok) = true := by simp [encX, leafok]
theorem encC_leaf (c : Cl) : (encC c).all leafok = true := rfl
theorem encX_leaf (x : Ix) : (encX x).all leafok = true := rfl
theorem encX_clo (x : Ix) : (encX x).all clo = true := rfl
theorem encX_take (x : Ix) : (encX x).take 2 = encX x := rfl
theorem encX_drop (x : Ix) : (encX x).drop 2 = [] := rfl
theorem encC_drop (x : Cl) : (encC x).drop 3 = [] := rfl
theorem encC_take (x : Cl) : (encC x).take 3 = encC x := rfl
theorem encT_take (x : Tb) : (encT x).take 4 = encT x := rfl
theorem encT_drop (x : Tb) : (encT x).drop 4 = [] := rfl
attribute [go_sem] encX_take encX_drop encC_take encC_drop encT_take encT_drop
theorem encT_leafs (l : List Tb) : ((l.map encT).all fun r => r.all leafok) = true := by simp [encT, leafok]
theorem encT_leaf (t : Tb) : (encT t).all leafok = true := rfl
theorem encT_clo (t : Tb) : (encT t).all clo = true := rfl
theorem encT_brw (σ : Hp) (d : Nat) (t : Tb) : brwL σ d (encT t) = some (encT t, []) := by
  simp only [brwL_cons, brwL_nil, brw_sc, brw_tr, encT, brw_s, List.append_nil]
theorem encX_brw (σ : Hp) (d : Nat) (x : Ix) : brwL σ d (encX x) = some (encX x, []) := by
  simp only [brwL_cons, brwL_nil, brw_sc, encX, brw_s, List.append_nil]
attribute [go_sem] encC_leaf encX_leaf encX_clo encX_len encC_all encX_all encT_all encC_leafs encX_leafs encT_leafs encT_leaf encT_clo encT_brw encX_brw
structure TBd (t : Tb) : Prop where
  col : t.columns.length ≤ 1048576
  ind : t.indexes.length ≤ 1048576
end Go.Proofs.YtodoejfkjimeaaaDoor
