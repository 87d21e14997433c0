/- Packed by a program of this repo: Ca Cw Sp SlR. -/
import Derived.Test.YtodoejfkjimeaaaGreatDoorKTMu
import Derived.Test.YtodoejfkjimeaaaGreatDoorKTSh7
import Derived.Test.YtodoejfkjimeaaaGreatDoorKTMs
import Derived.Lib.Replace
import Derived.Lib.ReplaceLaws
import Derived.Lib.Strings
import Derived.Shelf.Strings.Prefix
import Derived.Shelf.Strings.Replace
import Derived.Shelf.Vars
import Derived.Test.YtodoejfkjimeaaaGreatDoorProg
import Derived.Test.YtodoejfkjimeaaaGreatDoorKTBase
set_option linter.unusedSimpArgs false
set_option linter.unusedVariables false
set_option maxRecDepth 100000
namespace Go.Proofs.YtodoejfkjimeaaaGreatDoor
open Go Go.RowKit Am
attribute [local go_sem] wrapI wrapB upd_is upd_not Nat.zero_add Nat.add_zero
attribute [local go_sem_proc] Nat.reduceAdd Nat.reduceSub Nat.reduceMul Nat.reduceLeDiff Nat.reduceEqDiff Int.reduceAdd Int.reduceSub Int.reduceMul Int.reduceNeg Int.reduceLT Int.reduceLE Int.reduceEq Int.reduceToNat reduceCtorEq reduceIte

theorem syneed_con (b : Bool) (n : Int) : Con Tryz.prog 82 [.sc (.bool b), .sc (.int .i64 n)] (cond b (.ret (.tp [])) (.pan (.iface 30 (.int .i64 n)))) := by
  refine con_of (by_syntax_need ?_)
  cases b
  · simp only [sh_syntax_need, go_sem]
    exact RC_pan rfl
  · simp only [sh_syntax_need, go_sem]
    exact RC_ret rfl rfl
def argsN (op : Int) : Int × Bool :=
  if op = 0 ∨ op = 1 ∨ op = 18 then (0, true) else if op = 2 ∨ op = 3 ∨ op = 16 ∨ op = 17 ∨ op = 19 ∨ op = 20 ∨ op = 21 ∨ op = 22 then (1, true) else (2, decide (4 ≤ op) && decide (op < 16))
theorem args_con (op : Int) : Con Tryz.prog 89 [.sc (.int .i64 op)] (.ret (.tp [.sc (.int .i64 (argsN op).1), .sc (.bool (argsN op).2)])) := by
  refine con_of (by_syntax_Args ?_)
  simp only [sh_syntax_Args, go_sem]
  (repeat' first | contradiction | simp (contextual:=true) (maxSteps:=1000000) (disch:=omega) only [go_sem, *] | intro _ | refine And.intro ?_ ?_ | simp only [COND_bif, COND_bool, guardP_if, guardK_if, guardD_if, onEnd_cond])
  all_goals exact RC_ret rfl (by simp [argsN, *])
def valOk (kind n : Int) (text : Tx) : Bool :=
  if kind = 0 then decide (n = 0) && decide (text = []) else if kind = 1 then decide (text = []) else if kind = 2 then decide (text = []) && decide (IntKind.u64.wrap n ≤ 1) else if kind = 3 then decide (n = 0) && decide ((text.length : Int) ≤ 64) else false
theorem valCheck_con (kind n : Int) (text : Tx) : Con Tryz.prog 90 [.ag [.sc (.int .i64 kind), .sc (.int .i64 n), .s text]] (.ret (.sc (.int .i64 (if valOk kind n text then 0 else 9)))) := by
  refine con_of (by_value_Check ?_)
  simp only [sh_value_Check, go_sem]
  (repeat' first | contradiction | simp (contextual:=true) (maxSteps:=1000000) (disch:=omega) only [go_sem, *] | intro _ | refine And.intro ?_ ?_ | simp only [COND_bif, COND_bool, guardP_if, guardK_if, guardD_if, onEnd_cond])
  all_goals exact RC_ret rfl (by first | (simp_all [valOk]; done) | grind [valOk])
inductive Bd : Ep → Prop
  | mk (op kind n : Int) (text table name : Tx) (args : List Ep) (h1 : text.length ≤ 1048576) (h2 : table.length ≤ 1048576) (h3 : name.length ≤ 1048576) (h4 : args.length ≤ 1048576) (h : ∀ a ∈ args, Bd a) : Bd (.mk op kind n text table name args)
def partOk (e : Ep) : Bool :=
  (argsN e.op).2 && decide ((argsN e.op).1 = (e.args.length : Int)) &&
  (if e.op = 0 then decide (e.table ++ e.name = []) && valOk e.kind e.n e.text && (decide (¬ e.kind = 1) || decide (0 ≤ e.n))
   else if e.op = 1 then (decide (e.kind = 0) && (decide (e.n = 0) && decide (e.text = []))) && nameL e.name && (decide (e.table = []) || nameL e.table)
   else (decide (e.kind = 0) && (decide (e.n = 0) && decide (e.text = []))) && decide (e.table ++ e.name = []))
set_option maxHeartbeats 4000000 in
theorem part_con (e : Ep) (hb : Bd e) : Con Tryz.prog 83 [.ag (encE e)] (.ret (.sc (.bool (partOk e)))) := by
  refine con_of (by_syntax_part ?_)
  obtain ⟨op, kind, n, text, table, name, args, h1, h2, h3, h4, h⟩ := hb
  rw [encE_eq]
  have hadd : table.length + name.length ≤ 9223372036854775807 := by omega
  simp (contextual:=true) (maxSteps:=1000000) (disch:=omega) only [sh_syntax_part,Ep.op,Ep.kind,Ep.n,Ep.text,Ep.table,Ep.name,Ep.args,go_sem, *]
  refine CALL_con0 (args_con _) rfl ?_
  (repeat' first | contradiction | simp (contextual:=true) (maxSteps:=1000000) (disch:=omega) only [go_sem, *] | intro _ | refine And.intro ?_ ?_ | refine CALL_con0 (valCheck_con _ _ _) rfl ?_ | refine CALL_con0 (name_con _ (by omega)) rfl ?_ | simp only [COND_bif, COND_bool, guardP_if, guardK_if, guardD_if, onEnd_cond])
  all_goals first
    | exact RC_ret rfl (by first | (simp_all [partOk, Ep.op, Ep.kind, Ep.n, Ep.text, Ep.table, Ep.name, Ep.args]; done) | grind [partOk, Ep.op, Ep.kind, Ep.n, Ep.text, Ep.table, Ep.name, Ep.args])
end Go.Proofs.YtodoejfkjimeaaaGreatDoor

set_option linter.unusedSimpArgs false
set_option linter.unusedVariables false
set_option maxRecDepth 100000
namespace Go.Proofs.YtodoejfkjimeaaaGreatDoor
open Go Go.RowKit Am
attribute [local go_sem] wrapI wrapB upd_is upd_not Nat.zero_add Nat.add_zero
attribute [local go_sem_proc] Nat.reduceAdd Nat.reduceSub Nat.reduceMul Nat.reduceLeDiff Nat.reduceEqDiff Int.reduceAdd Int.reduceSub Int.reduceMul Int.reduceNeg Int.reduceLT Int.reduceLE Int.reduceEq Int.reduceToNat reduceCtorEq reduceIte

def goOver (f : Ep → Nat → Int × Nat) : List Ep → Nat → Int × Nat
  | [], c => (0, c)
  | a :: l, c => if (f a c).1 = 0 then goOver f l (f a c).2 else f a c
def walkF : Nat → Ep → Nat → Int × Nat
  | 0, _, c => (10, c)
  | k + 1, e, c => if 64 ≤ c then (3, c) else if partOk e = false then (9, c) else goOver (walkF k) e.args (c + 1)
theorem goOver_append (f : Ep → Nat → Int × Nat) : ∀ (l m : List Ep) (c : Nat), (goOver f l c).1 = 0 → goOver f (l ++ m) c = goOver f m (goOver f l c).2
  | [], m, c, _ => rfl
  | a :: l, m, c, h => by
    simp only [List.cons_append, goOver] at h ⊢
    split
    · rename_i h0; rw [if_pos h0] at h; exact goOver_append f l m _ h
    · rename_i h0; rw [if_neg h0] at h; exact absurd h h0
theorem goOver_stop (f : Ep → Nat → Int × Nat) : ∀ (l m : List Ep) (c : Nat), (goOver f l c).1 ≠ 0 → goOver f (l ++ m) c = goOver f l c
  | [], m, c, h => absurd rfl h
  | a :: l, m, c, h => by
    simp only [List.cons_append, goOver] at h ⊢
    split
    · rename_i h0; rw [if_pos h0] at h; exact goOver_stop f l m _ h
    · rfl
abbrev errPan (n : Int) : AEnd := .pan (.iface 30 (.int .i64 n))
def endW (n : Int) : AEnd := if n = 0 then .ret (.tp []) else errPan n
theorem walkF_le : ∀ (k : Nat) (e : Ep) (c : Nat), c ≤ 64 → (walkF k e c).2 ≤ 64
  | 0, e, c, h => h
  | k + 1, e, c, h => by
    simp only [walkF]
    split
    · exact h
    · split
      · exact h
      · have : ∀ (l : List Ep) (c : Nat), c ≤ 64 → (goOver (walkF k) l c).2 ≤ 64 := by
          intro l
          induction l with
          | nil => intro c h; exact h
          | cons a l ih =>
            intro c h
            simp only [goOver]
            split
            · exact ih _ (walkF_le k a c h)
            · exact walkF_le k a c h
        exact this _ _ (by omega)
theorem encE_take (e : Ep) : (encE e).take 7 = encE e := by rw [encE_eq]; rfl
theorem encE_leaf (e : Ep) : (encE e).all leafok = true := by rw [encE_eq]; rfl
theorem encE_clo (e : Ep) : (encE e).all clo = true := by rw [encE_eq]; rfl
attribute [go_sem] encE_take encE_leaf encE_clo
theorem Bd.arg {e a : Ep} {i : Nat} (h : Bd e) (hx : e.args[i]? = some a) : Bd a := by
  cases h with
  | mk op kind n text table name args h1 h2 h3 h4 h => exact h a (List.mem_of_getElem? hx)
theorem keep_new {σ : Hp} {i n j : Nat} {v x : Ob} {y : Option Ob} (hi : σ i = some v) (hf : ∀ j, n ≤ j → σ j = none) (hin : i < n) (h : upd σ i (some v) j = some x) : upd σ n y j = some x := by
  by_cases e : j = n
  · subst e
    rw [upd_not (by omega), hf _ (Nat.le_refl _)] at h; cases h
  · rw [upd_not e]
    by_cases e2 : j = i
    · subst e2; rw [upd_is rfl] at h; rw [hi]; exact h
    · rw [upd_not e2] at h; exact h
theorem walk_con : ∀ (k : Nat) (e : Ep) (c i id : Nat) (lv : Int), lv = 13 - k → Bd e → c ≤ 64 → k ≤ 12 → ConW Tryz.prog 63 [.rf i 1 0 0, .ag (encE e), .sc (.int .i64 lv)] [(i, blk1 (.sc (.int .i64 c)))] id (endW (walkF k e c).1) [(i, some (blk1 (.sc (.int .i64 ((walkF k e c).2 : Int)))))] := by
  intro k
  induction k with
  | zero =>
    intro e c i id lv hlv hb hc hk
    refine conW_less' (by kernel_rfl) (fun σ n R hp hf hR => by_psyntax_walker_walk ?_)
    have hi := hp _ (List.mem_singleton.2 rfl)
    clear hp
    have hin : i < n := Nat.lt_of_not_le (fun h => by rw [hf i h] at hi; cases hi)
    have hl : ¬ lv ≤ 12 := by omega
    have HR := Lib.hid hR; clear hR
    clear hlv
    simp (contextual:=true) (maxSteps:=1000000) (disch:=omega) only [sh_psyntax_walker_walk,encE_eq,go_sem, *]
    refine CALL_con0 (syneed_con _ _) rfl ?_
    simp (contextual:=true) (maxSteps:=1000000) (disch:=omega) only [go_sem, *]
    exact HR.out _ _ _ rfl (fun j x h => keep_new hi hf hin h)
  | succ k ih =>
    intro e c i id lv hlv hb hc hk
    refine conW_less' (by kernel_rfl) (fun σ n R hp hf hR => by_psyntax_walker_walk ?_)
    have hi := hp _ (List.mem_singleton.2 rfl)
    simp only [blk1] at hi
    clear hp
    have hin : i < n := Nat.lt_of_not_le (fun h => by rw [hf i h] at hi; cases hi)
    have hne : n ≠ i := by omega
    have hl : lv ≤ 12 := by omega
    have hl0 : 0 ≤ lv := by omega
    have HR := Lib.hid hR; clear hR
    have HL := Lib.hid hlv; clear hlv
    have HI := Lib.hid ih; clear ih
    simp (contextual:=true) (maxSteps:=1000000) (disch:=omega) only [sh_psyntax_walker_walk,go_sem, *]
    rw [encE_eq]
    refine CALL_con0 (syneed_con _ _) rfl ?_
    simp (contextual:=true) (maxSteps:=1000000) (disch:=omega) only [go_sem, *]
    refine CALL_con0 (syneed_con _ _) rfl ?_
    by_cases h64 : (c : Int) < 64
    · simp (contextual:=true) (maxSteps:=1000000) (disch:=omega) only [go_sem, *]
      refine CALL_con0 (part_con e hb) (by simp only [brwL_cons, brwL_nil, brw_ag, brw_sc, brw_s, brw_tr, encE_eq, List.append_nil, Option.map_some, List.nil_append]) ?_
      simp (contextual:=true) (maxSteps:=1000000) (disch:=omega) only [go_sem, *]
      refine CALL_con0 (syneed_con _ _) rfl ?_
      cases hp : partOk e with
      | false =>
        simp (contextual:=true) (maxSteps:=1000000) (disch:=omega) only [go_sem, *]
        have hw : walkF (k + 1) e c = (9, c) := by simp [walkF, hp, show ¬ 64 ≤ c by omega]
        exact HR.out _ _ _ (by rw [hw]; rfl) (by rw [hw]; exact fun j x h => keep_new hi hf hin h)
      | true =>
        simp (contextual:=true) (maxSteps:=1000000) (disch:=omega) only [go_sem, *]
        intro hlen
        have hw : walkF (k + 1) e c = goOver (walkF k) e.args (c + 1) := by simp [walkF, hp, show ¬ 64 ≤ c by omega]
        rw [hw] at HR
        refine LOOP_listM e.args (fun j s σ' n' => ∃ x y, s = [x, y, .sc (.int .i64 j)] ∧ (goOver (walkF k) (e.args.take j) (c + 1)).1 = 0 ∧ (goOver (walkF k) (e.args.take j) (c + 1)).2 ≤ 64 ∧
          σ' i = some (.c ⟨1, [[.sc (.int .i64 ((goOver (walkF k) (e.args.take j) (c + 1)).2 : Nat))]], true, false⟩) ∧ (∀ q z, q ≠ i → σ q = some z → σ' q = some z)) (.refl ⟨_, _, rfl, rfl, ?_, ?_, ?_⟩) ?_ ?_
        · simp only [List.take_zero, goOver]; omega
        · rw [upd_is rfl]; rfl
        · intro q z hq hz
          rw [upd_not hq, upd_not (fun e => by rw [e, hf n (Nat.le_refl _)] at hz; cases hz)]; exact hz
        · rintro j a K s' σ' n' hx hj hj' hn ⟨x, y, rfl, h0, h64', hci, hkp⟩ hK
          have hne' : n' ≠ i := by omega
          have HK := Lib.hid hK; clear hK
          have HP := Lib.hid hkp; clear hkp
          generalize hg : goOver (walkF k) (e.args.take j) (c + 1) = g at *
          have HG := Lib.hid hg; clear hg
          have FR := Lib.hid hf; clear hf hi
          simp (contextual:=true) (maxSteps:=1000000) (disch:=omega) only [lb_psyntax_walker_walk2,go_sem, *]
          have hnext : goOver (walkF k) (e.args.take (j + 1)) (c + 1) = walkF k a g.2 := by
            rw [List.take_add_one, hx, goOver_append _ _ _ _ (by rw [HG.out]; exact h0), HG.out]
            simp only [Option.toList, goOver]
            split
            · rename_i h; exact Prod.ext h.symm rfl
            · rfl
          have hle := walkF_le k a g.2 h64'
          refine CALL_conW (HI.out a g.2 i _ (lv + 1) (by have := HL.out; omega) (hb.arg hx) h64' (by omega)) ?_ ?_
          · intro p hp'
            simp only [List.mem_singleton] at hp'
            subst hp'
            simp only
            rw [upd_not hne'.symm, upd_not hne'.symm]; exact hci
          · intro n2 hn2
            have keep : ∀ (v : Option Ob) (b1 b2 : Option Ob) (q : Nat) (z : Ob), q ≠ i → σ q = some z → upd (upd (upd σ' n' b1) n' b2) i v q = some z := by
              intro v b1 b2 q z hq hz
              have hqn : q ≠ n' := fun e => by
                have := FR.out q (by omega)
                rw [this] at hz; cases hz
              rw [upd_not hq, upd_not hqn, upd_not hqn]; exact HP.out q z hq hz
            generalize hw2 : walkF k a g.2 = r at *
            by_cases h1 : r.1 = 0
            · simp (contextual:=true) (maxSteps:=1000000) (disch:=omega) only [endW,go_sem, *]
              refine HK.out _ _ _ (.refl ⟨_, _, rfl, ?_, ?_, ?_, fun q z hq hz => keep _ _ _ q z hq hz⟩)
              · rw [hnext]; exact h1
              · rw [hnext]; exact hle
              · rw [hnext, upd_is rfl]
            · simp (contextual:=true) (maxSteps:=1000000) (disch:=omega) only [endW,go_sem, *]
              have hall : goOver (walkF k) e.args (c + 1) = r := by
                have := goOver_stop (walkF k) (e.args.take (j + 1)) (e.args.drop (j + 1)) (c + 1) (by rw [hnext]; exact h1)
                rw [List.take_append_drop, hnext] at this; exact this
              rw [hall] at HR
              refine HR.out _ _ _ (by rw [endW, if_neg h1]) (fun q z h => ?_)
              simp only [applyW] at h
              by_cases e1 : q = i
              · subst e1; rw [upd_is rfl] at h ⊢; exact h
              · rw [upd_not e1] at h; exact keep _ _ _ q z e1 h
        · rintro K s' σ' n' hn ⟨x, y, rfl, h0, _, hci, hkp⟩
          rw [List.take_length] at h0 hci
          simp (contextual:=true) (maxSteps:=1000000) (disch:=omega) only [lb_psyntax_walker_walk2,go_sem, *]
          refine HR.out _ _ _ (by rw [endW, if_pos h0]) (fun q z h => ?_)
          simp only [applyW] at h
          by_cases e1 : q = i
          · subst e1; rw [upd_is rfl] at h; rw [hci]; exact h
          · rw [upd_not e1] at h; exact hkp q z e1 h
    · simp (contextual:=true) (maxSteps:=1000000) (disch:=omega) only [go_sem, *]
      have hw : walkF (k + 1) e c = (3, c) := by simp [walkF, show 64 ≤ c by omega]
      exact HR.out _ _ _ (by rw [hw]; rfl) (by rw [hw]; exact fun j x h => keep_new hi hf hin h)
end Go.Proofs.YtodoejfkjimeaaaGreatDoor

set_option linter.unusedSimpArgs false
set_option linter.unusedVariables false
set_option maxRecDepth 100000
namespace Go.Proofs.YtodoejfkjimeaaaGreatDoor
open Go Go.RowKit Am
/-! what the program prints -/
def decF : Nat → Int → Tx
  | 0, _ => []
  | k + 1, n => if n < 0 ∧ n.tdiv 10 = 0 then 45 :: decF k (-n) else (if n.tdiv 10 ≠ 0 then decF k (n.tdiv 10) else []) ++ [UInt8.ofNat (48 + (n.tmod 10).natAbs)]
def litF (kind n : Int) (text : Tx) : Tx :=
  if kind = 0 then [78, 85, 76, 76] else if kind = 1 then decF 40 n else if kind = 2 then (if n = 1 then [84, 82, 85, 69] else [70, 65, 76, 83, 69]) else [39] ++ Lib.replaceAll text [39] [39, 39] ++ [39]
def signF (k : Nat) : Tx := ([[43], [45], [42], [47], [61], [60, 62], [60], [60, 61], [62], [62, 61], [65, 78, 68], [79, 82]] : List Tx).getD k []
def fnF (k : Nat) : Tx := ([[67, 79, 85, 78, 84], [83, 85, 77], [77, 73, 78], [77, 65, 88]] : List Tx).getD k []
def putF (op kind n : Int) (text table name : Tx) (l : List Tx) : Tx :=
  if op = 0 then litF kind n text
  else if op = 1 then Lib.trimPrefix (table ++ [46] ++ name) [46]
  else if op = 2 then [40, 45] ++ l.getD 0 [] ++ [41]
  else if op = 3 then [40, 78, 79, 84, 32] ++ l.getD 0 [] ++ [41]
  else if op = 16 then [40] ++ l.getD 0 [] ++ [32, 73, 83, 32, 78, 85, 76, 76, 41]
  else if op = 17 then [40] ++ l.getD 0 [] ++ [32, 73, 83, 32, 78, 79, 84, 32, 78, 85, 76, 76, 41]
  else if op = 18 then [67, 79, 85, 78, 84, 40, 42, 41]
  else if 19 ≤ op ∧ op ≤ 22 then fnF (op - 19).toNat ++ [40] ++ l.getD 0 [] ++ [41]
  else [40] ++ l.getD 0 [] ++ [32] ++ signF (op - 4).toNat ++ [32] ++ l.getD 1 [] ++ [41]
mutual
def printF : Ep → Tx
  | .mk op kind n text table name args => putF op kind n text table name (printFs args)
def printFs : List Ep → List Tx
  | [] => []
  | e :: l => printF e :: printFs l
end
theorem printFs_map : ∀ (l : List Ep), printFs l = l.map printF
  | [] => rfl
  | e :: l => by rw [printFs, printFs_map l]; rfl
theorem printF_eq (e : Ep) : printF e = putF e.op e.kind e.n e.text e.table e.name (e.args.map printF) := by
  cases e with
  | mk op kind n text table name args => rw [printF, printFs_map]; rfl
theorem args_two {op : Int} {n : Nat} (h : argsN op = ((n : Int), true)) : n ≤ 2 := by
  unfold argsN at h
  split at h
  · simp only [Prod.mk.injEq] at h; omega
  · split at h
    · simp only [Prod.mk.injEq] at h; omega
    · simp only [Prod.mk.injEq] at h; omega
theorem decF_len : ∀ (k : Nat) (n : Int), (decF k n).length ≤ k
  | 0, n => by simp [decF]
  | k + 1, n => by
    rw [decF]
    split
    · have := decF_len k (-n); simp; omega
    · split
      · have := decF_len k (n.tdiv 10); simp; omega
      · simp
def OKk : Nat → Ep → Prop
  | 0, _ => False
  | k + 1, e => partOk e = true ∧ ∀ a ∈ e.args, OKk k a
theorem walk_ok : ∀ (k : Nat) (e : Ep) (c : Nat), (walkF k e c).1 = 0 → OKk k e
  | 0, e, c, h => by simp [walkF] at h
  | k + 1, e, c, h => by
    simp only [walkF] at h
    split at h
    · simp at h
    · split at h
      · simp at h
      · rename_i h1 h2
        refine ⟨by simpa using h2, ?_⟩
        have : ∀ (l : List Ep) (c : Nat), (goOver (walkF k) l c).1 = 0 → ∀ a ∈ l, OKk k a := by
          intro l
          induction l with
          | nil => intro c _ a ha; cases ha
          | cons b l ih =>
            intro c hc a ha
            simp only [goOver] at hc
            split at hc
            · rename_i h0
              rcases List.mem_cons.1 ha with rfl | ha
              · exact walk_ok k a c h0
              · exact ih _ hc a ha
            · rename_i h0; exact absurd hc h0
        exact this _ _ h
theorem replaceK_len : ∀ (k : Nat) (s : List UInt8), (Lib.replaceK [39] [39, 39] k s).length ≤ s.length + 2 * k
  | 0, s => by simp [Lib.replaceK]
  | k + 1, s => by
    rw [Lib.replaceK]
    split
    · omega
    · have := replaceK_len k (s.drop ((Lib.index s [39]).toNat + [39].length))
      simp only [List.length_append, List.length_cons, List.length_nil, List.length_drop, List.length_take] at this ⊢
      omega
theorem replace_len {s : List UInt8} (h : Lib.count s [39] ≤ s.length) : (Lib.replaceAll s [39] [39, 39]).length ≤ 3 * s.length := by
  unfold Lib.replaceAll Lib.replace
  split
  · omega
  · have := replaceK_len (Lib.replaceNum s [39] (-1)) s
    have h2 : Lib.replaceNum s [39] (-1) = Lib.count s [39] := by simp [Lib.replaceNum]
    rw [h2] at this ⊢
    omega
theorem trim_len (s p : List UInt8) : (Lib.trimPrefix s p).length ≤ s.length := by
  unfold Lib.trimPrefix
  split <;> simp
theorem lit_len {kind n : Int} {text : Tx} (h : text.length ≤ 1048576) (hc : Lib.count text [39] ≤ text.length) : (litF kind n text).length ≤ 3900000 := by
  unfold litF
  split
  · simp
  · split
    · have := decF_len 40 n; omega
    · split
      · split <;> simp
      · have := replace_len hc
        simp only [List.length_append, List.length_cons, List.length_nil]
        omega
theorem getD_small {l : List Tx} {M : Nat} (h : ∀ t ∈ l, t.length ≤ M) (i : Nat) : (l.getD i []).length ≤ M := by
  rw [List.getD_eq_getElem?_getD]
  cases hx : l[i]? with
  | none => simp
  | some t => exact h t (List.mem_of_getElem? hx)
theorem put_len {op kind n : Int} {text table name : Tx} {l : List Tx} {M : Nat} (h : ∀ t ∈ l, t.length ≤ M) (h1 : text.length ≤ 1048576) (h2 : table.length ≤ 1048576) (h3 : name.length ≤ 1048576) (hc : Lib.count text [39] ≤ text.length) :
    (putF op kind n text table name l).length ≤ 3900000 ∨ (putF op kind n text table name l).length ≤ 2 * M + 100 := by
  have g0 := getD_small h 0
  have g1 := getD_small h 1
  have hs : (signF (op - 4).toNat).length ≤ 10 := getD_small (by decide) _
  have hf : (fnF (op - 19).toNat).length ≤ 10 := getD_small (by decide) _
  unfold putF
  split
  · exact .inl (lit_len h1 hc)
  · split
    · have := trim_len (table ++ [46] ++ name) [46]
      simp only [List.length_append, List.length_cons, List.length_nil] at this
      exact .inl (by omega)
    · right
      repeat' split
      all_goals simp only [List.length_append, List.length_cons, List.length_nil]
      all_goals omega
theorem count_le (l : List UInt8) : Lib.count l [39] ≤ l.length := by
  have h := Lib.countB_mul_le ⟨#[39]⟩ (by decide) l.length ⟨l.toArray⟩ (by simp [ByteArray.size])
  have e : Lib.countB ⟨l.toArray⟩ ⟨#[39]⟩ = Lib.count l [39] := by
    show Lib.count (l.toArray.toList) [39] = _
    simp
  rw [e] at h
  have e2 : (⟨#[39]⟩ : ByteArray).size = 1 := rfl
  have e3 : (⟨l.toArray⟩ : ByteArray).size = l.length := by simp [ByteArray.size]
  rw [e2, e3] at h
  omega
theorem print_len : ∀ (k : Nat) (e : Ep), OKk k e → Bd e → (printF e).length + 100 ≤ 4000000 * 2 ^ k
  | 0, e, h, _ => h.elim
  | k + 1, e, ⟨_, ha⟩, hb => by
    rw [printF_eq]
    have h1 : 1 ≤ 2 ^ k := Nat.one_le_two_pow
    have hM : ∀ t ∈ e.args.map printF, t.length ≤ 4000000 * 2 ^ k - 100 := by
      intro t ht
      obtain ⟨a, ha', rfl⟩ := List.mem_map.1 ht
      have := print_len k a (ha a ha') (by
        obtain ⟨i, hi⟩ := List.mem_iff_getElem?.1 ha'
        exact hb.arg hi)
      omega
    have hbt : e.text.length ≤ 1048576 ∧ e.table.length ≤ 1048576 ∧ e.name.length ≤ 1048576 := by
      cases hb with
      | mk op kind n text table name args h1 h2 h3 h4 h => exact ⟨h1, h2, h3⟩
    have := put_len (op := e.op) (kind := e.kind) (n := e.n) hM hbt.1 hbt.2.1 hbt.2.2 (count_le e.text)
    rw [Nat.pow_succ]
    omega
end Go.Proofs.YtodoejfkjimeaaaGreatDoor

set_option linter.unusedSimpArgs false
set_option linter.unusedVariables false
namespace Go.Proofs.YtodoejfkjimeaaaGreatDoor
open Go.RowKit Go.Shelf
def sl155_ren : Go.Shelf.Ren := ⟨fun | 138 => 101 | 143 => 85 | 154 => 95 | 155 => 87 | 165 => 102 | 166 => 72 | 169 => 17 | 195 => 106 | 197 => 103 | 217 => 97 | 218 => 107 | 219 => 93 | 224 => 99 | 225 => 98 | 240 => 86 | 241 => 108 | 260 => 109 | 266 => 104 | 267 => 100 | 276 => 94 | 277 => 110 | 314 => 105 | n => n, fun | 0 => 0 | 3 => 3 | 4 => 4 | 5 => 5 | 9 => 9 | 20 => 20 | 21 => 21 | 37 => 51 | 46 => 140 | 51 => 145 | 70 => 50 | 72 => 53 | 75 => 114 | 76 => 115 | 80 => 57 | 105 => 143 | 119 => 150 | 127 => 86 | 138 => 152 | 139 => 153 | 146 => 146 | 164 => 137 | n => n, fun | 1 => 0 | 3 => 1 | 4 => 2 | n => n⟩
theorem sl155 : Go.Proofs.Lays.n155 Tryz.prog sl155_ren := {
  mixed := by kernel_rfl
  f138 := Tryz.func101.trans (congrArg some (by kernel_rfl))
  f143 := Tryz.func85.trans (congrArg some (by kernel_rfl))
  f154 := Tryz.func95.trans (congrArg some (by kernel_rfl))
  f155 := Tryz.func87.trans (congrArg some (by kernel_rfl))
  f165 := Tryz.func102.trans (congrArg some (by kernel_rfl))
  f166 := Tryz.func72.trans (congrArg some (by kernel_rfl))
  f169 := Tryz.func17.trans (congrArg some (by kernel_rfl))
  f195 := Tryz.func106.trans (congrArg some (by kernel_rfl))
  f197 := Tryz.func103.trans (congrArg some (by kernel_rfl))
  f217 := Tryz.func97.trans (congrArg some (by kernel_rfl))
  f218 := Tryz.func107.trans (congrArg some (by kernel_rfl))
  f219 := Tryz.func93.trans (congrArg some (by kernel_rfl))
  f224 := Tryz.func99.trans (congrArg some (by kernel_rfl))
  f225 := Tryz.func98.trans (congrArg some (by kernel_rfl))
  f240 := Tryz.func86.trans (congrArg some (by kernel_rfl))
  f241 := Tryz.func108.trans (congrArg some (by kernel_rfl))
  f260 := Tryz.func109.trans (congrArg some (by kernel_rfl))
  f266 := Tryz.func104.trans (congrArg some (by kernel_rfl))
  f267 := Tryz.func100.trans (congrArg some (by kernel_rfl))
  f276 := Tryz.func94.trans (congrArg some (by kernel_rfl))
  f277 := Tryz.func110.trans (congrArg some (by kernel_rfl))
  f314 := Tryz.func105.trans (congrArg some (by kernel_rfl))
  t0 := Tryz.underlying0
  a0 := Tryz.isAgg0
  z0 := Tryz.sizeOf0
  v0 := Tryz.zeroValue0
  t3 := Tryz.underlying3
  a3 := Tryz.isAgg3
  z3 := Tryz.sizeOf3
  v3 := Tryz.zeroValue3
  t4 := Tryz.underlying4
  a4 := Tryz.isAgg4
  z4 := Tryz.sizeOf4
  v4 := Tryz.zeroValue4
  t5 := Tryz.underlying5
  a5 := Tryz.isAgg5
  z5 := Tryz.sizeOf5
  v5 := Tryz.zeroValue5
  t9 := Tryz.underlying9
  a9 := Tryz.isAgg9
  z9 := Tryz.sizeOf9
  v9 := Tryz.zeroValue9
  t20 := Tryz.underlying20
  a20 := Tryz.isAgg20
  z20 := Tryz.sizeOf20
  v20 := Tryz.zeroValue20
  t21 := Tryz.underlying21
  a21 := Tryz.isAgg21
  z21 := Tryz.sizeOf21
  v21 := Tryz.zeroValue21
  t37 := Tryz.underlying51
  a37 := Tryz.isAgg51
  z37 := Tryz.sizeOf51
  v37 := Tryz.zeroValue51
  t46 := Tryz.underlying140
  a46 := Tryz.isAgg140
  z46 := Tryz.sizeOf140
  v46 := Tryz.zeroValue140
  t51 := Tryz.underlying145
  a51 := Tryz.isAgg145
  z51 := Tryz.sizeOf145
  v51 := Tryz.zeroValue145
  t70 := Tryz.underlying50
  a70 := Tryz.isAgg50
  z70 := Tryz.sizeOf50
  v70 := Tryz.zeroValue50
  t72 := Tryz.underlying53
  a72 := Tryz.isAgg53
  z72 := Tryz.sizeOf53
  v72 := Tryz.zeroValue53
  t75 := Tryz.underlying114
  a75 := Tryz.isAgg114
  z75 := Tryz.sizeOf114
  v75 := Tryz.zeroValue114
  t76 := Tryz.underlying115
  a76 := Tryz.isAgg115
  z76 := Tryz.sizeOf115
  v76 := Tryz.zeroValue115
  t105 := Tryz.underlying143
  a105 := Tryz.isAgg143
  z105 := Tryz.sizeOf143
  v105 := Tryz.zeroValue143
  t119 := Tryz.underlying150
  a119 := Tryz.isAgg150
  z119 := Tryz.sizeOf150
  t127 := Tryz.underlying86
  a127 := Tryz.isAgg86
  z127 := Tryz.sizeOf86
  v127 := Tryz.zeroValue86
  t138 := Tryz.underlying152
  a138 := Tryz.isAgg152
  z138 := Tryz.sizeOf152
  v138 := Tryz.zeroValue152
  t139 := Tryz.underlying153
  a139 := Tryz.isAgg153
  z139 := Tryz.sizeOf153
  v139 := Tryz.zeroValue153
  t146 := Tryz.underlying146
  a146 := Tryz.isAgg146
  z146 := Tryz.sizeOf146
  v146 := Tryz.zeroValue146
  t164 := Tryz.underlying137
  a164 := Tryz.isAgg137
  z164 := Tryz.sizeOf137
  v164 := Tryz.zeroValue137
  g1 := by kernel_rfl
  g3 := by kernel_rfl
  g4 := by kernel_rfl }
theorem sl155_x : Builder.Extra Tryz.prog sl155_ren where
  sizeBuilder := by kernel_rfl
  liesBuilder := by kernel_rfl
  t5 := Tryz.underlying5
  a5 := Tryz.isAgg5
  z5 := Tryz.sizeOf5
  v5 := Tryz.zeroValue5
  infoByte := by kernel_rfl
  cellsByte := by kernel_rfl
  sizeByte := by kernel_rfl
  neB5 := by decide
theorem sl_strings_ReplaceAll (s old new : ByteArray) (m : Int) (w : World) (hs : s.size < 4294967281) (hm : w.cell? ⟨0, 0, none⟩ = some (.int .i64 m)) (h1 : 1 ≤ old.size) (hlen : s.size + Lib.countB s old * new.size ≤ 140737488355328) :
    Calls Tryz.prog 87 #[.string s, .string old, .string new] w fun e w' =>
      e = .returned (.string ⟨(Lib.replaceAll s.data.toList old.data.toList new.data.toList).toArray⟩) ∧ Below w.heap.size w w' :=
  Any.strings_ReplaceAll sl155 sl155_x s old new m w hs hm h1 hlen
def sl101_ren : Go.Shelf.Ren := ⟨fun | 101 => 74 | 206 => 96 | 208 => 88 | n => n, fun | 3 => 3 | 4 => 4 | 9 => 9 | n => n, fun  | n => n⟩
theorem sl101 : Go.Proofs.Lays.n101 Tryz.prog sl101_ren := {
  mixed := by kernel_rfl
  f101 := Tryz.func74.trans (congrArg some (by kernel_rfl))
  f206 := Tryz.func96.trans (congrArg some (by kernel_rfl))
  f208 := Tryz.func88.trans (congrArg some (by kernel_rfl))
  t3 := Tryz.underlying3
  a3 := Tryz.isAgg3
  z3 := Tryz.sizeOf3
  v3 := Tryz.zeroValue3
  t4 := Tryz.underlying4
  a4 := Tryz.isAgg4
  z4 := Tryz.sizeOf4
  v4 := Tryz.zeroValue4
  t9 := Tryz.underlying9
  a9 := Tryz.isAgg9
  z9 := Tryz.sizeOf9
  v9 := Tryz.zeroValue9 }
theorem sl_strings_TrimPrefix (s p : ByteArray) (w : World) :
    Calls Tryz.prog 74 #[.string s, .string p] w fun e w' => e = .returned (.string ⟨(Lib.trimPrefix s.data.toList p.data.toList).toArray⟩) ∧ w' = w :=
  Any.strings_TrimPrefix sl101 s p w
end Go.Proofs.YtodoejfkjimeaaaGreatDoor
