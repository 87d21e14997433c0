/- (check.scope).expr. -/
import Derived.Test.YtlhnncmflnjinaaDa
set_option linter.unusedSimpArgs false
set_option linter.unusedVariables false
set_option maxRecDepth 100000
namespace Go.Proofs.Ytlhnncmflnjinaa
open Go Go.RowKit Am

theorem encE_brw (σ : Hp) (d : Nat) (e : Ep) : brwL σ d (encE e) = some (encE e, []) := by
  simp only [brwL_cons, brwL_nil, brw_ag, brw_sc, brw_tr, encE_eq, brw_s, List.append_nil, Option.map_some, List.nil_append]
theorem encI_eq (n : Int) : [.sc (.int .i64 n)] = encI n := rfl
attribute [go_sem] encE_brw
def kindE (op : Int) (l : List Int) : Except Int Int :=
  if op = 2 ∨ (4 ≤ op ∧ op ≤ 7) ∨ op = 20 then (if l.all (fitOk 1) = true then .ok 1 else .error 81)
  else if op = 3 ∨ op = 14 ∨ op = 15 then (if l.all (fitOk 2) = true then .ok 2 else .error 81)
  else if 8 ≤ op ∧ op ≤ 13 then (if fitOk (l.getD 0 0) (l.getD 1 0) = true then .ok 2 else .error 81)
  else if op = 18 ∨ op = 19 then .ok 1
  else if 20 < op then .ok (l.getD 0 0)
  else .ok 2
def intEnd : Except Int Int → AEnd
  | .ok k => .ret (.sc (.int .i64 k))
  | .error x => errPan x
theorem kindF_E (op : Int) (l : List Int) : kindF op l = intEnd (kindE op l) := by
  unfold kindF kindE
  repeat' split
  all_goals rfl
def placeE (table name : Tx) (ts : List Tb) : Except Int (Int × Int) :=
  if (plAll table name ts).known = false then .error 93 else if (plAll table name ts).found = 1 then .ok ((plAll table name ts).at_, (plAll table name ts).kind) else .error 94
def pairEnd : Except Int (Int × Int) → AEnd
  | .ok p => .ret (.tp [.sc (.int .i64 p.1), .sc (.int .i64 p.2)])
  | .error x => errPan x
theorem placeF_E (table name : Tx) (ts : List Tb) : placeF table name ts = pairEnd (placeE table name ts) := by
  unfold placeF placeE
  repeat' split
  all_goals rfl
mutual
def exprF (ts : List Tb) : Ep → Bool → Except Int (Ep × Int)
  | .mk op kind n text table name args, agg =>
    if op = 0 then .ok (.mk op kind n text table name args, kind)
    else if op = 1 then (match placeE table name ts with
      | .ok p => .ok (.mk 1 1 p.1 [] [] [] [], p.2)
      | .error x => .error x)
    else match exprL ts args (agg && decide (op < 18)) with
      | .error x => .error x
      | .ok l => match kindE op (l.map (·.2)) with
        | .error x => .error x
        | .ok k => if (agg || decide (op < 18)) = true then .ok (.mk op 0 0 [] [] [] (l.map (·.1)), k) else .error 1
def exprL (ts : List Tb) : List Ep → Bool → Except Int (List (Ep × Int))
  | [], _ => .ok []
  | a :: l, agg => match exprF ts a agg with
    | .error x => .error x
    | .ok p => match exprL ts l agg with
      | .error x => .error x
      | .ok q => .ok (p :: q)
end
theorem exprF_eq (ts : List Tb) (e : Ep) (agg : Bool) : exprF ts e agg =
    if e.op = 0 then .ok (e, e.kind)
    else if e.op = 1 then (match placeE e.table e.name ts with
      | .ok p => .ok (.mk 1 1 p.1 [] [] [] [], p.2)
      | .error x => .error x)
    else match exprL ts e.args (agg && decide (e.op < 18)) with
      | .error x => .error x
      | .ok l => match kindE e.op (l.map (·.2)) with
        | .error x => .error x
        | .ok k => if (agg || decide (e.op < 18)) = true then .ok (.mk e.op 0 0 [] [] [] (l.map (·.1)), k) else .error 1 := by
  cases e; rw [exprF]; rfl
theorem exprL_append (ts : List Tb) (agg : Bool) : ∀ (l m : List Ep), exprL ts (l ++ m) agg = match exprL ts l agg with
    | .error x => .error x
    | .ok p => match exprL ts m agg with
      | .error x => .error x
      | .ok q => .ok (p ++ q)
  | [], m => by
    simp only [List.nil_append, exprL]
    split <;> simp_all
  | a :: l, m => by
    simp only [List.cons_append, exprL, exprL_append ts agg l m]
    cases exprF ts a agg with
    | error x => rfl
    | ok p =>
      simp only
      cases exprL ts l agg with
      | error x => rfl
      | ok q =>
        simp only
        cases exprL ts m agg with
        | error x => rfl
        | ok r => rfl
theorem exprL_take {ts : List Tb} {agg : Bool} {l : List Ep} {i : Nat} {a : Ep} (hx : l[i]? = some a) {ps : List (Ep × Int)} (h : exprL ts (l.take i) agg = .ok ps) : exprL ts (l.take (i + 1)) agg = match exprF ts a agg with
    | .error x => .error x
    | .ok p => .ok (ps ++ [p]) := by
  rw [List.take_add_one, hx, exprL_append, h]
  simp only [Option.toList, exprL]
  cases exprF ts a agg <;> rfl
theorem exprL_err {ts : List Tb} {agg : Bool} {l : List Ep} {i : Nat} {x : Int} (h : exprL ts (l.take i) agg = .error x) : exprL ts l agg = .error x := by
  have := exprL_append ts agg (l.take i) (l.drop i)
  rw [List.take_append_drop, h] at this; exact this
theorem exprL_len {ts : List Tb} {agg : Bool} : ∀ {l : List Ep} {ps : List (Ep × Int)}, exprL ts l agg = .ok ps → ps.length = l.length
  | [], ps, h => by simp only [exprL] at h; cases h; rfl
  | a :: l, ps, h => by
    simp only [exprL] at h
    split at h
    · cases h
    · split at h
      · cases h
      · rename_i q hq
        cases h
        simp [exprL_len hq]
/-- an expression that may be -/
inductive Gd : Ep → Prop
  | mk (e : Ep) (h : partOk e = true) (ha : ∀ a ∈ e.args, Gd a) : Gd e
theorem partOk_args {e : Ep} (h : partOk e = true) : (argsN e.op).2 = true ∧ (argsN e.op).1 = (e.args.length : Int) := by
  unfold partOk at h
  rw [Bool.and_eq_true, Bool.and_eq_true] at h
  exact ⟨h.1.1, of_decide_eq_true h.1.2⟩
theorem partOk_op {e : Ep} (h : partOk e = true) : 0 ≤ e.op ∧ e.op ≤ 22 ∧ e.args.length ≤ 2 ∧ (8 ≤ e.op → e.op ≤ 13 → e.args.length = 2) ∧ (20 < e.op → e.args.length = 1) := by
  obtain ⟨h1, h2⟩ := partOk_args h
  unfold argsN at h1 h2
  split at h1
  · rename_i h3; rw [if_pos h3] at h2; simp only at h2; omega
  · rename_i h3
    rw [if_neg h3] at h2
    split at h1
    · rename_i h4; rw [if_pos h4] at h2; simp only at h2; omega
    · rename_i h4; rw [if_neg h4] at h2; simp only [Bool.and_eq_true, decide_eq_true_eq] at h1 h2; omega
def exprEnd : Except Int (Ep × Int) → AEnd
  | .ok p => .ret (.tp [.ag (encE p.1), .sc (.int .i64 p.2)])
  | .error x => errPan x
set_option maxHeartbeats 4000000 in
theorem expr_con (ts : List Tb) (hts : ts.length ≤ 2) (hc : ∀ t ∈ ts, t.columns.length ≤ 1048576) (e : Ep) (he : Gd e) : ∀ (agg : Bool), Con Try.prog 52 [.tr (ts.map encT), .ag (encE e), .sc (.bool agg)] (exprEnd (exprF ts e agg)) := by
  induction he with
  | mk e hp ha ih =>
    intro agg
    refine con_of (by_check_scope_expr ?_)
    generalize hR : RC _ = R
    have HR := Lib.hid hR; clear hR
    have HC := Lib.hid hc; clear hc
    have IH := Lib.hid ih; clear ih ha
    obtain ⟨hop0, hop, hlen2, h8, h21⟩ := partOk_op hp
    clear hp
    have HF := Lib.hid (exprF_eq ts e agg)
    by_cases h0 : e.op = 0
    · simp (maxSteps := 1000000) (disch := omega) only [sh_check_scope_expr, encE_eq, go_sem, wrapI, wrapB, upd_is, upd_not, Nat.reduceAdd, Nat.reduceSub, Nat.reduceMul, Nat.reduceLeDiff, Nat.reduceEqDiff, Int.reduceAdd, Int.reduceSub, Int.reduceMul, Int.reduceNeg, Int.reduceLT, Int.reduceLE, Int.reduceEq, Int.reduceToNat, reduceCtorEq, reduceIte, Nat.zero_add, Nat.add_zero, *]
      refine And.intro (by omega) (fun n_ hn_ => ?_)
      rw [← HR.out, HF.out, if_pos h0]
      exact RC_ret rfl (by simp only [exprEnd, encE_eq, h0])
    · by_cases h1 : e.op = 1
      · have hpl := place_con ts e hts HC.out
        rw [placeF_E] at hpl
        simp (maxSteps := 1000000) (disch := omega) only [sh_check_scope_expr, encE_eq, go_sem, wrapI, wrapB, upd_is, upd_not, Nat.reduceAdd, Nat.reduceSub, Nat.reduceMul, Nat.reduceLeDiff, Nat.reduceEqDiff, Int.reduceAdd, Int.reduceSub, Int.reduceMul, Int.reduceNeg, Int.reduceLT, Int.reduceLE, Int.reduceEq, Int.reduceToNat, reduceCtorEq, reduceIte, Nat.zero_add, Nat.add_zero, *]
        refine CALL_con0 hpl (by simp only [encE_eq, h1]; rfl) ?_
        have HF2 := Lib.hid ((if_neg h0 ▸ if_pos h1 ▸ HF.out : exprF ts e agg = _))
        clear HF hpl
        cases hq : placeE e.table e.name ts with
        | error x =>
          rw [hq] at HF2
          simp only [pairEnd]
          simp (maxSteps := 1000000) (disch := omega) only [go_sem, wrapI, wrapB, upd_is, upd_not, Nat.reduceAdd, Nat.reduceSub, Nat.reduceMul, Nat.reduceLeDiff, Nat.reduceEqDiff, Int.reduceAdd, Int.reduceSub, Int.reduceMul, Int.reduceNeg, Int.reduceLT, Int.reduceLE, Int.reduceEq, Int.reduceToNat, reduceCtorEq, reduceIte, Nat.zero_add, Nat.add_zero, *]
          rw [← HR.out, HF2.out]; exact RC_pan rfl
        | ok p =>
          rw [hq] at HF2
          simp only [pairEnd]
          simp (maxSteps := 1000000) (disch := omega) only [go_sem, wrapI, wrapB, upd_is, upd_not, Nat.reduceAdd, Nat.reduceSub, Nat.reduceMul, Nat.reduceLeDiff, Nat.reduceEqDiff, Int.reduceAdd, Int.reduceSub, Int.reduceMul, Int.reduceNeg, Int.reduceLT, Int.reduceLE, Int.reduceEq, Int.reduceToNat, reduceCtorEq, reduceIte, Nat.zero_add, Nat.add_zero, *]
          rw [← HR.out, HF2.out]
          exact RC_ret rfl (by simp only [exprEnd, encE_eq, h1]; rfl)
      · simp (maxSteps := 1000000) (disch := omega) only [sh_check_scope_expr, encE_eq, go_sem, wrapI, wrapB, upd_is, upd_not, Nat.reduceAdd, Nat.reduceSub, Nat.reduceMul, Nat.reduceLeDiff, Nat.reduceEqDiff, Int.reduceAdd, Int.reduceSub, Int.reduceMul, Int.reduceNeg, Int.reduceLT, Int.reduceLE, Int.reduceEq, Int.reduceToNat, reduceCtorEq, reduceIte, Nat.zero_add, Nat.add_zero, *]
        intro hlen
        have HF2 := Lib.hid ((if_neg h0 ▸ if_neg h1 ▸ HF.out : exprF ts e agg = _))
        clear HF
        refine LOOP_listM e.args (fun i s σ' n' => (∃ a b c d kv av, s = [a, b, c, d, kv, .sc (.int .i64 i)] ∧ σ' 0 = some (.c ⟨7, [encE e], true, false⟩) ∧ σ' 16 = some (.c ⟨7, [[.sc (.int .i64 0), .sc (.int .i64 0), .sc (.int .i64 0), .s [], .s [], .s [], .em]], true, false⟩) ∧
            σ' 32 = some (.c ⟨7, [[.sc (.int .i64 e.op), .sc (.int .i64 0), .sc (.int .i64 0), .s [], .s [], .s [], av]], true, false⟩) ∧
            ∃ ps, exprL ts (e.args.take i) (agg && decide (e.op < 18)) = .ok ps ∧ ps.length = i ∧
              ((i = 0 ∧ kv = .em ∧ av = .em) ∨ ∃ i1 i2, i1 < n' ∧ i2 < n' ∧ 32 < i1 ∧ 32 < i2 ∧ i1 ≠ i2 ∧ kv = .ow i1 1 0 i ∧ av = .ow i2 7 0 i ∧ σ' i1 = some (.c ⟨1, ps.map (fun p => encI p.2), true, true⟩) ∧ σ' i2 = some (.c ⟨7, ps.map (fun p => encE p.1), true, true⟩)))) (.refl ⟨_, _, _, _, _, _, rfl, ?_, ?_, ?_, [], rfl, rfl, Or.inl ⟨rfl, rfl, rfl⟩⟩) ?_ ?_
        · rw [encE_eq]; rfl
        · rfl
        · rfl
        · rintro i x K s' σ' n2 hx hi hi' hn ⟨a, b, c, d, kv, av, rfl, hb0, hb1, hb2, ps, hps, hpl, hor⟩ hK
          have HT := Lib.hid (exprL_take hx hps)
          have HI := Lib.hid (IH.out x (List.mem_of_getElem? hx) (agg && decide (e.op < 18)))
          have HX := Lib.hid (List.mem_of_getElem? hx)
          have HK := Lib.hid hK; clear hK
          have HPS := Lib.hid hps; clear hps IH
          have hb0' := hb0
          rw [encE_eq] at hb0
          have HB0 := Lib.hid hb0'; clear hb0'
          have h32 : 48 ≤ n2 := by omega
          have HU : ∀ x : Int, exprL ts (e.args.take (i + 1)) (agg && decide (e.op < 18)) = .error x → exprF ts e agg = .error x := by
            intro x hx
            rw [HF2.out, exprL_err hx]
          have HU' := Lib.hid HU; clear HU
          have go : CALL Try.prog (.fn 52 []) [.tr (ts.map encT), .ag (encE x), .sc (.bool (agg && decide (e.op < 18)))] (upd (upd σ' n2 (some (.c ⟨7, [[.sc (.int .i64 0), .sc (.int .i64 0), .sc (.int .i64 0), .s [], .s [], .s [], .em]], true, false⟩))) n2 (some (.c ⟨7, [encE x], true, false⟩))) (n2 + 16 + 16)
              (kc_check_scope_expr2 (.rf 32 7 0 0) [a, b, c, d, kv, .sc (.int .i64 i)] K (.sc (.bool true)) (.rf n2 7 0 0) R) := by
            refine CALL_con0 HI.out (by simp only [brwL_cons, brwL_nil, brw_ag, brw_sc, brw_tr, encE_eq, brw_s, List.append_nil, Option.map_some, List.nil_append]) ?_
            cases hq : exprF ts x (agg && decide (e.op < 18)) with
            | error y =>
              have := HU'.out y (by rw [HT.out, hq])
              simp only [exprEnd]
              simp (maxSteps := 1000000) (disch := omega) only [go_sem, wrapI, wrapB, upd_is, upd_not, Nat.reduceAdd, Nat.reduceSub, Nat.reduceMul, Nat.reduceLeDiff, Nat.reduceEqDiff, Int.reduceAdd, Int.reduceSub, Int.reduceMul, Int.reduceNeg, Int.reduceLT, Int.reduceLE, Int.reduceEq, Int.reduceToNat, reduceCtorEq, reduceIte, Nat.zero_add, Nat.add_zero, *]
              rw [← HR.out, this]; exact RC_pan rfl
            | ok p =>
              simp only [exprEnd]
              rcases hor with ⟨rfl, rfl, rfl⟩ | ⟨i1, i2, hl1, hl2, hg1, hg2, hne, rfl, rfl, hs1, hs2⟩
              · simp (maxSteps := 1000000) (disch := omega) only [go_sem, wrapI, wrapB, upd_is, upd_not, Nat.reduceAdd, Nat.reduceSub, Nat.reduceMul, Nat.reduceLeDiff, Nat.reduceEqDiff, Int.reduceAdd, Int.reduceSub, Int.reduceMul, Int.reduceNeg, Int.reduceLT, Int.reduceLE, Int.reduceEq, Int.reduceToNat, reduceCtorEq, reduceIte, Nat.zero_add, Nat.add_zero, *]
                refine HK.out _ _ _ (.refl ⟨_, _, _, _, _, .ow (n2 + 16 + 16 + 16 + 16 + 16) 7 0 1, rfl, ?_, ?_, ?_, [p], ?_, rfl, Or.inr ⟨_, _, ?_, ?_, ?_, ?_, ?_, rfl, rfl, ?_, ?_⟩⟩)
                · simp (disch := omega) only [upd_not]; exact HB0.out
                · simp (disch := omega) only [upd_not]; exact hb1
                · exact upd_is rfl
                · have hps0 := List.eq_nil_of_length_eq_zero hpl
                  rw [HT.out, hq, hps0]; rfl
                · omega
                · omega
                · omega
                · omega
                · omega
                · simp (disch := omega) only [upd_not]; rw [upd_is rfl]; rfl
                · simp (disch := omega) only [upd_not]; rw [upd_is rfl]; rfl
              · have c1 : (i + 1) * 96 ≤ 140737488355328 := by omega
                have c2 : ¬ i2 = n2 + 16 + 16 + 16 + 16 + 16 := by omega
                have c3 : (i + 1) * 8 ≤ 140737488355328 := by omega
                have c4 : ¬ i1 = n2 + 16 + 16 + 16 + 16 + 16 + 16 + 16 := by omega
                simp (maxSteps := 1000000) (disch := omega) only [go_sem, wrapI, wrapB, upd_is, upd_not, Nat.reduceAdd, Nat.reduceSub, Nat.reduceMul, Nat.reduceLeDiff, Nat.reduceEqDiff, Int.reduceAdd, Int.reduceSub, Int.reduceMul, Int.reduceNeg, Int.reduceLT, Int.reduceLE, Int.reduceEq, Int.reduceToNat, reduceCtorEq, reduceIte, Nat.zero_add, Nat.add_zero, *]
                refine HK.out _ _ _ (.refl ⟨_, _, _, _, _, .ow (n2 + 16 + 16 + 16 + 16 + 16) 7 0 (i + 1), rfl, ?_, ?_, ?_, ps ++ [p], ?_, ?_, Or.inr ⟨_, _, ?_, ?_, ?_, ?_, ?_, rfl, rfl, ?_, ?_⟩⟩)
                · simp (disch := omega) only [upd_not]; exact HB0.out
                · simp (disch := omega) only [upd_not]; exact hb1
                · exact upd_is rfl
                · rw [HT.out, hq]
                · simp [hpl]
                · omega
                · omega
                · omega
                · omega
                · omega
                · simp (disch := omega) only [upd_not]; rw [upd_is rfl, List.map_append]; rfl
                · simp (disch := omega) only [upd_not]; rw [upd_is rfl, List.map_append]; rfl
          cases agg
          · simp (maxSteps := 1000000) (disch := omega) only [lb_check_scope_expr5, go_sem, wrapI, wrapB, upd_is, upd_not, Nat.reduceAdd, Nat.reduceSub, Nat.reduceMul, Nat.reduceLeDiff, Nat.reduceEqDiff, Int.reduceAdd, Int.reduceSub, Int.reduceMul, Int.reduceNeg, Int.reduceLT, Int.reduceLE, Int.reduceEq, Int.reduceToNat, reduceCtorEq, reduceIte, Nat.zero_add, Nat.add_zero, *]
            exact go
          · simp (maxSteps := 1000000) (disch := omega) only [lb_check_scope_expr5, go_sem, wrapI, wrapB, upd_is, upd_not, Nat.reduceAdd, Nat.reduceSub, Nat.reduceMul, Nat.reduceLeDiff, Nat.reduceEqDiff, Int.reduceAdd, Int.reduceSub, Int.reduceMul, Int.reduceNeg, Int.reduceLT, Int.reduceLE, Int.reduceEq, Int.reduceToNat, reduceCtorEq, reduceIte, Nat.zero_add, Nat.add_zero, *]
            exact go
        · rintro K s' σ' n2 hn ⟨a, b, c, d, kv, av, rfl, hb0, hb1, hb2, ps, hps, hpl, hor⟩
          rw [List.take_length] at hps
          have HF3 := Lib.hid (HF2.out.trans (by rw [hps]) : exprF ts e agg = match kindE e.op (ps.map (·.2)) with
            | .error x => .error x
            | .ok k => if (agg || decide (e.op < 18)) = true then .ok (.mk e.op 0 0 [] [] [] (ps.map (·.1)), k) else .error 1)
          have hk := kind_con e.op (ps.map (·.2)) ⟨by omega, hop⟩ ?_ ?_
          clear HF2 HC IH hps
          rw [encE_eq] at hb0
          rw [kindF_E] at hk
          have HQ := Lib.hid hk; clear hk
          · have fin : kc_check_scope_expr4 (.sc (.bool agg)) (.rf 0 7 0 0) (.rf 32 7 0 0) (.rf 16 7 0 0) R (intEnd (kindE e.op (ps.map (·.2)))) σ' n2 := by
              clear HQ
              cases hkk : kindE e.op (ps.map (·.2)) with
              | error y =>
                have HG := Lib.hid (HF3.out.trans (by rw [hkk]) : exprF ts e agg = .error y)
                clear HF3 hkk hor
                simp (maxSteps := 1000000) (disch := omega) only [intEnd, go_sem, wrapI, wrapB, upd_is, upd_not, Nat.reduceAdd, Nat.reduceSub, Nat.reduceMul, Nat.reduceLeDiff, Nat.reduceEqDiff, Int.reduceAdd, Int.reduceSub, Int.reduceMul, Int.reduceNeg, Int.reduceLT, Int.reduceLE, Int.reduceEq, Int.reduceToNat, reduceCtorEq, reduceIte, Nat.zero_add, Nat.add_zero, *]
                rw [← HR.out, HG.out]; exact RC_pan rfl
              | ok k =>
                have HG := Lib.hid (HF3.out.trans (by rw [hkk]) : exprF ts e agg = if (agg || decide (e.op < 18)) = true then .ok (.mk e.op 0 0 [] [] [] (ps.map (·.1)), k) else .error 1)
                clear HF3 hkk
                have HO := Lib.hid hor; clear hor
                have last : (agg || decide (e.op < 18)) = true → CALL Try.prog (.fn 63 []) [.sc (.bool true), .sc (.int .i64 1)] σ' n2 (kc_check_scope_expr3 (.rf 32 7 0 0) (.rf 16 7 0 0) R (.sc (.int .i64 k))) := by
                  intro hag
                  refine CALL_con0 (need_con _ _) rfl ?_
                  rw [if_pos hag] at HG
                  clear hag
                  rcases HO.out with ⟨hn0, rfl, rfl⟩ | ⟨i1, i2, hl1, hl2, hg1, hg2, hne, rfl, rfl, hs1, hs2⟩
                  · have hps0 : ps = [] := List.eq_nil_of_length_eq_zero (hpl.trans hn0)
                    subst hps0
                    simp (maxSteps := 1000000) (disch := omega) only [go_sem, wrapI, wrapB, upd_is, upd_not, Nat.reduceAdd, Nat.reduceSub, Nat.reduceMul, Nat.reduceLeDiff, Nat.reduceEqDiff, Int.reduceAdd, Int.reduceSub, Int.reduceMul, Int.reduceNeg, Int.reduceLT, Int.reduceLE, Int.reduceEq, Int.reduceToNat, reduceCtorEq, reduceIte, Nat.zero_add, Nat.add_zero, *]
                    rw [← HR.out, HG.out]
                    exact RC_ret rfl rfl
                  · simp (maxSteps := 1000000) (disch := omega) only [go_sem, wrapI, wrapB, upd_is, upd_not, Nat.reduceAdd, Nat.reduceSub, Nat.reduceMul, Nat.reduceLeDiff, Nat.reduceEqDiff, Int.reduceAdd, Int.reduceSub, Int.reduceMul, Int.reduceNeg, Int.reduceLT, Int.reduceLE, Int.reduceEq, Int.reduceToNat, reduceCtorEq, reduceIte, Nat.zero_add, Nat.add_zero, *]
                    rw [← HR.out, HG.out]
                    refine RC_ret (c := .tp [.ag (encE (.mk e.op 0 0 [] [] [] (ps.map (·.1)))), .sc (.int .i64 k)]) (I := [i2]) ?_ rfl
                    have hlm : (ps.map (fun p => encE p.1)).length = e.args.length := by rw [List.length_map, hpl]
                    have hw : ∀ v, upd σ' 16 v i2 = some (.c ⟨7, ps.map (fun p => encE p.1), true, true⟩) := by intro v; rw [upd_not (by omega)]; exact hs2
                    simp only [brw_tp, brwL_cons, brwL_nil, brw_sc, brw_ag, brw_s, brw_ow', hw, hlm]
                    rw [encE_eq (.mk e.op 0 0 [] [] [] (ps.map (·.1)))]
                    rw [← hlm]
                    simp [List.map_map, Function.comp_def, Ep.op, Ep.args, Ep.kind, Ep.n, Ep.text, Ep.table, Ep.name]
                    exact List.take_of_length_le (by simp)
                have HLAST := Lib.hid last; clear last
                cases agg with
                | true =>
                  simp (maxSteps := 1000000) (disch := omega) only [go_sem, wrapI, wrapB, upd_is, upd_not, Nat.reduceAdd, Nat.reduceSub, Nat.reduceMul, Nat.reduceLeDiff, Nat.reduceEqDiff, Int.reduceAdd, Int.reduceSub, Int.reduceMul, Int.reduceNeg, Int.reduceLT, Int.reduceLE, Int.reduceEq, Int.reduceToNat, reduceCtorEq, reduceIte, Nat.zero_add, Nat.add_zero, *]
                  exact HLAST.out rfl
                | false =>
                  by_cases h18 : e.op < 18
                  · simp (maxSteps := 1000000) (disch := omega) only [go_sem, wrapI, wrapB, upd_is, upd_not, Nat.reduceAdd, Nat.reduceSub, Nat.reduceMul, Nat.reduceLeDiff, Nat.reduceEqDiff, Int.reduceAdd, Int.reduceSub, Int.reduceMul, Int.reduceNeg, Int.reduceLT, Int.reduceLE, Int.reduceEq, Int.reduceToNat, reduceCtorEq, reduceIte, Nat.zero_add, Nat.add_zero, *]
                    exact HLAST.out (by simp [h18])
                  · simp (maxSteps := 1000000) (disch := omega) only [go_sem, wrapI, wrapB, upd_is, upd_not, Nat.reduceAdd, Nat.reduceSub, Nat.reduceMul, Nat.reduceLeDiff, Nat.reduceEqDiff, Int.reduceAdd, Int.reduceSub, Int.reduceMul, Int.reduceNeg, Int.reduceLT, Int.reduceLE, Int.reduceEq, Int.reduceToNat, reduceCtorEq, reduceIte, Nat.zero_add, Nat.add_zero, *]
                    refine CALL_con0 (need_con _ _) rfl ?_
                    rw [if_neg (by simp [h18])] at HG
                    simp (maxSteps := 1000000) (disch := omega) only [go_sem, wrapI, wrapB, upd_is, upd_not, Nat.reduceAdd, Nat.reduceSub, Nat.reduceMul, Nat.reduceLeDiff, Nat.reduceEqDiff, Int.reduceAdd, Int.reduceSub, Int.reduceMul, Int.reduceNeg, Int.reduceLT, Int.reduceLE, Int.reduceEq, Int.reduceToNat, reduceCtorEq, reduceIte, Nat.zero_add, Nat.add_zero, *]
                    rw [← HR.out, HG.out]; exact RC_pan rfl
            rcases hor with ⟨hn0, rfl, rfl⟩ | ⟨i1, i2, hl1, hl2, hg1, hg2, hne, rfl, rfl, hs1, hs2⟩
            · have hps0 : ps = [] := List.eq_nil_of_length_eq_zero (hpl.trans hn0)
              subst hps0
              have HFIN := Lib.hid fin; clear fin
              simp (maxSteps := 1000000) (disch := omega) only [lb_check_scope_expr5, Int.lt_irrefl, go_sem, wrapI, wrapB, upd_is, upd_not, Nat.reduceAdd, Nat.reduceSub, Nat.reduceMul, Nat.reduceLeDiff, Nat.reduceEqDiff, Int.reduceAdd, Int.reduceSub, Int.reduceMul, Int.reduceNeg, Int.reduceLT, Int.reduceLE, Int.reduceEq, Int.reduceToNat, reduceCtorEq, reduceIte, Nat.zero_add, Nat.add_zero, *]
              exact CALL_con0 HQ.out rfl HFIN.out
            · have HFIN := Lib.hid fin; clear fin
              simp (maxSteps := 1000000) (disch := omega) only [lb_check_scope_expr5, Int.lt_irrefl, go_sem, wrapI, wrapB, upd_is, upd_not, Nat.reduceAdd, Nat.reduceSub, Nat.reduceMul, Nat.reduceLeDiff, Nat.reduceEqDiff, Int.reduceAdd, Int.reduceSub, Int.reduceMul, Int.reduceNeg, Int.reduceLT, Int.reduceLE, Int.reduceEq, Int.reduceToNat, reduceCtorEq, reduceIte, Nat.zero_add, Nat.add_zero, *]
              have hb : brwL σ' 3 ([.sc (.int .i64 e.op), .ow i1 1 0 e.args.length] ++ []) = some ([.sc (.int .i64 e.op), .tr ((ps.map (·.2)).map encI)], [i1]) := by
                have hlm : (ps.map (fun p => encI p.2)).length = e.args.length := by rw [List.length_map, hpl]
                simp only [List.append_nil, brwL_cons, brwL_nil, brw_sc, brw_ow', hs1, hlm]
                rw [← hlm]
                simp [List.map_map, Function.comp_def]
                exact List.take_of_length_le (by simp)
              have h2 := HFIN.out
              have h3 := HQ.out
              revert h2 h3
              cases kindE e.op (ps.map (·.2)) with
              | error y => exact fun h2 h3 => CALL_con h3 hb h2
              | ok k => exact fun h2 h3 => CALL_conS h3 hb rfl h2
          · intro h1 h2
            have := h8 h1 h2
            match ps, hpl with
            | [x, y], _ => exact ⟨_, _, _, rfl⟩
            | [], h | [_], h | _ :: _ :: _ :: _, h => simp at h; omega
          · intro h1
            have := h21 h1
            match ps, hpl with
            | [x], _ => exact ⟨_, _, rfl⟩
            | [], h | _ :: _ :: _, h => simp at h; omega
end Go.Proofs.Ytlhnncmflnjinaa
