/- Packed by a program of this repo: Ua Vf Sv. -/
import Derived.Test.YtodoejfkjimeaaaGreatDoorKTVg
import Derived.Test.YtodoejfkjimeaaaGreatDoorKTQf
import Derived.Test.YtodoejfkjimeaaaGreatDoorKTDj
import Derived.Test.YtodoejfkjimeaaaGreatDoorKTDd
import Derived.Test.YtodoejfkjimeaaaGreatDoorKTCx
import Derived.Test.YtodoejfkjimeaaaGreatDoorKTUe
set_option linter.unusedSimpArgs false
set_option linter.unusedVariables false
set_option maxRecDepth 100000
namespace Go.Proofs.YtodoejfkjimeaaaGreatDoor
open Go Go.RowKit Am
attribute [-go_sem] guardP_if guardK_if guardD_if COND_bool
attribute [local go_sem low] guardP_if guardK_if guardD_if COND_bool
attribute [local go_sem] wrapI wrapB upd_is upd_not Nat.zero_add Nat.add_zero
attribute [local go_sem_proc] Nat.reduceAdd Nat.reduceSub Nat.reduceMul Nat.reduceLeDiff Nat.reduceEqDiff Int.reduceAdd Int.reduceSub Int.reduceMul Int.reduceNeg Int.reduceLT Int.reduceLE Int.reduceEq Int.reduceToNat reduceCtorEq reduceIte
theorem firstBad_append : ∀ (l m : List Ep), firstBad (l ++ m) = if firstBad l = 0 then firstBad m else firstBad l
  | [], m => rfl
  | e :: l, m => by
    by_cases h : exErr e = 0 <;> simp [firstBad, h, firstBad_append l m]
theorem firstBad_next {l : List Ep} {i : Nat} {x : Ep} (hx : l[i]? = some x) (h : firstBad (l.take i) = 0) : firstBad (l.take (i + 1)) = exErr x := by
  rw [List.take_add_one, hx, firstBad_append, if_pos h]
  simp only [Option.toList, firstBad]
  split <;> simp_all
theorem firstBad_stop {l : List Ep} {i : Nat} {x : Ep} (hx : l[i]? = some x) (h : firstBad (l.take i) = 0) (h2 : exErr x ≠ 0) : firstBad l = exErr x := by
  have h3 := firstBad_next hx h
  have : firstBad l = firstBad (l.take (i + 1) ++ l.drop (i + 1)) := by rw [List.take_append_drop]
  rw [this, firstBad_append, h3, if_neg h2]
theorem rfExprs_con (l : List Ep) (hb : LBd l) (hg : ∀ e ∈ l, Rg e) : Con Tryz.prog 30 [.tr (l.map encE)] (.ret (.sc (.int .i64 (firstBad l)))) := by
  refine con_of (by_ref04_exprs ?_)
  generalize hR : RC _ = R
  have HR := Lib.hid hR; clear hR
  have hl := hb.len
  have HC := Lib.hid (fun e he => rfCheckExpr_con e (hb.bd e he) (hg e he)); clear hb hg
  rw [sh_ref04_exprs]
  refine LOOP_list l (fun i st => ∃ a b c d, st = [a, b, c, d, .sc (.int .i64 i)] ∧ firstBad (l.take i) = 0) ⟨_, _, _, _, rfl, rfl⟩ ?_ ?_
  · rintro i x K st n' hx hi hi' hn ⟨a, b, c, d, rfl, h0⟩ hK
    have HK := Lib.hid hK; clear hK
    have H1 := Lib.hid (HC.out x (List.mem_of_getElem? hx))
    have hN := firstBad_next hx h0
    have HN := Lib.hid hN; clear hN
    have HS := Lib.hid (firstBad_stop hx h0); clear h0
    simp (maxSteps:=1000000) (disch:=omega) only [lb_ref04_exprs2,List.getD_cons_succ,List.getD_cons_zero,decide_true,decide_false,go_sem, *]
    intro _
    refine CALL_con0 H1.out (by simp only [List.append_nil, brwL_cons, brwL_nil, brw_ag, encE_brw, Option.map_some]) ?_
    change kc_ref04_exprs1 R _ K _ (.ret (.sc (.int .i64 (exErr x)))) _ _
    by_cases he : exErr x = 0
    · simp (maxSteps:=1000000) (disch:=omega) only [decide_true,decide_false,go_sem, *]
      exact HK.out _ _ (Nat.le_refl _) ⟨_, _, _, _, rfl, by rw [HN.out]; exact he⟩
    · simp (maxSteps:=1000000) (disch:=omega) only [decide_true,decide_false,go_sem, *]
      rw [← HR.out]; exact RC_ret rfl (by rw [HS.out he])
  · rintro K st n' hn ⟨a, b, c, d, rfl, h0⟩
    rw [List.take_length] at h0
    have H0 := Lib.hid h0; clear h0
    simp (maxSteps:=1000000) (disch:=omega) only [lb_ref04_exprs2,List.getD_cons_succ,List.getD_cons_zero,decide_true,decide_false,Int.lt_irrefl,go_sem, *]
    intro _
    rw [← HR.out]; exact RC_ret rfl (by rw [H0.out])
theorem ld_box {σ : Hp} {i k c : Nat} {row : List AV} {w cl : Bool} {v : AV} (h : σ i = some (.c ⟨k, [row], w, cl⟩)) (hc : row[c]? = some v) (hf : 0 < k := by omega) : aLd σ none (.rf i k 0 c) = some v := by
  simp [aLd, h, part_none, hc]
theorem len_tr {α : Type} (l : List α) (f : α → List AV) : aLen false (.tr (l.map f)) = some (.sc (.int .i64 l.length)) := by
  rw [aLen_tr, List.length_map]
def bdsF (k : Int) : List (Int × Int) :=
  if k = 1 then [(1, 8), (0, 0), (0, 0), (0, 0), (0, 0), (0, 0), (0, 0), (0, 0)]
  else if k = 4 then [(0, 0), (1, 16), (0, 0), (0, 0), (0, 0), (0, 0), (0, 0), (0, 0)]
  else if k = 5 then [(0, 0), (0, 0), (1, 8), (0, 0), (0, 0), (0, 1), (0, 0), (0, 0)]
  else if k = 6 then [(0, 0), (0, 0), (0, 0), (0, 0), (0, 0), (0, 1), (0, 0), (0, 0)]
  else if k = 7 then [(0, 0), (0, 0), (0, 0), (1, 16), (0, 1), (0, 1), (0, 1), (0, 8)]
  else [(0, 0), (0, 0), (0, 0), (0, 0), (0, 0), (0, 0), (0, 0), (0, 0)]
def bdsR (l : List (Int × Int)) : List (List AV) := l.flatMap fun p => [[.sc (.int .i64 p.1)], [.sc (.int .i64 p.2)]]
theorem rfBounds_con (k : Int) : Con Tryz.prog 64 [.sc (.int .i64 k)] (.ret (.tr (bdsR (bdsF k)))) := by
  refine con_of (by_ref04_bounds ?_)
  generalize hR : RC _ = R
  have HR := Lib.hid hR; clear hR
  have key : ∀ σ n, R (.ret (.ow n 1 0 16)) (applyW σ [(n, some (Ob.c ⟨1, bdsR (bdsF k), true, true⟩))]) (n + 16) := by
    intro σ n
    rw [← HR.out]
    have hl : (bdsR (bdsF k)).length = 16 := by
      unfold bdsF
      repeat' split
      all_goals rfl
    exact RC_ret (c := .tr (bdsR (bdsF k))) (I := [n]) (brw_all (by simp only [applyW_cons, applyW_nil]; exact upd_is rfl) hl (by omega)) rfl
  have H := Lib.hid key; clear key
  rw [sh_ref04_bounds]
  by_cases h1 : k = 1
  · rw [bindP_eqI, COND_yes h1]
    change bindS (some (.ow _ 1 0 16, [(_, some (Ob.c ⟨1, bdsR (bdsF 1), true, true⟩))])) _ _ _
    rw [bindS_some, ← h1]
    exact H.out _ _
  · rw [bindP_eqI, COND_no h1]
    by_cases h4 : k = 4
    · rw [bindP_eqI, COND_yes h4]
      change bindS (some (.ow _ 1 0 16, [(_, some (Ob.c ⟨1, bdsR (bdsF 4), true, true⟩))])) _ _ _
      rw [bindS_some, ← h4]
      exact H.out _ _
    · rw [bindP_eqI, COND_no h4]
      by_cases h5 : k = 5
      · rw [bindP_eqI, COND_yes h5]
        change bindS (some (.ow _ 1 0 16, [(_, some (Ob.c ⟨1, bdsR (bdsF 5), true, true⟩))])) _ _ _
        rw [bindS_some, ← h5]
        exact H.out _ _
      · rw [bindP_eqI, COND_no h5]
        by_cases h6 : k = 6
        · rw [bindP_eqI, COND_yes h6]
          change bindS (some (.ow _ 1 0 16, [(_, some (Ob.c ⟨1, bdsR (bdsF 6), true, true⟩))])) _ _ _
          rw [bindS_some, ← h6]
          exact H.out _ _
        · rw [bindP_eqI, COND_no h6]
          by_cases h7 : k = 7
          · rw [bindP_eqI, COND_yes h7]
            change bindS (some (.ow _ 1 0 16, [(_, some (Ob.c ⟨1, bdsR (bdsF 7), true, true⟩))])) _ _ _
            rw [bindS_some, ← h7]
            exact H.out _ _
          · rw [bindP_eqI, COND_no h7]
            have hk : bdsF k = bdsF 0 := by simp only [bdsF, h1, h4, h5, h6, h7, if_false]; rfl
            change bindS (some (.ow _ 1 0 16, [(_, some (Ob.c ⟨1, bdsR (bdsF 0), true, true⟩))])) _ _ _
            rw [bindS_some, ← hk]
            exact H.out _ _
def lensF (x : Sm) : List Int := [x.columns.length, x.rows.length, x.sets.length, x.items.length, x.on.length, x.where_.length, x.group.length, x.order.length]
def cntF (x : Sm) : List (Int × Int × Int) := (lensF x).zip (bdsF x.kind)
def cntOk (t : Int × Int × Int) : Bool := decide (t.2.1 ≤ t.1) && decide (t.1 ≤ t.2.2)
theorem cnt_at (x : Sm) {i : Nat} {t : Int × Int × Int} (h : (cntF x)[i]? = some t) : i < 8 ∧ ((lensF x).map fun n => [AV.sc (.int .i64 n)])[i]? = some [.sc (.int .i64 t.1)] ∧ (bdsR (bdsF x.kind))[2 * i]? = some [.sc (.int .i64 t.2.1)] ∧ (bdsR (bdsF x.kind))[2 * i + 1]? = some [.sc (.int .i64 t.2.2)] := by
  have hb : ∃ p0 p1 p2 p3 p4 p5 p6 p7, bdsF x.kind = [p0, p1, p2, p3, p4, p5, p6, p7] := by
    unfold bdsF
    repeat' split
    all_goals exact ⟨_, _, _, _, _, _, _, _, rfl⟩
  obtain ⟨p0, p1, p2, p3, p4, p5, p6, p7, hb⟩ := hb
  unfold cntF at h
  rw [hb] at h ⊢
  unfold lensF at h ⊢
  match i, h with
  | 0, h => cases h; exact ⟨by omega, rfl, rfl, rfl⟩
  | 1, h => cases h; exact ⟨by omega, rfl, rfl, rfl⟩
  | 2, h => cases h; exact ⟨by omega, rfl, rfl, rfl⟩
  | 3, h => cases h; exact ⟨by omega, rfl, rfl, rfl⟩
  | 4, h => cases h; exact ⟨by omega, rfl, rfl, rfl⟩
  | 5, h => cases h; exact ⟨by omega, rfl, rfl, rfl⟩
  | 6, h => cases h; exact ⟨by omega, rfl, rfl, rfl⟩
  | 7, h => cases h; exact ⟨by omega, rfl, rfl, rfl⟩
  | i + 8, h => simp at h
theorem cnt_len (x : Sm) : (cntF x).length = 8 := by
  unfold cntF lensF bdsF
  repeat' split
  all_goals rfl
def countsF (x : Sm) : Bool := (cntF x).all cntOk
set_option maxHeartbeats 2000000 in
theorem rfCounts_con (x : Sm) (hb : SBd x) : Con Tryz.prog 27 [.ag (encSm x)] (.ret (.sc (.bool (countsF x)))) := by
  refine con_of (by_ref04_counts ?_)
  generalize hR : RC _ = R
  have HR := Lib.hid hR; clear hR
  have HB := Lib.hid (rfBounds_con x.kind)
  have e2 := hb.cols; have e5 := hb.rows; have e6 := hb.sets; have e7 := hb.items.len; have e9 := hb.on.len; have e10 := hb.where_.len; have e11 := hb.group.len; have e12 := hb.order
  have HA := Lib.hid (fun i t h => cnt_at x (i := i) (t := t) h)
  have HL := Lib.hid (cnt_len x)
  clear hb
  have hF : countsF x = (cntF x).all cntOk := rfl
  have HF := Lib.hid hF; clear hF
  simp (maxSteps:=1000000) (disch:=omega) only [sh_ref04_counts,encSm,go_sem, *]
  refine CALL_con0 HB.out rfl ?_
  generalize hσ : upd _ _ _ = σ
  have h0 : σ 0 = some (.c ⟨14, [encSm x], true, false⟩) := by rw [← hσ]; exact upd_is rfl
  clear hσ
  rw [kc_ref04_counts2, onEnd_ret]
  rw [show aFad 2 (.rf 0 14 0 0) = some (.rf 0 14 0 2) from rfl, bindP_some, ld_box h0 (v := .tr (x.columns.map encC)) rfl, bindP_some, len_tr, bindP_some]; intro _
  rw [show aFad 5 (.rf 0 14 0 0) = some (.rf 0 14 0 5) from rfl, bindP_some, ld_box h0 (v := .tr (x.rows.map encRx)) rfl, bindP_some, len_tr, bindP_some]; intro _
  rw [show aFad 6 (.rf 0 14 0 0) = some (.rf 0 14 0 6) from rfl, bindP_some, ld_box h0 (v := .tr (x.sets.map encS)) rfl, bindP_some, len_tr, bindP_some]; intro _
  rw [show aFad 7 (.rf 0 14 0 0) = some (.rf 0 14 0 7) from rfl, bindP_some, ld_box h0 (v := .tr (x.items.map encE)) rfl, bindP_some, len_tr, bindP_some]; intro _
  rw [show aFad 9 (.rf 0 14 0 0) = some (.rf 0 14 0 9) from rfl, bindP_some, ld_box h0 (v := .tr (x.on.map encE)) rfl, bindP_some, len_tr, bindP_some]; intro _
  rw [show aFad 10 (.rf 0 14 0 0) = some (.rf 0 14 0 10) from rfl, bindP_some, ld_box h0 (v := .tr (x.where_.map encE)) rfl, bindP_some, len_tr, bindP_some]; intro _
  rw [show aFad 11 (.rf 0 14 0 0) = some (.rf 0 14 0 11) from rfl, bindP_some, ld_box h0 (v := .tr (x.group.map encE)) rfl, bindP_some, len_tr, bindP_some]; intro _
  rw [show aFad 12 (.rf 0 14 0 0) = some (.rf 0 14 0 12) from rfl, bindP_some, ld_box h0 (v := .tr (x.order.map encO)) rfl, bindP_some, len_tr, bindP_some]; intro _
  clear e2 e5 e6 e7 e9 e10 e11 e12
  change bindS (some (.ow _ 1 0 8, [(_, some (Ob.c ⟨1, (lensF x).map fun n => [.sc (.int .i64 n)], true, true⟩))])) _ _ _
  rw [bindS_some]
  generalize hτ : applyW _ _ = τ
  have h1 : τ 16 = some (.c ⟨1, (lensF x).map fun n => [.sc (.int .i64 n)], true, true⟩) := by rw [← hτ]; simp only [applyW_cons, applyW_nil]; exact upd_is rfl
  clear hτ h0
  refine LOOP_list (cntF x) (fun i st => ∃ a b c, st = [a, b, c, .sc (.int .i64 i)] ∧ ((cntF x).take i).all cntOk = true) ⟨_, _, _, rfl, rfl⟩ ?_ ?_
  · rintro i t K st n' hx hi hi' hn ⟨a, b, c, rfl, hall⟩ hK
    have HK := Lib.hid hK; clear hK
    obtain ⟨i8, a1, a2, a3⟩ := HA.out i t hx
    have HAT := Lib.hid (all_take (p := cntOk) hx)
    have HNO := Lib.hid (all_not (p := cntOk) hx)
    have hlb : (bdsR (bdsF x.kind)).length = 16 := by
      unfold bdsF
      repeat' split
      all_goals rfl
    generalize bdsR (bdsF x.kind) = bb at *
    have i8' : (i : Int) < 8 := by omega
    have ha8 : ((lensF x).map fun n => [AV.sc (.int .i64 n)]).length = 8 := by rw [List.length_map]; rfl
    generalize ((lensF x).map fun n => [AV.sc (.int .i64 n)]) = aa at *
    clear hx hi hi'
    rw [lb_ref04_counts1]
    simp only [List.getD_cons_succ, List.getD_cons_zero]
    rw [bindP_ltI, COND_yes i8']
    have f1 : aIad 1 (.ow 16 1 0 8) (.sc (.int .i64 i)) = some (.rf 16 1 i 0) := by rw [aIad_ow, if_pos ⟨rfl, by omega, by omega⟩]; simp
    have f2 : aLd τ none (.rf 16 1 i 0) = some (.sc (.int .i64 t.1)) := by simp [aLd, h1, a1, part_none]
    have f3 : semBin .mul (.sc (.int .i64 2)) (.sc (.int .i64 i)) = some (.sc (.int .i64 (2 * i : Nat))) := by rw [bin_mul, wrapI (by omega) (by omega)]; rfl
    have f4 : aIad 1 (.tr bb) (.sc (.int .i64 (2 * i : Nat))) = some (.fp [.sc (.int .i64 t.2.1)]) := by rw [aIad_tr, if_pos (by omega), Int.toNat_natCast, a2]; rfl
    have f5 : semBin .add (.sc (.int .i64 (2 * i : Nat))) (.sc (.int .i64 1)) = some (.sc (.int .i64 (2 * i + 1 : Nat))) := by rw [bin_add, wrapI (by omega) (by omega)]; rfl
    have f6 : aIad 1 (.tr bb) (.sc (.int .i64 (2 * i + 1 : Nat))) = some (.fp [.sc (.int .i64 t.2.2)]) := by rw [aIad_tr, if_pos (by omega), Int.toNat_natCast, a3]; rfl
    rw [f1, bindP_some, f2, bindP_some, f3, bindP_some, f4, bindP_some, show aLd τ none (.fp [.sc (.int .i64 t.2.1)]) = some (.sc (.int .i64 t.2.1)) from rfl, bindP_some, bindP_ltI]
    by_cases hlo : t.1 < t.2.1
    · rw [decide_eq_true hlo]
      have hno := HNO.out (by simp [cntOk]; omega)
      have HN := Lib.hid hno; clear hno f1 f2 f3 f4 f5 f6 a1 a2 a3
      simp (maxSteps:=1000000) (disch:=omega) only [decide_true,decide_false,go_sem, *]
      intro _ _
      rw [← HR.out]; exact RC_ret rfl (by rw [HF.out, HN.out])
    · rw [decide_eq_false hlo]
      simp only [guardP_on, f1, f2, f3, f4, f5, f6, bindP_some, show aLd τ none (.fp [.sc (.int .i64 t.2.2)]) = some (.sc (.int .i64 t.2.2)) from rfl, bin_gtr]
      by_cases hhi : t.2.2 < t.1
      · have hno := HNO.out (by simp [cntOk]; omega)
        have HN := Lib.hid hno; clear hno f1 f2 f3 f4 f5 f6 a1 a2 a3
        simp (maxSteps:=1000000) (disch:=omega) only [decide_true,decide_false,go_sem, *]
        intro _ _
        rw [← HR.out]; exact RC_ret rfl (by rw [HF.out, HN.out])
      · have hye := HAT.out
        rw [hall, show cntOk t = true by simp [cntOk]; omega] at hye
        have HY := Lib.hid hye; clear hye f1 f2 f3 f4 f5 f6 a1 a2 a3
        simp (maxSteps:=1000000) (disch:=omega) only [decide_true,decide_false,go_sem, *]
        exact fun n_ hn_ => HK.out _ _ (by omega) ⟨_, _, _, rfl, HY.out⟩
  · rintro K st n' hn ⟨a, b, c, rfl, hall⟩
    rw [List.take_length] at hall
    rw [HL.out]
    rw [lb_ref04_counts1]
    simp only [List.getD_cons_succ, List.getD_cons_zero]
    rw [bindP_ltI, COND_no (by omega)]
    rw [← HR.out]; exact RC_ret rfl (by rw [HF.out, hall])
end Go.Proofs.YtodoejfkjimeaaaGreatDoor

set_option linter.unusedSimpArgs false
set_option linter.unusedVariables false
set_option maxRecDepth 100000
namespace Go.Proofs.YtodoejfkjimeaaaGreatDoor
open Go Go.RowKit Am
attribute [-go_sem] guardP_if guardK_if guardD_if COND_bool
attribute [local go_sem low] guardP_if guardK_if guardD_if COND_bool
structure PS (σ : Hp) (n i j : Nat) (ob : Ob) (τ : Hp) (n' : Nat) (l : Tx) : Prop where
  lt : n + 16 ≤ n'
  bld : ∃ j', (j' = j ∨ n + 16 ≤ j') ∧ BldS τ n' i j' l
  box : τ n = some ob
  old : ∀ k, k < n → k ≠ i → k ≠ j → τ k = σ k
section
variable {σ τ : Hp} {n i j n' : Nat} {ob : Ob} {l : Tx} {K : AEnd → Hp → Nat → Prop}
theorem PS.call (hi : i < n) (hj : j < n) (h : PS σ n i j ob τ n' l) {g : FuncId} {args : List AV} {m : Tx} (hc : ∀ j', BldS τ n' i j' l → ConH Tryz.prog g (args ++ []) τ n' (BPost τ n' i j' m (.ret (.tp []))))
    (hk : ∀ τ2 n2, PS σ n i j ob τ2 n2 m → K (.ret (.tp [])) τ2 n2) : CALL Tryz.prog (.fn g []) args τ n' K := by
  obtain ⟨h1, ⟨j', hj', hb⟩, h3, h4⟩ := h
  refine CALL_conH (hc j' hb) ?_
  rintro r τ2 n2 ⟨rfl, j2, hj2, hb2, hf2⟩ hn2
  have hne : ∀ k, k < n + 16 → k ≠ j → k ≠ j' := fun k hk hkj => by rcases hj' with rfl | h <;> omega
  refine hk τ2 n2 ⟨by omega, ⟨j2, ?_, hb2⟩, (hf2 n (by omega) (by omega) (hne n (by omega) (by omega))).trans h3, fun k h5 h6 h7 => (hf2 k (by omega) h6 (hne k (by omega) h7)).trans (h4 k h5 h6 h7)⟩
  rcases hj2 with rfl | h
  · exact hj'
  · exact .inr (by omega)
theorem PS.put (hi : i < n) (hj : j < n) (h : PS σ n i j ob τ n' l) (ts : List Tx) (hlen : (l ++ ts.flatten).length ≤ 140737488355328) (hts : ts.length ≤ 1000)
    (hk : ∀ τ2 n2, PS σ n i j ob τ2 n2 (l ++ ts.flatten) → K (.ret (.tp [])) τ2 n2) : CALL Tryz.prog (.fn 40 []) [.rt i 2 PRT, .ow n' 1 0 ts.length] (applyW τ [(n', some (.c ⟨1, txRows ts, true, true⟩))]) (n' + 16) K := by
  simp only [applyW_cons, applyW_nil]
  have h' : PS σ n i j ob (upd τ n' (some (.c ⟨1, txRows ts, true, true⟩))) (n' + 16) l := by
    obtain ⟨h1, ⟨j', hj', hb⟩, h3, h4⟩ := h
    exact ⟨by omega, ⟨j', hj', hb.up (by omega) (fun k hk => upd_not (by omega))⟩, by rw [upd_not (by omega)]; exact h3, fun k h5 h6 h7 => by rw [upd_not (by omega)]; exact h4 k h5 h6 h7⟩
  have hjl : ∀ j', BldS τ n' i j' l → j' < n' := fun j' hb => hb.jlt
  obtain ⟨h1, ⟨j', hj', hb⟩, h3, h4⟩ := h
  have hi2 := hb.lt
  have hj2 := hb.jlt
  have h'' : PS σ n i j ob (upd τ n' (some (.c ⟨1, txRows ts, true, true⟩))) (n' + 16) l := h'
  refine CALL_conH (put_conH i j' n' l ts _ _ (hb.up (by omega) (fun k hk => upd_not (by omega))) (upd_is rfl) (by omega) (by omega) (by omega) hlen hts) ?_
  rintro r τ2 n2 ⟨rfl, j2, hj2, hb2, hf2⟩ hn2
  have hne : ∀ k, k < n + 16 → k ≠ j → k ≠ j' := fun k hk hkj => by rcases hj' with rfl | h <;> omega
  refine hk τ2 n2 ⟨by omega, ⟨j2, ?_, hb2⟩, (hf2 n (by omega) (by omega) (hne n (by omega) (by omega))).trans (by rw [upd_not (by omega)]; exact h3), fun k h5 h6 h7 => (hf2 k (by omega) h6 (hne k (by omega) h7)).trans (by rw [upd_not (by omega)]; exact h4 k h5 h6 h7)⟩
  rcases hj2 with rfl | h
  · exact hj'
  · exact .inr (by omega)
theorem PS.post (h : PS σ n i j ob τ n' l) (n0 : Nat) (σ0 : Hp) (hn : n0 ≤ n + 16) (hs : ∀ k, k < n0 → k ≠ i → k ≠ j → k < n ∧ σ k = σ0 k) : BPost σ0 n0 i j l (.ret (.tp [])) (.ret (.tp [])) τ n' := by
  obtain ⟨h1, ⟨j', hj', hb⟩, h3, h4⟩ := h
  exact ⟨rfl, j', hj'.imp (fun h => h) (fun h => by omega), hb, fun k h5 h6 h7 => (h4 k (hs k h5 h6 h7).1 h6 h7).trans (hs k h5 h6 h7).2⟩
end
theorem PS.start {σ : Hp} {n i j : Nat} {l : Tx} (hb : BldS σ n i j l) (ob : Ob) : PS σ n i j ob (upd σ n (some ob)) (n + 16) l :=
  ⟨Nat.le_refl _, ⟨j, .inl rfl, hb.up (by omega) (fun k hk => upd_not (by omega))⟩, upd_is rfl, fun k hk _ _ => upd_not (by omega)⟩
set_option maxHeartbeats 4000000 in
theorem create_conH (x : Sm) (hb : SBd x) (hk : SOk x) (σ : Hp) (n i j : Nat) (h : BldS σ n i j []) : ConH Tryz.prog 39 [.rt i 2 PRT, .ag (encSm x)] σ n (BPost σ n i j (createT x) (.ret (.tp []))) := by
  refine by_psyntax_printer_create ?_
  have hi := h.lt
  have hj := h.jlt
  generalize hR : BPost σ n i j (createT x) (.ret (.tp [])) = R
  have HR := Lib.hid hR; clear hR
  have hl2 := joinT_le2 colT x.columns [32, 40] 1048600 8 (fun c hc => by
    have h1 := hb.col c hc
    have h2 := hk.col c hc
    have h3 : ∀ m : Nat, (([[32, 73, 78, 84], [32, 66, 79, 79, 76], [32, 84, 69, 88, 84]] : List Tx).getD m []).length ≤ 5 := fun m => by
      match m with
      | 0 => decide
      | 1 => decide
      | 2 => decide
      | m + 3 => simp
    have h4 := h3 (c.kind - 1).toNat
    unfold colT
    split <;> simp only [List.length_append, List.length_cons, List.length_nil] <;> omega) hk.cols
  have e1 := hb.table; have e3 := hb.key
  rw [sh_psyntax_printer_create]
  change bindS (some (.rf n 14 0 0, [(n, some (Ob.c ⟨14, [encSm x], true, false⟩))])) _ _ _
  rw [bindS_some]
  simp only [applyW_cons, applyW_nil]
  have P := PS.start h (.c ⟨14, [encSm x], true, false⟩)
  generalize upd σ n _ = τ at P
  rw [aFad_rf, bindP_some, ld_box P.box rfl, bindP_some]
  change bindS (some (.ow _ 1 0 2, [(_, some (Ob.c ⟨1, txRows [[67, 82, 69, 65, 84, 69, 32, 84, 65, 66, 76, 69, 32], x.table], true, true⟩))])) _ _ _
  rw [bindS_some]
  refine P.put hi hj [[67, 82, 69, 65, 84, 69, 32, 84, 65, 66, 76, 69, 32], x.table] (by simp; omega) (by simp) (fun τ1 n1 P1 => ?_)
  clear P
  rw [kc_psyntax_printer_create3, onEnd_ret, aFad_rf, bindP_some, ld_box P1.box rfl, bindP_some]
  refine P1.call hi hj (fun j' hb' => listC_conH _ colT i j' _ [32, 40] x.columns _ _ hb' (fun c hc => colT_con c (hk.col c hc) (hb.col c hc)) (by simp at hl2 ⊢; omega) hb.cols) (fun τ2 n2 P2 => ?_)
  clear P1
  rw [kc_psyntax_printer_create2, onEnd_ret, aFad_rf, bindP_some, ld_box P2.box rfl, bindP_some]
  change bindS (some (.ow _ 1 0 3, [(_, some (Ob.c ⟨1, txRows [[44, 32, 80, 82, 73, 77, 65, 82, 89, 32, 75, 69, 89, 32, 40], x.key, [41, 41]], true, true⟩))])) _ _ _
  rw [bindS_some]
  refine P2.put hi hj [[44, 32, 80, 82, 73, 77, 65, 82, 89, 32, 75, 69, 89, 32, 40], x.key, [41, 41]] (by simp at hl2 ⊢; omega) (by simp) (fun τ3 n3 P3 => ?_)
  rw [kc_psyntax_printer_create1, onEnd_ret, ← HR.out]
  have := P3.post n σ (by omega) (fun k h1 _ _ => ⟨h1, rfl⟩)
  have e : createT x = [] ++ [[67, 82, 69, 65, 84, 69, 32, 84, 65, 66, 76, 69, 32], x.table].flatten ++ joinT [32, 40] (x.columns.map colT) ++ [[44, 32, 80, 82, 73, 77, 65, 82, 89, 32, 75, 69, 89, 32, 40], x.key, [41, 41]].flatten := by simp [createT]
  rw [e]; exact this
theorem smBrw0 (σ : Hp) (d : Nat) (x : Sm) : brwL σ d (encSm x) = some (encSm x, []) := by
  simp only [encSm, brwL_cons, brwL_nil, brw_ag, brw_sc, brw_tr, brw_s, List.append_nil, Option.map_some, List.nil_append]
theorem in_items (x : Sm) : x.items ∈ listsF x := by unfold listsF; simp
theorem in_on (x : Sm) : x.on ∈ listsF x := by unfold listsF; simp
theorem in_where (x : Sm) : x.where_ ∈ listsF x := by unfold listsF; simp
theorem in_group (x : Sm) : x.group ∈ listsF x := by unfold listsF; simp
theorem in_rows {x : Sm} {l : List Ep} (h : l ∈ x.rows) : l ∈ listsF x := by unfold listsF; simp [h]
theorem in_sets {x : Sm} {s : Se} (h : s ∈ x.sets) : [s.ex] ∈ listsF x := by
  simp only [listsF, List.mem_append, List.mem_map]
  exact .inr (.inl ⟨s, h, rfl⟩)
theorem PS.exprs {σ τ : Hp} {n i j n' : Nat} {ob : Ob} {l head : Tx} {K : AEnd → Hp → Nat → Prop} (hi : i < n) (hj : j < n) (h : PS σ n i j ob τ n' l) (xs : List Ep) (hb : LBd xs) (hr : ∀ e ∈ xs, Rg e) (hk : ∀ e ∈ xs, OKk 12 e) (hlen : (l ++ joinT head (xs.map printF)).length ≤ 140737488355328)
    (hK : ∀ τ2 n2, PS σ n i j ob τ2 n2 (l ++ joinT head (xs.map printF)) → K (.ret (.tp [])) τ2 n2) : CALL Tryz.prog (.fn 43 []) [.rt i 2 PRT, .s head, .tr (xs.map encE), .fn 44 []] τ n' K :=
  h.call hi hj (fun j' hb' => listE_conH 44 printF i j' l head xs τ n' hb' (fun e he => printed_con 12 e (by omega) (hk e he) (hb.bd e he) (hr e he)) hlen hb.len) hK
theorem exprs_len {xs : List Ep} (head : Tx) (k : Nat) (hb : LBd xs) (hk : ∀ e ∈ xs, OKk 12 e) (hl : xs.length ≤ k) : (joinT head (xs.map printF)).length ≤ head.length + k * 16383999902 :=
  joinT_le2 printF xs head 16383999900 k (fun e he => pf_len (hk e he) (hb.bd e he)) hl
set_option maxHeartbeats 4000000 in
theorem query_conH (x : Sm) (hb : SBd x) (hg : SRg x) (hk : SOk x) (σ : Hp) (n i j : Nat) (h : BldS σ n i j []) : ConH Tryz.prog 47 [.rt i 2 PRT, .ag (encSm x)] σ n (BPost σ n i j (queryT x) (.ret (.tp []))) := by
  refine by_psyntax_printer_query ?_
  have hi := h.lt
  have hj := h.jlt
  generalize hR : BPost σ n i j (queryT x) (.ret (.tp [])) = R
  have HR := Lib.hid hR; clear hR
  have l1 := exprs_len [83, 69, 76, 69, 67, 84, 32] 16 hb.items (hk.ok _ (in_items x)) hk.items
  have l2 := exprs_len [32, 79, 78, 32] 1 hb.on (hk.ok _ (in_on x)) hk.on
  have l3 := exprs_len [32, 87, 72, 69, 82, 69, 32] 1 hb.where_ (hk.ok _ (in_where x)) hk.where_
  have l4 := exprs_len [32, 71, 82, 79, 85, 80, 32, 66, 89, 32] 1 hb.group (hk.ok _ (in_group x)) hk.group
  have l5 := joinT_le2 ordT x.order [32, 79, 82, 68, 69, 82, 32, 66, 89, 32] 50 8 (fun o ho => by
    have := decF_len 40 o.n
    unfold ordT
    split <;> simp only [List.length_append, List.length_cons, List.length_nil] <;> omega) hk.order
  have l6 := decF_len 40 x.limit
  have e1 := hb.table; have e3 := hb.join
  simp only [List.length_cons, List.length_nil] at l1 l2 l3 l4 l5
  rw [sh_psyntax_printer_query]
  change bindS (some (.rf n 14 0 0, [(n, some (Ob.c ⟨14, [encSm x], true, false⟩))])) _ _ _
  rw [bindS_some]
  simp only [applyW_cons, applyW_nil]
  have P := PS.start h (.c ⟨14, [encSm x], true, false⟩)
  generalize upd σ n _ = τ at P
  rw [aFad_rf, bindP_some, ld_box P.box rfl, bindP_some]
  refine P.exprs hi hj x.items hb.items hg.items (hk.ok _ (in_items x)) (by simp; omega) (fun τ1 n1 P1 => ?_)
  clear P
  rw [kc_psyntax_printer_query10, onEnd_ret, aFad_rf, bindP_some, ld_box P1.box rfl, bindP_some]
  change bindS (some (.ow _ 1 0 2, [(_, some (Ob.c ⟨1, txRows [[32, 70, 82, 79, 77, 32], x.table], true, true⟩))])) _ _ _
  rw [bindS_some]
  refine P1.put hi hj [[32, 70, 82, 79, 77, 32], x.table] (by simp; omega) (by simp) (fun τ2 n2 P2 => ?_)
  clear P1
  rw [kc_psyntax_printer_query9, onEnd_ret, aFad_rf, JOIN_eq, bindP_some, ld_box P2.box rfl, bindP_some]
  have rest : ∀ (s : List AV) (τ3 : Hp) (n3 : Nat), PS σ n i j (.c ⟨14, [encSm x], true, false⟩) τ3 n3 ([] ++ joinT [83, 69, 76, 69, 67, 84, 32] (x.items.map printF) ++ [[32, 70, 82, 79, 77, 32], x.table].flatten ++ (if x.join = [] then [] else [32, 74, 79, 73, 78, 32] ++ x.join)) →
      jk_psyntax_printer_query8 (.rf n 14 0 0) (.rt i 2 PRT) R s τ3 n3 := by
    intro s τ3 n3 P3
    have lj : (if x.join = [] then [] else [32, 74, 79, 73, 78, 32] ++ x.join).length ≤ x.join.length + 6 := by split <;> simp
    generalize hjn : (if x.join = [] then [] else [32, 74, 79, 73, 78, 32] ++ x.join) = jn at *
    rw [jk_psyntax_printer_query8, aFad_rf, bindP_some, ld_box P3.box rfl, bindP_some]
    refine P3.exprs hi hj x.on hb.on hg.on (hk.ok _ (in_on x)) (by simp; omega) (fun τ4 n4 P4 => ?_)
    clear P3
    rw [kc_psyntax_printer_query6, onEnd_ret, aFad_rf, bindP_some, ld_box P4.box rfl, bindP_some]
    refine P4.exprs hi hj x.where_ hb.where_ hg.where_ (hk.ok _ (in_where x)) (by simp; omega) (fun τ5 n5 P5 => ?_)
    clear P4
    rw [kc_psyntax_printer_query5, onEnd_ret, aFad_rf, bindP_some, ld_box P5.box rfl, bindP_some]
    refine P5.exprs hi hj x.group hb.group hg.group (hk.ok _ (in_group x)) (by simp; omega) (fun τ6 n6 P6 => ?_)
    clear P5
    rw [kc_psyntax_printer_query4, onEnd_ret, aFad_rf, bindP_some, ld_box P6.box rfl, bindP_some]
    refine P6.call hi hj (fun j' hb' => listO_conH _ ordT i j' _ [32, 79, 82, 68, 69, 82, 32, 66, 89, 32] x.order _ _ hb' (fun o ho => ordT_con o (hk.ord o ho)) (by simp; omega) hb.order) (fun τ7 n7 P7 => ?_)
    clear P6
    have eq : queryT x = [] ++ joinT [83, 69, 76, 69, 67, 84, 32] (x.items.map printF) ++ [[32, 70, 82, 79, 77, 32], x.table].flatten ++ jn ++ joinT [32, 79, 78, 32] (x.on.map printF) ++ joinT [32, 87, 72, 69, 82, 69, 32] (x.where_.map printF)
        ++ joinT [32, 71, 82, 79, 85, 80, 32, 66, 89, 32] (x.group.map printF) ++ joinT [32, 79, 82, 68, 69, 82, 32, 66, 89, 32] (x.order.map ordT) ++ (if 0 ≤ x.limit then [[32, 76, 73, 77, 73, 84, 32], decF 40 x.limit].flatten else []) := by
      rw [queryT, hjn, whereT]; simp
    rw [kc_psyntax_printer_query3, onEnd_ret, aFad_rf, bindP_some, ld_box P7.box rfl, bindP_some, bin_geq, bindP_some]
    by_cases hlm : 0 ≤ x.limit
    · rw [COND_yes hlm, bindP_some, ld_box P7.box rfl, bindP_some]
      refine CALL_con0 (decimal_con 40 19 x.limit (by omega) (by have := hk.limit; omega) (by split <;> omega) (by omega) (by have := hk.limit; unfold rng; omega)) rfl ?_
      rw [kc_psyntax_printer_query2, onEnd_ret]
      change bindS (some (.ow _ 1 0 2, [(_, some (Ob.c ⟨1, txRows [[32, 76, 73, 77, 73, 84, 32], decF 40 x.limit], true, true⟩))])) _ _ _
      rw [bindS_some]
      refine P7.put hi hj [[32, 76, 73, 77, 73, 84, 32], decF 40 x.limit] (by simp; omega) (by simp) (fun τ8 n8 P8 => ?_)
      rw [kc_psyntax_printer_query1, onEnd_ret, ← HR.out, eq, if_pos hlm]
      exact P8.post n σ (by omega) (fun k h1 _ _ => ⟨h1, rfl⟩)
    · rw [COND_no hlm, ← HR.out, eq, if_neg hlm, List.append_nil]
      exact P7.post n σ (by omega) (fun k h1 _ _ => ⟨h1, rfl⟩)
  have HRest := Lib.hid rest; clear rest
  by_cases hjn : x.join = []
  · rw [if_pos hjn] at HRest
    rw [binS_neq, bindP_some, show (!decide (x.join = [])) = false by simp [hjn], COND_false]
    exact HRest.out _ _ _ (by rw [List.append_nil]; exact P2)
  · rw [if_neg hjn] at HRest
    rw [binS_neq, bindP_some, show (!decide (x.join = [])) = true by simp [hjn], COND_true, bindP_some, ld_box P2.box rfl, bindP_some]
    change bindS (some (.ow _ 1 0 2, [(_, some (Ob.c ⟨1, txRows [[32, 74, 79, 73, 78, 32], x.join], true, true⟩))])) _ _ _
    rw [bindS_some]
    refine P2.put hi hj [[32, 74, 79, 73, 78, 32], x.join] (by simp; omega) (by simp) (fun τ3 n3 P3 => ?_)
    rw [kc_psyntax_printer_query7, onEnd_ret]
    exact HRest.out _ _ _ (by simpa using P3)
theorem rows_len {x : Sm} (hb : SBd x) (hk : SOk x) : (joinT [32, 86, 65, 76, 85, 69, 83, 32] (x.rows.map rowT)).length ≤ 8 + 16 * 140000000002 :=
  joinT_le2 rowT x.rows [32, 86, 65, 76, 85, 69, 83, 32] 140000000000 16 (fun l hl => by
    have := exprs_len [40] 8 (hb.row l hl) (hk.ok _ (in_rows hl)) (hk.row l hl).2
    simp only [List.length_cons, List.length_nil] at this
    unfold rowT
    simp only [List.length_append, List.length_cons, List.length_nil]
    omega) hk.rows
theorem sets_len {x : Sm} (hb : SBd x) (hk : SOk x) : (joinT [32, 83, 69, 84, 32] (x.sets.map setT)).length ≤ 5 + 8 * 20000000002 :=
  joinT_le2 setT x.sets [32, 83, 69, 84, 32] 20000000000 8 (fun s hs => by
    have := pf_len (hk.ok _ (in_sets hs) s.ex (by simp)) (hb.set s hs).2
    have h2 := (hb.set s hs).1
    unfold setT
    simp only [List.length_append, List.length_cons, List.length_nil]
    omega) hk.sets
set_option maxHeartbeats 4000000 in
theorem stmt_conH (x : Sm) (hb : SBd x) (hg : SRg x) (hk : SOk x) (σ : Hp) (n i j : Nat) (h : BldS σ n i j []) : ConH Tryz.prog 16 [.rt i 2 PRT, .ag (encSm x)] σ n (BPost σ n i j (stmtT x) (.ret (.tp []))) := by
  refine by_psyntax_printer_stmt ?_
  have hi := h.lt
  have hj := h.jlt
  generalize hR : BPost σ n i j (stmtT x) (.ret (.tp [])) = R
  have HR := Lib.hid hR; clear hR
  have l3 := exprs_len [32, 87, 72, 69, 82, 69, 32] 1 hb.where_ (hk.ok _ (in_where x)) hk.where_
  have l4 := rows_len hb hk
  have l5 := sets_len hb hk
  have e1 := hb.table; have e2 := hb.key; have e3 := hb.index
  simp only [List.length_cons, List.length_nil] at l3
  have hT : stmtT x = if x.kind = 1 then createT x
    else if x.kind = 2 then [67, 82, 69, 65, 84, 69, 32, 73, 78, 68, 69, 88, 32] ++ x.index ++ [32, 79, 78, 32] ++ x.table ++ [32, 40] ++ x.key ++ [41]
    else if x.kind = 3 then [68, 82, 79, 80, 32, 84, 65, 66, 76, 69, 32] ++ x.table
    else if x.kind = 4 then [73, 78, 83, 69, 82, 84, 32, 73, 78, 84, 79, 32] ++ x.table ++ joinT [32, 86, 65, 76, 85, 69, 83, 32] (x.rows.map rowT)
    else if x.kind = 5 then [85, 80, 68, 65, 84, 69, 32] ++ x.table ++ joinT [32, 83, 69, 84, 32] (x.sets.map setT) ++ whereT x
    else if x.kind = 6 then [68, 69, 76, 69, 84, 69, 32, 70, 82, 79, 77, 32] ++ x.table ++ whereT x
    else if x.kind = 7 then queryT x
    else ([[66, 69, 71, 73, 78], [67, 79, 77, 77, 73, 84], [82, 79, 76, 76, 66, 65, 67, 75]] : List Tx).getD (x.kind - 8).toNat [] := rfl
  have fin : ∀ (τ : Hp) (n' : Nat) (l : Tx), PS σ n i j (.c ⟨14, [encSm x], true, false⟩) τ n' l → l = stmtT x → R (.ret (.tp [])) τ n' := by
    rintro τ n' l P rfl
    rw [← HR.out]
    exact P.post n σ (by omega) (fun k h1 _ _ => ⟨h1, rfl⟩)
  rw [sh_psyntax_printer_stmt]
  change bindS (some (.rf n 14 0 0, [(n, some (Ob.c ⟨14, [encSm x], true, false⟩))])) _ _ _
  rw [bindS_some]
  simp only [applyW_cons, applyW_nil]
  have P := PS.start h (.c ⟨14, [encSm x], true, false⟩)
  generalize upd σ n _ = τ at P
  have hld14 : aLd τ (some 14) (.rf n 14 0 0) = some (.ag (encSm x)) := by simp [aLd, P.box, Am.part, encSm]
  rw [aFad_rf, bindP_some, ld_box P.box rfl, bindP_some, bindP_eqI]
  by_cases k1 : x.kind = 1
  · rw [if_pos k1] at hT
    rw [COND_yes k1, hld14, bindP_some]
    refine P.call hi hj (fun j' hb' => create_conH x hb hk _ _ i j' hb') (fun τ2 n2 P2 => ?_)
    rw [kc_psyntax_printer_stmt1, onEnd_ret]
    exact fin _ _ _ P2 hT.symm
  rw [if_neg k1] at hT
  rw [COND_no k1, bindP_eqI]
  by_cases k2 : x.kind = 2
  · rw [if_pos k2] at hT
    rw [COND_yes k2]
    simp only [aFad_rf, bindP_some, Nat.zero_add]
    rw [show aLd τ none (.rf n 14 0 4) = some (.s x.index) from ld_box P.box rfl, bindP_some, show aLd τ none (.rf n 14 0 1) = some (.s x.table) from ld_box P.box rfl, bindP_some, show aLd τ none (.rf n 14 0 3) = some (.s x.key) from ld_box P.box rfl, bindP_some]
    change bindS (some (.ow _ 1 0 7, [(_, some (Ob.c ⟨1, txRows [[67, 82, 69, 65, 84, 69, 32, 73, 78, 68, 69, 88, 32], x.index, [32, 79, 78, 32], x.table, [32, 40], x.key, [41]], true, true⟩))])) _ _ _
    rw [bindS_some]
    refine P.put hi hj [[67, 82, 69, 65, 84, 69, 32, 73, 78, 68, 69, 88, 32], x.index, [32, 79, 78, 32], x.table, [32, 40], x.key, [41]] (by simp; omega) (by simp) (fun τ2 n2 P2 => ?_)
    rw [kc_psyntax_printer_stmt2, onEnd_ret]
    exact fin _ _ _ P2 (by rw [hT]; simp)
  rw [if_neg k2] at hT
  rw [COND_no k2, bindP_eqI]
  by_cases k3 : x.kind = 3
  · rw [if_pos k3] at hT
    rw [COND_yes k3]
    simp only [aFad_rf, bindP_some, Nat.zero_add]
    rw [show aLd τ none (.rf n 14 0 1) = some (.s x.table) from ld_box P.box rfl, bindP_some]
    change bindS (some (.ow _ 1 0 2, [(_, some (Ob.c ⟨1, txRows [[68, 82, 79, 80, 32, 84, 65, 66, 76, 69, 32], x.table], true, true⟩))])) _ _ _
    rw [bindS_some]
    refine P.put hi hj [[68, 82, 79, 80, 32, 84, 65, 66, 76, 69, 32], x.table] (by simp; omega) (by simp) (fun τ2 n2 P2 => ?_)
    rw [kc_psyntax_printer_stmt3, onEnd_ret]
    exact fin _ _ _ P2 (by rw [hT]; simp)
  rw [if_neg k3] at hT
  rw [COND_no k3, bindP_eqI]
  by_cases k4 : x.kind = 4
  · rw [if_pos k4] at hT
    rw [COND_yes k4]
    simp only [aFad_rf, bindP_some, Nat.zero_add]
    rw [show aLd τ none (.rf n 14 0 1) = some (.s x.table) from ld_box P.box rfl, bindP_some]
    change bindS (some (.ow _ 1 0 2, [(_, some (Ob.c ⟨1, txRows [[73, 78, 83, 69, 82, 84, 32, 73, 78, 84, 79, 32], x.table], true, true⟩))])) _ _ _
    rw [bindS_some]
    refine P.put hi hj [[73, 78, 83, 69, 82, 84, 32, 73, 78, 84, 79, 32], x.table] (by simp; omega) (by simp) (fun τ2 n2 P2 => ?_)
    rw [kc_psyntax_printer_stmt5, onEnd_ret, aFad_rf, bindP_some, ld_box P2.box rfl, bindP_some]
    refine P2.call hi hj (fun j' hb' => listR_conH _ rowT i j' _ [32, 86, 65, 76, 85, 69, 83, 32] x.rows _ _ hb' (fun l hl => rowT_con l (hk.row l hl) (hb.row l hl) (hg.row l hl) (hk.ok _ (in_rows hl))) (by simp at l4 ⊢; omega) hb.rows) (fun τ3 n3 P3 => ?_)
    rw [kc_psyntax_printer_stmt4, onEnd_ret]
    exact fin _ _ _ P3 (by rw [hT]; simp)
  rw [if_neg k4] at hT
  rw [COND_no k4, bindP_eqI]
  by_cases k5 : x.kind = 5
  · rw [if_pos k5] at hT
    rw [COND_yes k5]
    simp only [aFad_rf, bindP_some, Nat.zero_add]
    rw [show aLd τ none (.rf n 14 0 1) = some (.s x.table) from ld_box P.box rfl, bindP_some]
    change bindS (some (.ow _ 1 0 2, [(_, some (Ob.c ⟨1, txRows [[85, 80, 68, 65, 84, 69, 32], x.table], true, true⟩))])) _ _ _
    rw [bindS_some]
    refine P.put hi hj [[85, 80, 68, 65, 84, 69, 32], x.table] (by simp; omega) (by simp) (fun τ2 n2 P2 => ?_)
    rw [kc_psyntax_printer_stmt8, onEnd_ret, aFad_rf, bindP_some, ld_box P2.box rfl, bindP_some]
    refine P2.call hi hj (fun j' hb' => listS_conH _ setT i j' _ [32, 83, 69, 84, 32] x.sets _ _ hb' (fun s hs => setT_con s (hk.ok _ (in_sets hs) s.ex (by simp)) (hb.set s hs).2 (hg.set s hs) (hb.set s hs).1) (by simp at l5 ⊢; omega) hb.sets) (fun τ3 n3 P3 => ?_)
    rw [kc_psyntax_printer_stmt7, onEnd_ret, aFad_rf, bindP_some, ld_box P3.box rfl, bindP_some]
    refine P3.exprs hi hj x.where_ hb.where_ hg.where_ (hk.ok _ (in_where x)) (by simp at l5 ⊢; omega) (fun τ4 n4 P4 => ?_)
    rw [kc_psyntax_printer_stmt6, onEnd_ret]
    exact fin _ _ _ P4 (by rw [hT, whereT]; simp)
  rw [if_neg k5] at hT
  rw [COND_no k5, bindP_eqI]
  by_cases k6 : x.kind = 6
  · rw [if_pos k6] at hT
    rw [COND_yes k6]
    simp only [aFad_rf, bindP_some, Nat.zero_add]
    rw [show aLd τ none (.rf n 14 0 1) = some (.s x.table) from ld_box P.box rfl, bindP_some]
    change bindS (some (.ow _ 1 0 2, [(_, some (Ob.c ⟨1, txRows [[68, 69, 76, 69, 84, 69, 32, 70, 82, 79, 77, 32], x.table], true, true⟩))])) _ _ _
    rw [bindS_some]
    refine P.put hi hj [[68, 69, 76, 69, 84, 69, 32, 70, 82, 79, 77, 32], x.table] (by simp; omega) (by simp) (fun τ2 n2 P2 => ?_)
    rw [kc_psyntax_printer_stmt10, onEnd_ret, aFad_rf, bindP_some, ld_box P2.box rfl, bindP_some]
    refine P2.exprs hi hj x.where_ hb.where_ hg.where_ (hk.ok _ (in_where x)) (by simp; omega) (fun τ4 n4 P4 => ?_)
    rw [kc_psyntax_printer_stmt9, onEnd_ret]
    exact fin _ _ _ P4 (by rw [hT, whereT]; simp)
  rw [if_neg k6] at hT
  rw [COND_no k6, bindP_eqI]
  by_cases k7 : x.kind = 7
  · rw [if_pos k7] at hT
    rw [COND_yes k7, hld14, bindP_some]
    refine P.call hi hj (fun j' hb' => query_conH x hb hg hk _ _ i j' hb') (fun τ2 n2 P2 => ?_)
    rw [kc_psyntax_printer_stmt11, onEnd_ret]
    exact fin _ _ _ P2 hT.symm
  rw [if_neg k7] at hT
  rw [COND_no k7]
  have hkk : x.kind = 8 ∨ x.kind = 9 ∨ x.kind = 10 := by have := hk.kind1; have := hk.kind10; omega
  have last : ∀ (t : Tx), t.length ≤ 20 → stmtT x = t → CALL Tryz.prog (.fn 40 []) [.rt i 2 PRT, .ow (n + 16) 1 0 1] (applyW τ [(n + 16, some (.c ⟨1, txRows [t], true, true⟩))]) (n + 16 + 16) (kc_psyntax_printer_stmt12 R) := by
    intro t ht he
    refine P.put hi hj [t] (by simp; omega) (by simp) (fun τ2 n2 P2 => ?_)
    rw [kc_psyntax_printer_stmt12, onEnd_ret]
    exact fin _ _ _ P2 (by rw [he]; simp)
  have HLast := Lib.hid last; clear last
  have hB : aBuild [(.string ⟨#[]⟩), (.string ⟨#[]⟩), (.string ⟨#[]⟩)] [(0, 1, (.s [66, 69, 71, 73, 78])), (1, 1, (.s [67, 79, 77, 77, 73, 84])), (2, 1, (.s [82, 79, 76, 76, 66, 65, 67, 75]))] = some (.ag [.s [66, 69, 71, 73, 78], .s [67, 79, 77, 77, 73, 84], .s [82, 79, 76, 76, 66, 65, 67, 75]]) := by rfl
  rw [hB, bindP_some, bindP_some, ld_box P.box rfl, bindP_some]
  rcases hkk with hkk | hkk | hkk
  · rw [hkk] at hT ⊢
    rw [show semBin .sub (.sc (.int .i64 8)) (.sc (.int .i64 8)) = some (.sc (.int .i64 0)) from by kernel_rfl, bindP_some, show aIarr none 1 3 (.ag [AV.s [66, 69, 71, 73, 78], AV.s [67, 79, 77, 77, 73, 84], AV.s [82, 79, 76, 76, 66, 65, 67, 75]]) (.sc (.int .i64 0)) = some (.s [66, 69, 71, 73, 78]) from by kernel_rfl, bindP_some]
    change bindS (some (.ow _ 1 0 1, [(_, some (Ob.c ⟨1, txRows [[66, 69, 71, 73, 78]], true, true⟩))])) _ _ _
    rw [bindS_some]
    exact HLast.out _ (by decide) hT
  · rw [hkk] at hT ⊢
    rw [show semBin .sub (.sc (.int .i64 9)) (.sc (.int .i64 8)) = some (.sc (.int .i64 1)) from by kernel_rfl, bindP_some, show aIarr none 1 3 (.ag [AV.s [66, 69, 71, 73, 78], AV.s [67, 79, 77, 77, 73, 84], AV.s [82, 79, 76, 76, 66, 65, 67, 75]]) (.sc (.int .i64 1)) = some (.s [67, 79, 77, 77, 73, 84]) from by kernel_rfl, bindP_some]
    change bindS (some (.ow _ 1 0 1, [(_, some (Ob.c ⟨1, txRows [[67, 79, 77, 77, 73, 84]], true, true⟩))])) _ _ _
    rw [bindS_some]
    exact HLast.out _ (by decide) hT
  · rw [hkk] at hT ⊢
    rw [show semBin .sub (.sc (.int .i64 10)) (.sc (.int .i64 8)) = some (.sc (.int .i64 2)) from by kernel_rfl, bindP_some, show aIarr none 1 3 (.ag [AV.s [66, 69, 71, 73, 78], AV.s [67, 79, 77, 77, 73, 84], AV.s [82, 79, 76, 76, 66, 65, 67, 75]]) (.sc (.int .i64 2)) = some (.s [82, 79, 76, 76, 66, 65, 67, 75]) from by kernel_rfl, bindP_some]
    change bindS (some (.ow _ 1 0 1, [(_, some (Ob.c ⟨1, txRows [[82, 79, 76, 76, 66, 65, 67, 75]], true, true⟩))])) _ _ _
    rw [bindS_some]
    exact HLast.out _ (by decide) hT
def psF (x : Sm) : Tx × Int := if checkF x = 0 then (stmtT x, 0) else ([], checkF x)
theorem stmt_len {x : Sm} (hb : SBd x) (hk : SOk x) : (stmtT x).length ≤ 100000000000000 := by
  have l1 := exprs_len [83, 69, 76, 69, 67, 84, 32] 16 hb.items (hk.ok _ (in_items x)) hk.items
  have l2 := exprs_len [32, 79, 78, 32] 1 hb.on (hk.ok _ (in_on x)) hk.on
  have l3 := exprs_len [32, 87, 72, 69, 82, 69, 32] 1 hb.where_ (hk.ok _ (in_where x)) hk.where_
  have l4 := exprs_len [32, 71, 82, 79, 85, 80, 32, 66, 89, 32] 1 hb.group (hk.ok _ (in_group x)) hk.group
  have l5 := joinT_le2 ordT x.order [32, 79, 82, 68, 69, 82, 32, 66, 89, 32] 50 8 (fun o ho => by
    have := decF_len 40 o.n
    unfold ordT
    split <;> simp only [List.length_append, List.length_cons, List.length_nil] <;> omega) hk.order
  have l6 := decF_len 40 x.limit
  have l7 := rows_len hb hk
  have l8 := sets_len hb hk
  have l9 := joinT_le2 colT x.columns [32, 40] 1048600 8 (fun c hc => by
    have h1 := hb.col c hc
    have h3 : ∀ m : Nat, (([[32, 73, 78, 84], [32, 66, 79, 79, 76], [32, 84, 69, 88, 84]] : List Tx).getD m []).length ≤ 5 := fun m => by
      match m with
      | 0 => decide
      | 1 => decide
      | 2 => decide
      | m + 3 => simp
    have h4 := h3 (c.kind - 1).toNat
    unfold colT
    split <;> simp only [List.length_append, List.length_cons, List.length_nil] <;> omega) hk.cols
  have e1 := hb.table; have e2 := hb.key; have e3 := hb.index; have e4 := hb.join
  have h3 : ∀ m : Nat, (([[66, 69, 71, 73, 78], [67, 79, 77, 77, 73, 84], [82, 79, 76, 76, 66, 65, 67, 75]] : List Tx).getD m []).length ≤ 8 := fun m => by
    match m with
    | 0 => decide
    | 1 => decide
    | 2 => decide
    | m + 3 => simp
  have h4 := h3 (x.kind - 8).toNat
  simp only [List.length_cons, List.length_nil] at l1 l2 l3 l4 l5 l9
  unfold stmtT createT queryT whereT
  repeat' split
  all_goals (first | omega | (simp only [List.length_append, List.length_cons, List.length_nil]; omega))
theorem stmt_ne {x : Sm} (hk : SOk x) : stmtT x ≠ [] := by
  unfold stmtT createT queryT
  repeat' split
  all_goals try simp
  · rename_i h1 h2 h3 h4 h5 h6 h7
    have hkk : x.kind = 8 ∨ x.kind = 9 ∨ x.kind = 10 := by have := hk.kind1; have := hk.kind10; omega
    rcases hkk with hkk | hkk | hkk <;> rw [hkk] <;> decide
set_option maxHeartbeats 2000000 in
theorem print_con (x : Sm) (hb : SBd x) (hg : SRg x) : Con Tryz.prog 5 [.ag (encSm x)] (.ret (.tp [.s (psF x).1, .sc (.int .i64 (psF x).2)])) := by
  refine con_of (by_syntax_Print ?_)
  generalize hR : RC _ = R
  have HR := Lib.hid hR; clear hR
  have HC := Lib.hid (check_con x hb)
  have hP : psF x = if checkF x = 0 then (stmtT x, 0) else ([], checkF x) := rfl
  rw [sh_syntax_Print]
  change bindS (some (.rf 0 14 0 0, [(0, some (Ob.c ⟨14, [encSm x], true, false⟩))])) _ _ _
  rw [bindS_some]
  simp only [applyW_cons, applyW_nil]
  generalize hτ : upd (fun _ => none) 0 (some (Ob.c ⟨14, [encSm x], true, false⟩)) = τ
  have hbox : τ 0 = some (.c ⟨14, [encSm x], true, false⟩) := by rw [← hτ]; exact upd_is rfl
  clear hτ
  have hld14 : ∀ ρ : Hp, ρ 0 = some (.c ⟨14, [encSm x], true, false⟩) → aLd ρ (some 14) (.rf 0 14 0 0) = some (.ag (encSm x)) := fun ρ h => by simp [aLd, h, Am.part, encSm]
  rw [hld14 τ hbox, bindP_some]
  refine CALL_con0 HC.out (by simp only [List.append_nil, brwL_cons, brwL_nil, brw_ag, smBrw0, Option.map_some]) ?_
  rw [kc_syntax_Print3, onEnd_ret, bin_neq, bindP_some]
  by_cases h0 : checkF x = 0
  · have hk := checkF_ok x h0
    rw [if_pos h0] at hP
    rw [show (!decide (checkF x = 0)) = false by simp [h0], COND_false]
    change bindS (some (.rt 16 2 PRT, [(16, some (Ob.c ⟨2, [[.sc (.pointer none), .em]], true, false⟩))])) _ _ _
    rw [bindS_some]
    simp only [applyW_cons, applyW_nil]
    rw [hld14 _ (by rw [upd_not (by omega)]; exact hbox), bindP_some]
    refine CALL_conH (caps := []) (stmt_conH x hb hg hk _ _ 16 16 (bld_new τ 16)) ?_
    rintro r ρ n' ⟨rfl, j', hj', hbl, hfr⟩ hn'
    rw [kc_syntax_Print2, onEnd_ret, aFad_rt, if_pos rfl, bindP_some]
    refine CALL_str hbl (stmt_ne hk) (by have := stmt_len hb hk; omega) (fun ρ2 n2 hn2 hρ => ?_)
    rw [kc_syntax_Print1, onEnd_ret, ← HR.out, hP]
    exact RC_ret rfl rfl
  · rw [if_neg h0] at hP
    rw [show (!decide (checkF x = 0)) = true by simp [h0], COND_true, ← HR.out, hP]
    exact RC_ret rfl rfl
end Go.Proofs.YtodoejfkjimeaaaGreatDoor

set_option linter.unusedSimpArgs false
set_option linter.unusedVariables false
set_option maxRecDepth 100000
namespace Go.Proofs.YtodoejfkjimeaaaGreatDoor
open Go Go.RowKit Am
attribute [-go_sem] guardP_if guardK_if guardD_if COND_bool
attribute [local go_sem low] guardP_if guardK_if guardD_if COND_bool
attribute [local go_sem] wrapI wrapB upd_is upd_not Nat.zero_add Nat.add_zero
attribute [local go_sem_proc] Nat.reduceAdd Nat.reduceSub Nat.reduceMul Nat.reduceLeDiff Nat.reduceEqDiff Int.reduceAdd Int.reduceSub Int.reduceMul Int.reduceNeg Int.reduceLT Int.reduceLE Int.reduceEq Int.reduceToNat reduceCtorEq reduceIte
theorem aCvb_one {σ : Hp} {i : Nat} {x : Int} {w : Bool} (h : σ i = some (.c ⟨1, [[.sc (.int .u8 x)]], w, true⟩)) : aCvb σ (.ow i 1 0 1) = some (.s [UInt8.ofNat x.toNat]) :=
  aCvb_all (f := id) (l := [x]) h rfl (by decide)
theorem rfDecimal_con (n0 : Int) (hr : rng n0) : Con Tryz.prog 49 [.sc (.int .i64 n0)] (.ret (.s (decF 40 n0))) := by
  refine con_of (by_ref04_Decimal ?_)
  generalize hR : RC _ = R
  have HR := Lib.hid hR; clear hR
  have HD := Lib.hid (dec40 hr)
  unfold rng at hr
  rw [sh_ref04_Decimal]
  refine LOOP_up 20 (fun i s σ n => ∃ x0 x1 x2 t m, s = [x0, x1, x2, .s t, .sc (.int .i64 m)] ∧ t.length = i ∧ m.natAbs < 10 ^ (20 - i) ∧ (-9223372036854775808 ≤ m ∧ m ≤ 9223372036854775807) ∧ contF (39 - i) m t = digF 39 n0) (.refl ⟨_, _, _, _, _, rfl, rfl, ?_, hr, ?_⟩) ?_
  · have : (10 : Nat) ^ (20 - 0) = 100000000000000000000 := by decide
    rw [this]; omega
  · rw [contF, if_neg (by simp), List.append_nil]
  · rintro i K s σ n hn hi - ⟨x0, x1, x2, t, m, rfl, ht, hm, hmr, hc⟩ hK
    have HK := Lib.hid hK; clear hK
    obtain ⟨h1, h2, h3, h4, h5⟩ := tq m
    have HC := Lib.hid hc; clear hc
    have hme : m = 0 ∧ t ≠ [] ∨ ¬ (m = 0 ∧ t ≠ []) := Classical.em _
    rcases hme with ⟨hm0, htn⟩ | hme
    · have hfin : t = digF 39 n0 := by
        have h := HC.out
        rw [contF, if_pos ⟨hm0, htn⟩] at h; exact h
      clear HC h1 h2 h3 h4 h5 hm HK
      subst hm0
      have HF := Lib.hid hfin; clear hfin
      have hl : t.length ≤ 9223372036854775806 := by omega
      by_cases hneg : n0 < 0
      · rw [if_pos hneg] at HD
        simp (maxSteps:=1000000) (disch:=omega) only [lb_ref04_Decimal3,decide_true,decide_false,List.getD_cons_succ,List.getD_cons_zero,go_sem, *]
        rw [if_pos (by omega), bindP_some, ← HR.out]
        exact RC_ret rfl (by rw [HD.out, ← HF.out]; rfl)
      · rw [if_neg hneg] at HD
        simp (maxSteps:=1000000) (disch:=omega) only [lb_ref04_Decimal3,decide_true,decide_false,List.getD_cons_succ,List.getD_cons_zero,go_sem, *]
        rw [← HR.out]
        exact RC_ret rfl (by rw [HD.out, ← HF.out]; rfl)
    · have hi2 : i < 20 := by
        rcases Nat.lt_or_ge i 20 with h | h
        · exact h
        · have e : 20 - i = 0 := by omega
          rw [e, Nat.pow_zero] at hm
          exact absurd ⟨by omega, fun h => by rw [h] at ht; simp at ht; omega⟩ hme
      have hst : contF (39 - i) m t = contF (39 - (i + 1)) (m.tdiv 10) (UInt8.ofNat (48 + (m.tmod 10).natAbs) :: t) := by
        have e : 39 - i = (39 - (i + 1)) + 1 := by omega
        rw [e]; exact cont_step hme
      have hlt : (m.tdiv 10).natAbs < 10 ^ (20 - (i + 1)) := tdiv_lt (by
        have e : 20 - i = (20 - (i + 1)) + 1 := by omega
        rw [← e]; exact hm)
      rw [hst] at HC
      clear hst hm
      obtain ⟨q, hq⟩ : ∃ q, m.tdiv 10 = q := ⟨_, rfl⟩
      obtain ⟨d, hd⟩ : ∃ d, m.tmod 10 = d := ⟨_, rfl⟩
      rw [hq] at HC hlt
      rw [hq, hd] at h1
      rw [hd] at h2 h3 h4 h5 HC
      rw [hq] at h4 h5
      have b1 : m ≤ 10 * q + d := by omega
      have b2 : 10 * q + d ≤ m := by omega
      have hqr : -9223372036854775808 ≤ q ∧ q ≤ 9223372036854775807 := by omega
      have HLT := Lib.hid hlt; clear hlt h1
      have hgo : m ≠ 0 ∨ (m = 0 ∧ t = []) := by
        by_cases h0 : m = 0
        · by_cases h1 : t = []
          · exact .inr ⟨h0, h1⟩
          · exact absurd ⟨h0, h1⟩ hme
        · exact .inl h0
      have hl : 1 + t.length ≤ 9223372036854775807 := by omega
      have hnext : ∀ (D : Int), D = (d.natAbs : Int) → ∀ x0 x1 x2, K [x0, x1, x2, .s (UInt8.ofNat (48 + D).toNat :: t), .sc (.int .i64 q)] (upd σ n (some (.c ⟨1, [[.sc (.int .u8 (48 + D))]], true, true⟩))) (n + 16) := by
        rintro D rfl x0 x1 x2
        refine HK.out _ _ _ hi2 (.refl ⟨x0, x1, x2, _, q, rfl, by simp [ht], HLT.out, hqr, ?_⟩)
        have := HC.out
        rw [← digit_eq (d := d) (m := 48 + (d.natAbs : Int)) rfl] at this
        exact this
      have HN := Lib.hid hnext; clear hnext hme ht HK
      clear h4 h5
      rcases hgo with h0 | ⟨h0, ht0⟩
      · have hdd : d < 0 ∨ ¬ d < 0 := Classical.em _
        rcases hdd with hdd | hdd
        · have hn1 := HN.out (0 - d) (by omega); have HN1 := Lib.hid hn1; clear hn1 HN
          have k1 : 0 ≤ 48 + (0 - d) := by omega
          have k2 : 48 + (0 - d) < 256 := by omega
          simp (maxSteps:=1000000) (disch:=omega) only [lb_ref04_Decimal3,decide_true,decide_false,List.getD_cons_succ,List.getD_cons_zero,go_sem, *]
          rw [aCvb_one (upd_is rfl), bindP_some, bindP_add (by simp only [List.length_cons, List.length_nil]; omega)]
          exact HN1.out _ _ _
        · have hn1 := HN.out d (by omega); have HN1 := Lib.hid hn1; clear hn1 HN
          have k1 : 0 ≤ 48 + d := by omega
          have k2 : 48 + d < 256 := by omega
          simp (maxSteps:=1000000) (disch:=omega) only [lb_ref04_Decimal3,decide_true,decide_false,List.getD_cons_succ,List.getD_cons_zero,go_sem, *]
          rw [aCvb_one (upd_is rfl), bindP_some, bindP_add (by simp only [List.length_cons, List.length_nil]; omega)]
          exact HN1.out _ _ _
      · subst h0; subst ht0
        have hdz : d = 0 := by rw [← hd]; rfl
        have hqz : q = 0 := by rw [← hq]; rfl
        subst hdz; subst hqz
        have hn1 := HN.out 0 (by omega); have HN1 := Lib.hid hn1; clear hn1 HN
        simp (maxSteps:=1000000) (disch:=omega) only [lb_ref04_Decimal3,decide_true,decide_false,List.getD_cons_succ,List.getD_cons_zero,go_sem, *]
        rw [aCvb_one (upd_is rfl), bindP_some, bindP_add (by simp only [List.length_cons, List.length_nil]; omega)]
        exact HN1.out _ _ _
theorem rfLiteral_con (kind n : Int) (text : Tx) (h2 : kind = 2 → n = 0 ∨ n = 1) (hr : rng n) (ht : text.length ≤ 1048576) : Con Tryz.prog 48 [.ag [.sc (.int .i64 kind), .sc (.int .i64 n), .s text]] (.ret (.s (litF kind n text))) := by
  refine con_of (by_ref04_Literal ?_)
  generalize hR : RC _ = R
  have HR := Lib.hid hR; clear hR
  have HD := Lib.hid (rfDecimal_con n hr)
  have hl := esc_len text
  clear hr
  by_cases g0 : kind = 0
  · simp (maxSteps:=1000000) (disch:=omega) only [sh_ref04_Literal,decide_true,decide_false,go_sem, *]
    rw [← HR.out]; exact RC_ret rfl (by rw [litF, if_pos g0])
  · by_cases g1 : kind = 1
    · simp (maxSteps:=1000000) (disch:=omega) only [sh_ref04_Literal,decide_true,decide_false,go_sem, *]
      refine CALL_con0 HD.out rfl ?_
      simp (maxSteps:=1000000) (disch:=omega) only [go_sem, *]
      rw [← HR.out]; exact RC_ret rfl (by rw [litF, if_neg g0, if_pos g1])
    · by_cases g2 : kind = 2
      · have c2 : ((2 : Nat) : Int) = 2 := rfl
        rcases h2 g2 with rfl | rfl
        · simp (maxSteps:=1000000) (disch:=omega) only [sh_ref04_Literal,decide_true,decide_false,c2,go_sem, *]
          rw [← HR.out]; exact RC_ret rfl (by rw [litF, if_neg g0, if_neg g1, if_pos g2]; rfl)
        · simp (maxSteps:=1000000) (disch:=omega) only [sh_ref04_Literal,decide_true,decide_false,c2,go_sem, *]
          rw [← HR.out]; exact RC_ret rfl (by rw [litF, if_neg g0, if_neg g1, if_pos g2]; rfl)
      · clear h2
        simp (maxSteps:=1000000) (disch:=omega) only [sh_ref04_Literal,decide_true,decide_false,go_sem, *]
        have he : (39 : UInt8) :: text.flatMap esc ++ [39] = litF kind n text := by rw [litF, if_neg g0, if_neg g1, if_neg g2, replaceAll_esc]; rfl
        have HE := Lib.hid he; clear he
        refine LOOP_list text (fun i st => ∃ x0 x1, st = [x0, x1, .s (39 :: (text.take i).flatMap esc), .sc (.int .i64 i)]) ⟨_, _, rfl⟩ ?_ ?_
        · rintro i x K st n' hx hi hi' hn ⟨x0, x1, rfl⟩ hK
          have HK := Lib.hid hK; clear hK
          have hT := esc_take hx
          have HT := Lib.hid hT; clear hT
          have hlt := esc_len (text.take i)
          rw [List.length_take] at hlt
          have hxx : text[i] = x := (List.getElem?_eq_some_iff.1 hx).2
          have hmin : min i text.length = i := by omega
          generalize (text.take i).flatMap esc = u at *
          have hsub : (if (i : Int) ≤ (i : Int) + 1 ∧ (i : Int) + 1 ≤ (text.length : Int) then some (AV.s (List.drop i (List.take ((i : Int) + 1).toNat text))) else none) = some (.s [x]) := by
            rw [if_pos (by omega), show ((i : Int) + 1).toNat = i + 1 by omega, List.drop_take, List.drop_eq_getElem_cons hi, hxx, show i + 1 - i = 1 by omega]; rfl
          have HS := Lib.hid hsub; clear hsub
          have hKK : ∀ x0 x1, K [x0, x1, .s (39 :: (u ++ esc x)), .sc (.int .i64 ((i : Int) + 1))] _ n' := fun x0 x1 => by
            have h := HK.out [x0, x1, .s (39 :: (u ++ esc x)), .sc (.int .i64 ((i : Int) + 1))] n' (Nat.le_refl _) ⟨x0, x1, ?_⟩
            · exact h
            · rw [HT.out]; rfl
          have HKK := Lib.hid hKK; clear hKK HK HT
          by_cases hb : x = 39
          · simp (maxSteps:=1000000) (disch:=omega) only [lb_ref04_Literal3,decide_true,decide_false,List.getD_cons_succ,List.getD_cons_zero,go_sem, *]
            intro _
            refine ⟨fun _ => ?_, fun h => absurd rfl h⟩
            rw [if_pos (by omega), bindP_some, HS.out, bindP_some, bindP_add (by simp only [List.length_cons, List.length_append, List.length_nil]; omega)]
            have h := HKK.out
            rw [esc, if_pos hb] at h
            simp only [List.cons_append, List.append_assoc, List.nil_append] at h ⊢
            subst hb
            exact h _ _
          · have hbi : ¬ (x.toNat : Int) = 39 := fun h => hb (UInt8.toNat_inj.1 (by have : (39 : UInt8).toNat = 39 := rfl; omega))
            simp (maxSteps:=1000000) (disch:=omega) only [lb_ref04_Literal3,decide_true,decide_false,List.getD_cons_succ,List.getD_cons_zero,go_sem, *]
            intro _
            rw [HS.out, bindP_some, bindP_add (by simp only [List.length_cons, List.length_nil]; omega)]
            have h := HKK.out
            rw [esc, if_neg hb] at h
            exact h _ _
        · rintro K st n' hn ⟨x0, x1, rfl⟩
          rw [List.take_length]
          simp (maxSteps:=1000000) (disch:=omega) only [lb_ref04_Literal3,decide_true,decide_false,List.getD_cons_succ,List.getD_cons_zero,go_sem, *]
          intro _
          rw [if_pos (by omega), bindP_some, ← HR.out]
          exact RC_ret rfl (by rw [← HE.out]; rfl)
end Go.Proofs.YtodoejfkjimeaaaGreatDoor
