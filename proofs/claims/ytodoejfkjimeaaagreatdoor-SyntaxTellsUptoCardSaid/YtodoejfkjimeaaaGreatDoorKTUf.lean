/- Packed by a program of this repo: Uf Do Df Dg Dh Dq Ug Vq. -/
import Derived.Test.YtodoejfkjimeaaaGreatDoorKTUe
import Derived.Test.YtodoejfkjimeaaaGreatDoorKTUb
import Derived.Test.YtodoejfkjimeaaaGreatDoorKTSh6
import Derived.Test.YtodoejfkjimeaaaGreatDoorKTCx
import Derived.Test.YtodoejfkjimeaaaGreatDoorKTDd
import Derived.Test.YtodoejfkjimeaaaGreatDoorKTDj
import Derived.Test.YtodoejfkjimeaaaGreatDoorKTVm
import Derived.Test.YtodoejfkjimeaaaGreatDoorKTSh4b
set_option linter.unusedSimpArgs false
set_option linter.unusedVariables false
set_option maxRecDepth 100000
namespace Go.Proofs.YtodoejfkjimeaaaGreatDoor
open Go Go.RowKit Am
attribute [-go_sem] guardP_if guardK_if guardD_if COND_bool
attribute [local go_sem low] guardP_if guardK_if guardD_if COND_bool
theorem or5 {b c : Bool} {o1 o3 : Option AV} {f2 f4 : AV → Option AV} {f5 : AV → AV → Option AV} {p1 p2 p3 p4 : AV} (h1 : o1 = some p1) (h2 : f2 p1 = some p2) (h3 : o3 = some p3) (h4 : f4 p3 = some p4) (h5 : f5 p2 p4 = some (.sc (.bool c))) (K : AV → Prop) (hK : K (.sc (.bool (b || c)))) :
    guardP (.sc (.bool b)) false o1 fun x1 => guardP (.sc (.bool b)) false (f2 x1) fun x2 => guardP (.sc (.bool b)) false o3 fun x3 => guardP (.sc (.bool b)) false (f4 x3) fun x4 => guardP (.sc (.bool b)) false (f5 x2 x4) fun x5 =>
      bindP (aPick (.sc (.bool b)) (.sc (.bool true)) x5) K := by
  cases b
  · simp only [guardP_on, h1, h2, h3, h4, h5, bindP_some, aPick_b, cond_false]; exact hK
  · simp only [guardP_t, bindP_some, aPick_b, cond_true]; exact hK
theorem or7 {b c : Bool} {o1 o4 : Option AV} {f2 f3 f5 f6 : AV → Option AV} {f7 : AV → AV → Option AV} {p1 p2 p3 p4 p5 p6 : AV} (h1 : o1 = some p1) (h2 : f2 p1 = some p2) (h3 : f3 p2 = some p3) (h4 : o4 = some p4) (h5 : f5 p4 = some p5) (h6 : f6 p5 = some p6) (h7 : f7 p3 p6 = some (.sc (.bool c))) (K : AV → Prop) (hK : K (.sc (.bool (b || c)))) :
    guardP (.sc (.bool b)) false o1 fun x1 => guardP (.sc (.bool b)) false (f2 x1) fun x2 => guardP (.sc (.bool b)) false (f3 x2) fun x3 => guardP (.sc (.bool b)) false o4 fun x4 => guardP (.sc (.bool b)) false (f5 x4) fun x5 => guardP (.sc (.bool b)) false (f6 x5) fun x6 => guardP (.sc (.bool b)) false (f7 x3 x6) fun x7 =>
      bindP (aPick (.sc (.bool b)) (.sc (.bool true)) x7) K := by
  cases b
  · simp only [guardP_on, h1, h2, h3, h4, h5, h6, h7, bindP_some, aPick_b, cond_false]; exact hK
  · simp only [guardP_t, bindP_some, aPick_b, cond_true]; exact hK
theorem apt0 (r r' : List Nat) : Apt (names []) r (names []) r' := by simp [Apt, names]
theorem eqs_C (x y : Cl) : aEqs [2, 0, 1] true (.ag (encC x)) (.ag (encC y)) = some (.sc (.bool (!eqB (x = y)))) := by
  obtain ⟨x0, x1, x2⟩ := x
  obtain ⟨y0, y1, y2⟩ := y
  have e : eqB (Cl.mk x0 x1 x2 = Cl.mk y0 y1 y2) = (decide (x0 = y0) && decide (x1 = y1) && decide (x2 = y2)) := by
    rw [Bool.eq_iff_iff, eqB_iff]; simp [and_assoc]
  rw [e]
  cases x2 <;> cases y2 <;> simp [aEqs, encC, eqK, bb, beqL, beqI] <;> (try rw [Bool.and_comm]) <;> rfl
theorem eqs_O (x y : Od) : aEqs [0, 1] true (.ag (encO x)) (.ag (encO y)) = some (.sc (.bool (!eqB (x = y)))) := by
  obtain ⟨x1, x2⟩ := x
  obtain ⟨y1, y2⟩ := y
  have e : eqB (Od.mk x1 x2 = Od.mk y1 y2) = (decide (x1 = y1) && decide (x2 = y2)) := by
    rw [Bool.eq_iff_iff, eqB_iff]; simp
  rw [e]
  cases x2 <;> cases y2 <;> simp [aEqs, encO, eqK, bb, beqI] <;> rfl
def scB (a b : Sm) : Bool := !decide (a.kind = b.kind) || !decide (a.table = b.table) || !decide (a.key = b.key) || !decide (a.index = b.index) || !decide (a.join = b.join) || !decide (a.limit = b.limit)
def lnB (a b : Sm) : Bool := !decide ((a.columns.length : Int) = b.columns.length) || !decide ((a.rows.length : Int) = b.rows.length) || !decide ((a.sets.length : Int) = b.sets.length) || !decide ((a.order.length : Int) = b.order.length)
theorem scB_ne {a b : Sm} (h : scB a b = true) : a ≠ b := by
  rintro rfl; simp [scB] at h
theorem lnB_ne {a b : Sm} (h : lnB a b = true) : a ≠ b := by
  rintro rfl; simp [lnB] at h
theorem lnB_eq {a b : Sm} (h : lnB a b = false) : a.columns.length = b.columns.length ∧ a.rows.length = b.rows.length ∧ a.sets.length = b.sets.length ∧ a.order.length = b.order.length := by
  simp [lnB] at h; omega
theorem sm_one {a b : Sm} (h : scB a b = false) (h1 : a.columns = b.columns) (h2 : a.rows = b.rows) (h3 : a.sets = b.sets) (h4 : a.order = b.order) (h5 : a.items = b.items) (h6 : a.on = b.on) (h7 : a.where_ = b.where_) (h8 : a.group = b.group) : a = b := by
  obtain ⟨a1, a2, a3, a4, a5, a6, a7, a8, a9, a10, a11, a12, a13, a14⟩ := a
  obtain ⟨b1, b2, b3, b4, b5, b6, b7, b8, b9, b10, b11, b12, b13, b14⟩ := b
  simp [scB] at h h1 h2 h3 h4 h5 h6 h7 h8
  simp_all
theorem bin_addI {i : Nat} {m : Nat} (h : (i : Int) < m) {σ : Hp} {rows : List (List AV)} (hb : bnd σ (.tr rows)) (hm : rows.length = m) : semBin .add (.sc (.int .i64 i)) (.sc (.int .i64 1)) = some (.sc (.int .i64 ((i + 1 : Nat) : Int))) := by
  have hb' : rows.length ≤ 4611686018427387904 := hb
  rw [bin_add, wrapI (by omega) (by omega)]; rfl
theorem sameL_con2 (l m : List Ep) : Con Tryz.prog 36 [.tr (l.map encE), .tr (m.map encE)] (.ret (.sc (.bool (sameL l m)))) := sameL_con l m (fun a _ b => same_con a b)
theorem eqB_not {p : Prop} (h : eqB p = false) : ¬ p := fun hp => by rw [eqB_t hp] at h; cases h
set_option maxHeartbeats 8000000 in
theorem sameStmt_con (a b : Sm) : Con Tryz.prog 12 [.ag (encSm a), .ag (encSm b)] (.ret (.sc (.bool (eqB (a = b))))) := by
  refine con_of (by_plain_SameStmt ?_)
  generalize hR : RC _ = R
  have HR := Lib.hid hR; clear hR
  rw [sh_plain_SameStmt]
  change bindS (some (.rf 0 14 0 0, [(0, some (Ob.c ⟨14, [encSm a], true, false⟩))])) _ _ _
  rw [bindS_some]
  change bindS (some (.rf 16 14 0 0, [(16, some (Ob.c ⟨14, [encSm b], true, false⟩))])) _ _ _
  rw [bindS_some]
  generalize hτ : applyW _ _ = τ
  have hA : τ 0 = some (.c ⟨14, [encSm a], true, false⟩) := by rw [← hτ]; simp only [applyW_cons, applyW_nil]; rw [upd_not (by omega)]; exact upd_is rfl
  have hB : τ 16 = some (.c ⟨14, [encSm b], true, false⟩) := by rw [← hτ]; simp only [applyW_cons, applyW_nil]; exact upd_is rfl
  clear hτ
  have no : a ≠ b → ∀ σ n, R (.ret (.sc (.bool false))) σ n := fun h σ n => by rw [← HR.out, eqB_f h]; exact RC_ret rfl rfl
  have NO := Lib.hid no; clear no
  rw [aFad_rf, bindP_some, ld_box hA rfl, bindP_some, aFad_rf, bindP_some, ld_box hB rfl, bindP_some, bin_neq, bindP_some]
  refine or5 rfl (ld_box hA rfl) rfl (ld_box hB rfl) (binS_neq _ _) _ ?_
  refine or5 rfl (ld_box hA rfl) rfl (ld_box hB rfl) (binS_neq _ _) _ ?_
  refine or5 rfl (ld_box hA rfl) rfl (ld_box hB rfl) (binS_neq _ _) _ ?_
  refine or5 rfl (ld_box hA rfl) rfl (ld_box hB rfl) (binS_neq _ _) _ ?_
  refine or5 rfl (ld_box hA rfl) rfl (ld_box hB rfl) (bin_neq _ _ _) _ ?_
  change COND (.sc (.bool (scB a b))) _ _
  cases hsc : scB a b with
  | true => rw [COND_true]; exact NO.out (scB_ne hsc) _ _
  | false =>
  rw [COND_false, aFad_rf, bindP_some, ld_box hA rfl, bindP_some, len_tr, bindP_some]
  intro _
  rw [aFad_rf, bindP_some, ld_box hB rfl, bindP_some, len_tr, bindP_some]
  intro _
  rw [bin_neq, bindP_some]
  refine or7 rfl (ld_box hA rfl) (len_tr _ _) rfl (ld_box hB rfl) (len_tr _ _) (bin_neq _ _ _) _ ?_
  refine or7 rfl (ld_box hA rfl) (len_tr _ _) rfl (ld_box hB rfl) (len_tr _ _) (bin_neq _ _ _) _ ?_
  refine or7 rfl (ld_box hA rfl) (len_tr _ _) rfl (ld_box hB rfl) (len_tr _ _) (bin_neq _ _ _) _ ?_
  change COND (.sc (.bool (lnB a b))) _ _
  cases hln : lnB a b with
  | true => rw [COND_true]; exact NO.out (lnB_ne hln) _ _
  | false =>
  rw [COND_false]
  obtain ⟨ln1, ln2, ln3, ln4⟩ := lnB_eq hln
  clear hln
  have a2 : aLd τ none (.rf 0 14 0 2) = some (.tr (a.columns.map encC)) := ld_box hA rfl
  have b2 : aLd τ none (.rf 16 14 0 2) = some (.tr (b.columns.map encC)) := ld_box hB rfl
  refine LOOP_list a.columns (fun i st => (∃ p q r, st = [p, q, r, .sc (.int .i64 i)]) ∧ a.columns.take i = b.columns.take i) ⟨⟨_, _, _, rfl⟩, rfl⟩ ?_ ?_
  · rintro i x K st n' hx hi hi' hn ⟨⟨p, q, r, rfl⟩, hal⟩ hK
    obtain ⟨y, hy⟩ : ∃ y, b.columns[i]? = some y := ⟨b.columns[i]'(by omega), List.getElem?_eq_getElem _⟩
    have ia : aIad 3 (.tr (a.columns.map encC)) (.sc (.int .i64 i)) = some (.fp (encC x)) := by rw [aIad_tr, if_pos (by omega), Int.toNat_natCast, List.getElem?_map, hx]; rfl
    have ib : aIad 3 (.tr (b.columns.map encC)) (.sc (.int .i64 i)) = some (.fp (encC y)) := by rw [aIad_tr, if_pos (by omega), Int.toNat_natCast, List.getElem?_map, hy]; rfl
    rw [lb_plain_SameStmt10]
    simp only [List.getD_cons_succ, List.getD_cons_zero, aFad_rf, Nat.zero_add, bindP_some, a2, b2, len_tr]
    intro hbn
    rw [bindP_ltI, COND_yes hi', ia, bindP_some, show aLd τ (some 3) (.fp (encC x)) = some (.ag (encC x)) from rfl, bindP_some, ib, bindP_some, show aLd τ (some 3) (.fp (encC y)) = some (.ag (encC y)) from rfl, bindP_some, eqs_C, bindP_some]
    refine ⟨apt0 _ _, apt0 _ _, apt0 _ _, apt0 _ _, fun n_ hn_ => ?_⟩
    cases hq : eqB (x = y) with
    | false => rw [Bool.not_false, COND_true]; exact NO.out (fun e => take_ne hx hy (eqB_not hq) (by rw [e])) _ _
    | true =>
      rw [Bool.not_true, COND_false, bin_addI hi' hbn (List.length_map _), bindP_some]
      exact hK _ _ (by omega) ⟨⟨_, _, _, rfl⟩, take_eq hx hy hal (eqB_iff.1 hq)⟩
  rintro K st n' hn ⟨⟨p, q, r, rfl⟩, hcols⟩
  rw [List.take_length, List.take_of_length_le (by omega)] at hcols
  rw [lb_plain_SameStmt10]
  simp only [List.getD_cons_succ, List.getD_cons_zero, aFad_rf, Nat.zero_add, bindP_some, a2, b2, len_tr]
  intro _
  rw [bindP_ltI, COND_no (Int.lt_irrefl _)]
  clear a2 b2
  have a5 : aLd τ none (.rf 0 14 0 5) = some (.tr (a.rows.map encRx)) := ld_box hA rfl
  have b5 : aLd τ none (.rf 16 14 0 5) = some (.tr (b.rows.map encRx)) := ld_box hB rfl
  refine LOOP_list a.rows (fun i st => (∃ p q r, st = [p, q, r, .sc (.int .i64 i)]) ∧ a.rows.take i = b.rows.take i) ⟨⟨_, _, _, rfl⟩, rfl⟩ ?_ ?_
  · rintro i x K st n' hx hi hi' hn ⟨⟨p, q, r, rfl⟩, hal⟩ hK
    obtain ⟨y, hy⟩ : ∃ y, b.rows[i]? = some y := ⟨b.rows[i]'(by omega), List.getElem?_eq_getElem _⟩
    have ia : aIad 1 (.tr (a.rows.map encRx)) (.sc (.int .i64 i)) = some (.fp [.tr (x.map encE)]) := by rw [aIad_tr, if_pos (by omega), Int.toNat_natCast, List.getElem?_map, hx]; rfl
    have ib : aIad 1 (.tr (b.rows.map encRx)) (.sc (.int .i64 i)) = some (.fp [.tr (y.map encE)]) := by rw [aIad_tr, if_pos (by omega), Int.toNat_natCast, List.getElem?_map, hy]; rfl
    have hC := sameL_con2 x y
    rw [sameL_eqB] at hC
    rw [lb_plain_SameStmt9]
    simp only [List.getD_cons_succ, List.getD_cons_zero, aFad_rf, Nat.zero_add, bindP_some, a5, b5, len_tr]
    intro hbn
    rw [bindP_ltI, COND_yes hi', ia, bindP_some, show aLd τ none (.fp [.tr (x.map encE)]) = some (.tr (x.map encE)) from rfl, bindP_some, ib, bindP_some, show aLd τ none (.fp [.tr (y.map encE)]) = some (.tr (y.map encE)) from rfl, bindP_some]
    refine callD_con0 hC rfl ?_
    rw [kd_plain_SameStmt1, onEnd_ret, aUn_not, bindP_some]
    refine ⟨apt0 _ _, apt0 _ _, apt0 _ _, apt0 _ _, fun n_ hn_ => ?_⟩
    cases hq : eqB (x = y) with
    | false => rw [Bool.not_false, COND_true]; exact NO.out (fun e => take_ne hx hy (eqB_not hq) (by rw [e])) _ _
    | true =>
      simp only [List.getD_cons_succ, List.getD_cons_zero, applyW_nil]
      rw [Bool.not_true, COND_false, bin_addI hi' hbn (List.length_map _), bindP_some]
      exact hK _ _ (by omega) ⟨⟨_, _, _, rfl⟩, take_eq hx hy hal (eqB_iff.1 hq)⟩
  rintro K st n' hn ⟨⟨p, q, r, rfl⟩, hrows⟩
  rw [List.take_length, List.take_of_length_le (by omega)] at hrows
  rw [lb_plain_SameStmt9]
  simp only [List.getD_cons_succ, List.getD_cons_zero, aFad_rf, Nat.zero_add, bindP_some, a5, b5, len_tr]
  intro _
  rw [bindP_ltI, COND_no (Int.lt_irrefl _)]
  clear a5 b5
  have a6 : aLd τ none (.rf 0 14 0 6) = some (.tr (a.sets.map encS)) := ld_box hA rfl
  have b6 : aLd τ none (.rf 16 14 0 6) = some (.tr (b.sets.map encS)) := ld_box hB rfl
  refine LOOP_list a.sets (fun i st => (∃ p q r, st = [p, q, r, .sc (.int .i64 i)]) ∧ a.sets.take i = b.sets.take i) ⟨⟨_, _, _, rfl⟩, rfl⟩ ?_ ?_
  · rintro i x K st n' hx hi hi' hn ⟨⟨p, q, r, rfl⟩, hal⟩ hK
    obtain ⟨y, hy⟩ : ∃ y, b.sets[i]? = some y := ⟨b.sets[i]'(by omega), List.getElem?_eq_getElem _⟩
    have ia : aIad 8 (.tr (a.sets.map encS)) (.sc (.int .i64 i)) = some (.fp (encS x)) := by rw [aIad_tr, if_pos (by omega), Int.toNat_natCast, List.getElem?_map, hx]; simp [encS_len]
    have ib : aIad 8 (.tr (b.sets.map encS)) (.sc (.int .i64 i)) = some (.fp (encS y)) := by rw [aIad_tr, if_pos (by omega), Int.toNat_natCast, List.getElem?_map, hy]; simp [encS_len]
    have f0 : ∀ z : Se, aFad 0 (.fp (encS z)) = some (.fp (encS z)) := fun z => by simp [aFad, encS_len]
    have f1 : ∀ z : Se, aFad 1 (.fp (encS z)) = some (.fp (encE z.ex)) := fun z => by simp [aFad, encS, encE_eq]
    have g0 : ∀ z : Se, aLd τ none (.fp (encS z)) = some (.s z.name) := fun z => by simp [aLd, encS, Am.part]
    have g1 : ∀ z : Se, aLd τ (some 7) (.fp (encE z.ex)) = some (.ag (encE z.ex)) := fun z => by simp [aLd, Am.part, encE_eq]
    have hC := same_con x.ex y.ex
    rw [sameF_eqB] at hC
    rw [lb_plain_SameStmt8]
    simp only [List.getD_cons_succ, List.getD_cons_zero, aFad_rf, Nat.zero_add, bindP_some, a6, b6, len_tr]
    intro hbn
    rw [bindP_ltI, COND_yes hi', ia, bindP_some, f0, bindP_some, g0, bindP_some, ib, bindP_some, f0, bindP_some, g0, bindP_some, binS_neq, bindP_some]
    by_cases hnm : x.name = y.name
    · rw [show (!decide (x.name = y.name)) = false by simp [hnm]]
      simp only [guardP_on, guardD_on, bindP_some, a6, b6, ia, ib, f1, g1]
      refine callD_con0 hC (by simp only [brwL_cons, brwL_nil, brw_ag, encE_brw, List.append_nil, Option.map_some]) ?_
      rw [kd_plain_SameStmt2, onEnd_ret]
      simp only [aUn_not, bindP_some, aPick_b, cond_false]
      refine ⟨apt0 _ _, apt0 _ _, apt0 _ _, apt0 _ _, apt0 _ _, apt0 _ _, apt0 _ _, apt0 _ _, fun n_ hn_ => ?_⟩
      cases hq : eqB (x.ex = y.ex) with
      | false => rw [Bool.not_false, COND_true]; exact NO.out (fun e => take_ne hx hy (fun e2 => eqB_not hq (by rw [e2])) (by rw [e])) _ _
      | true =>
        simp only [applyW_nil]
        rw [Bool.not_true, COND_false, bin_addI hi' hbn (List.length_map _), bindP_some]
        refine hK _ _ (by omega) ⟨⟨_, _, _, rfl⟩, take_eq hx hy hal ?_⟩
        obtain ⟨x1, x2⟩ := x
        obtain ⟨y1, y2⟩ := y
        have e2 := eqB_iff.1 hq
        simp only at hnm e2
        rw [hnm, e2]
    · rw [show (!decide (x.name = y.name)) = true by simp [hnm]]
      simp only [guardP_t, guardD_t, guardP_none, bindP_some, aPick_b, cond_true]
      refine ⟨apt0 _ _, apt0 _ _, apt0 _ _, apt0 _ _, apt0 _ _, apt0 _ _, apt0 _ _, apt0 _ _, fun n_ hn_ => ?_⟩
      rw [COND_true]; exact NO.out (fun e => take_ne hx hy (fun e2 => hnm (by rw [e2])) (by rw [e])) _ _
  rintro K st n' hn ⟨⟨p, q, r, rfl⟩, hsets⟩
  rw [List.take_length, List.take_of_length_le (by omega)] at hsets
  rw [lb_plain_SameStmt8]
  simp only [List.getD_cons_succ, List.getD_cons_zero, aFad_rf, Nat.zero_add, bindP_some, a6, b6, len_tr]
  intro _
  rw [bindP_ltI, COND_no (Int.lt_irrefl _)]
  clear a6 b6
  have a12 : aLd τ none (.rf 0 14 0 12) = some (.tr (a.order.map encO)) := ld_box hA rfl
  have b12 : aLd τ none (.rf 16 14 0 12) = some (.tr (b.order.map encO)) := ld_box hB rfl
  refine LOOP_list a.order (fun i st => (∃ p q r, st = [p, q, r, .sc (.int .i64 i)]) ∧ a.order.take i = b.order.take i) ⟨⟨_, _, _, rfl⟩, rfl⟩ ?_ ?_
  · rintro i x K st n' hx hi hi' hn ⟨⟨p, q, r, rfl⟩, hal⟩ hK
    obtain ⟨y, hy⟩ : ∃ y, b.order[i]? = some y := ⟨b.order[i]'(by omega), List.getElem?_eq_getElem _⟩
    have ia : aIad 2 (.tr (a.order.map encO)) (.sc (.int .i64 i)) = some (.fp (encO x)) := by rw [aIad_tr, if_pos (by omega), Int.toNat_natCast, List.getElem?_map, hx]; rfl
    have ib : aIad 2 (.tr (b.order.map encO)) (.sc (.int .i64 i)) = some (.fp (encO y)) := by rw [aIad_tr, if_pos (by omega), Int.toNat_natCast, List.getElem?_map, hy]; rfl
    rw [lb_plain_SameStmt7]
    simp only [List.getD_cons_succ, List.getD_cons_zero, aFad_rf, Nat.zero_add, bindP_some, a12, b12, len_tr]
    intro hbn
    rw [bindP_ltI, COND_yes hi', ia, bindP_some, show aLd τ (some 2) (.fp (encO x)) = some (.ag (encO x)) from rfl, bindP_some, ib, bindP_some, show aLd τ (some 2) (.fp (encO y)) = some (.ag (encO y)) from rfl, bindP_some, eqs_O, bindP_some]
    refine ⟨apt0 _ _, apt0 _ _, apt0 _ _, apt0 _ _, fun n_ hn_ => ?_⟩
    cases hq : eqB (x = y) with
    | false => rw [Bool.not_false, COND_true]; exact NO.out (fun e => take_ne hx hy (eqB_not hq) (by rw [e])) _ _
    | true =>
      rw [Bool.not_true, COND_false, bin_addI hi' hbn (List.length_map _), bindP_some]
      exact hK _ _ (by omega) ⟨⟨_, _, _, rfl⟩, take_eq hx hy hal (eqB_iff.1 hq)⟩
  rintro K st n' hn ⟨⟨p, q, r, rfl⟩, horder⟩
  rw [List.take_length, List.take_of_length_le (by omega)] at horder
  rw [lb_plain_SameStmt7]
  simp only [List.getD_cons_succ, List.getD_cons_zero, aFad_rf, Nat.zero_add, bindP_some, a12, b12, len_tr]
  intro _
  rw [bindP_ltI, COND_no (Int.lt_irrefl _)]
  clear a12 b12
  have a7 : aLd τ none (.rf 0 14 0 7) = some (.tr (a.items.map encE)) := ld_box hA rfl
  have b7 : aLd τ none (.rf 16 14 0 7) = some (.tr (b.items.map encE)) := ld_box hB rfl
  have a9 : aLd τ none (.rf 0 14 0 9) = some (.tr (a.on.map encE)) := ld_box hA rfl
  have b9 : aLd τ none (.rf 16 14 0 9) = some (.tr (b.on.map encE)) := ld_box hB rfl
  have a10 : aLd τ none (.rf 0 14 0 10) = some (.tr (a.where_.map encE)) := ld_box hA rfl
  have b10 : aLd τ none (.rf 16 14 0 10) = some (.tr (b.where_.map encE)) := ld_box hB rfl
  have a11 : aLd τ none (.rf 0 14 0 11) = some (.tr (a.group.map encE)) := ld_box hA rfl
  have b11 : aLd τ none (.rf 16 14 0 11) = some (.tr (b.group.map encE)) := ld_box hB rfl
  have C1 := sameL_con2 a.items b.items
  have C2 := sameL_con2 a.on b.on
  have C3 := sameL_con2 a.where_ b.where_
  have C4 := sameL_con2 a.group b.group
  rw [sameL_eqB] at C1 C2 C3 C4
  simp only [bindP_some, a7, b7]
  refine CALL_con0 C1 rfl ?_
  rw [kc_plain_SameStmt6, onEnd_ret]
  cases q1 : eqB (a.items = b.items) with
  | false =>
    simp only [guardP_f, guardK_f, aPick_b, bindP_some, cond_false]
    exact NO.out (fun e => eqB_not q1 (by rw [e])) _ _
  | true =>
  simp only [guardP_on, guardK_on, bindP_some, aFad_rf, Nat.zero_add, a9, b9]
  refine CALL_con0 C2 rfl ?_
  rw [kc_plain_SameStmt3, onEnd_ret]
  cases q2 : eqB (a.on = b.on) with
  | false =>
    simp only [guardP_f, guardK_f, aPick_b, bindP_some, cond_false, cond_true]
    exact NO.out (fun e => eqB_not q2 (by rw [e])) _ _
  | true =>
  simp only [guardP_on, guardK_on, aPick_b, cond_true, bindP_some, aFad_rf, Nat.zero_add, a10, b10]
  refine CALL_con0 C3 rfl ?_
  rw [kc_plain_SameStmt4, onEnd_ret]
  cases q3 : eqB (a.where_ = b.where_) with
  | false =>
    simp only [guardP_f, guardK_f, aPick_b, bindP_some, cond_false, cond_true]
    exact NO.out (fun e => eqB_not q3 (by rw [e])) _ _
  | true =>
  simp only [guardP_on, guardK_on, aPick_b, cond_true, bindP_some, aFad_rf, Nat.zero_add, a11, b11]
  refine CALL_con0 C4 rfl ?_
  rw [kc_plain_SameStmt5, onEnd_ret]
  cases q4 : eqB (a.group = b.group) with
  | false =>
    exact NO.out (fun e => eqB_not q4 (by rw [e])) _ _
  | true =>
    rw [← HR.out, eqB_t (sm_one hsc hcols hrows hsets horder (eqB_iff.1 q1) (eqB_iff.1 q2) (eqB_iff.1 q3) (eqB_iff.1 q4))]
    exact RC_ret rfl rfl
end Go.Proofs.YtodoejfkjimeaaaGreatDoor

set_option linter.unusedSimpArgs false
set_option linter.unusedVariables false
set_option maxRecDepth 100000
namespace Go.Proofs.YtodoejfkjimeaaaGreatDoor
open Go Go.RowKit Am

end Go.Proofs.YtodoejfkjimeaaaGreatDoor
set_option maxRecDepth 100000
namespace Go.Proofs.YtodoejfkjimeaaaGreatDoor
open Go Go.RowKit Am

end Go.Proofs.YtodoejfkjimeaaaGreatDoor

set_option linter.unusedSimpArgs false
set_option linter.unusedVariables false
set_option maxRecDepth 100000
namespace Go.Proofs.YtodoejfkjimeaaaGreatDoor
open Go Go.RowKit Am

end Go.Proofs.YtodoejfkjimeaaaGreatDoor

set_option linter.unusedSimpArgs false
set_option linter.unusedVariables false
set_option maxRecDepth 100000
namespace Go.Proofs.YtodoejfkjimeaaaGreatDoor
open Go Go.RowKit Am

def cols (ts : List Tb) : Int := (ts.map (fun t => (t.columns.length : Int))).sum
end Go.Proofs.YtodoejfkjimeaaaGreatDoor

set_option linter.unusedSimpArgs false
set_option linter.unusedVariables false
set_option maxRecDepth 100000
namespace Go.Proofs.YtodoejfkjimeaaaGreatDoor
open Go Go.RowKit Am

end Go.Proofs.YtodoejfkjimeaaaGreatDoor

set_option linter.unusedSimpArgs false
set_option linter.unusedVariables false
set_option maxRecDepth 100000
namespace Go.Proofs.YtodoejfkjimeaaaGreatDoor
open Go Go.RowKit Am
attribute [local go_sem] wrapI wrapB upd_is upd_not Nat.zero_add Nat.add_zero
attribute [local go_sem_proc] Nat.reduceAdd Nat.reduceSub Nat.reduceMul Nat.reduceLeDiff Nat.reduceEqDiff Int.reduceAdd Int.reduceSub Int.reduceMul Int.reduceNeg Int.reduceLT Int.reduceLE Int.reduceEq Int.reduceToNat reduceCtorEq reduceIte

end Go.Proofs.YtodoejfkjimeaaaGreatDoor
set_option maxRecDepth 100000
namespace Go.Proofs.YtodoejfkjimeaaaGreatDoor
open Go Go.RowKit Am

theorem encE_all (l : List Ep) : ((l.map encE).all fun r => r.length == 7) = true := all_enc encE 7 encE_len l
theorem encE_leafs (l : List Ep) : ((l.map encE).all fun r => r.all leafok) = true := by simp [encE_leaf]
attribute [go_sem] encE_all encE_leafs
set_option maxHeartbeats 4000000 in
theorem copyL_con (l : List Ep) (hl : l.length ≤ 1048576) (h : ∀ a ∈ l, Con Tryz.prog 15 [.ag (encE a)] (.ret (.ag (encE a)))) : Con Tryz.prog 14 [.tr (l.map encE)] (.ret (.tr (l.map encE))) := by
  refine con_of (by_plain_CopyExprs ?_)
  generalize hR : RC _ = R
  have HR := Lib.hid hR; clear hR
  have HB := Lib.hid h; clear h
  rw [sh_plain_CopyExprs]
  refine LOOP_listM l (fun i s σ' n' => ∃ a ov, s = [a, ov, .sc (.int .i64 i)] ∧ ((i = 0 ∧ ov = .em) ∨ ∃ i1, i1 < n' ∧ ov = .ow i1 7 0 i ∧ σ' i1 = some (.c ⟨7, (l.take i).map encE, true, true⟩))) (.refl ⟨_, _, rfl, .inl ⟨rfl, rfl⟩⟩) ?_ ?_
  · rintro i x K s' σ' n2 hx hi1 hi' hn1 ⟨a, ov, rfl, hov⟩ hK
    have HK := Lib.hid hK; clear hK
    have ht : (l.take (i + 1)).map encE = (l.take i).map encE ++ [encE x] := by rw [List.take_add_one, hx, List.map_append]; rfl
    have HT := Lib.hid ht; clear ht
    have HC := HB.out x (List.mem_of_getElem? hx)
    rcases hov with ⟨rfl, rfl⟩ | ⟨i1, hl1, rfl, hs1⟩
    · simp (maxSteps:=1000000) (disch:=omega) only [lb_plain_CopyExprs2,go_sem, *]
      intro _
      refine CALL_con0 HC (by simp only [brwL_cons, brwL_nil, brw_ag, encE_brw, List.append_nil, Option.map_some]) ?_
      simp (maxSteps:=1000000) (disch:=omega) only [go_sem, *]
      refine HK.out _ _ _ (.refl ⟨_, _, rfl, .inr ⟨n2 + 16, by omega, rfl, ?_⟩⟩)
      rw [upd_is rfl, HT.out]; rfl
    · have hl : (List.take i l).length = i := by rw [List.length_take]; omega
      have c1 : (i + 1) * 96 ≤ 140737488355328 := by omega
      have c2 : ¬ i1 = n2 + 16 := by omega
      simp (maxSteps:=1000000) (disch:=omega) only [lb_plain_CopyExprs2,go_sem, *]
      intro _
      refine CALL_con0 HC (by simp only [brwL_cons, brwL_nil, brw_ag, encE_brw, List.append_nil, Option.map_some]) ?_
      simp (maxSteps:=1000000) (disch:=omega) only [go_sem, *]
      refine HK.out _ _ _ (.refl ⟨_, _, rfl, .inr ⟨n2 + 16, by omega, rfl, ?_⟩⟩)
      rw [upd_is rfl, HT.out]
  · rintro K s' σ' n2 hn1 ⟨a, ov, rfl, hov⟩
    simp (maxSteps:=1000000) (disch:=omega) only [lb_plain_CopyExprs2,Int.lt_irrefl,go_sem, *]
    intro _
    rw [← HR.out]
    rcases hov with ⟨h, rfl⟩ | ⟨i1, h1, rfl, h⟩
    · have h3 := List.eq_nil_of_length_eq_zero h
      subst h3; exact RC_ret rfl rfl
    · rw [List.take_length] at h
      exact RC_ret (c := .tr (l.map encE)) (I := [i1]) (brw_all h (List.length_map _) (by omega)) rfl
theorem copy_con (e : Ep) (hb : Bd e) : Con Tryz.prog 15 [.ag (encE e)] (.ret (.ag (encE e))) := by
  induction hb with
  | mk op kind n text table name args h1 h2 h3 h4 h ih =>
    refine con_of (by_plain_CopyExpr ?_)
    have HL := Lib.hid (copyL_con args h4 ih)
    clear ih h h1 h2 h3 h4
    simp (maxSteps:=1000000) (disch:=omega) only [sh_plain_CopyExpr,encE_eq,Ep.op,Ep.kind,Ep.n,Ep.text,Ep.table,Ep.name,Ep.args,go_sem, *]
    refine CALL_con0 HL.out rfl ?_
    simp (maxSteps:=1000000) (disch:=omega) only [go_sem, *]
    exact RC_ret rfl rfl
end Go.Proofs.YtodoejfkjimeaaaGreatDoor
set_option maxRecDepth 100000
namespace Go.Proofs.YtodoejfkjimeaaaGreatDoor
open Go Go.RowKit Am

end Go.Proofs.YtodoejfkjimeaaaGreatDoor

set_option linter.unusedSimpArgs false
set_option linter.unusedVariables false
set_option maxRecDepth 100000
namespace Go.Proofs.YtodoejfkjimeaaaGreatDoor
open Go Go.RowKit Am
attribute [-go_sem] guardP_if guardK_if guardD_if COND_bool
attribute [local go_sem low] guardP_if guardK_if guardD_if COND_bool
def OwnR (σ : Hp) (n : Nat) (v : AV) (k : Nat) (rows : List (List AV)) : Prop := (rows = [] ∧ v = .em) ∨ ∃ i, i < n ∧ v = .ow i k 0 rows.length ∧ σ i = some (.c ⟨k, rows, true, true⟩)
theorem OwnR.brw {σ : Hp} {n : Nat} {v : AV} {k : Nat} {rows : List (List AV)} (h : OwnR σ n v k rows) (hk : 0 < k) (d : Nat) : ∃ I, brw σ (d + 1) v = some (.tr rows, I) := by
  rcases h with ⟨rfl, rfl⟩ | ⟨i, h1, rfl, h2⟩
  · exact ⟨[], rfl⟩
  · exact ⟨[i], brw_all h2 rfl hk⟩
theorem OwnR.leaf {σ : Hp} {n : Nat} {v : AV} {k : Nat} {rows : List (List AV)} (h : OwnR σ n v k rows) : leafok v = true ∧ v.cells = some [v] := by
  rcases h with ⟨rfl, rfl⟩ | ⟨i, h1, rfl, h2⟩
  · exact ⟨rfl, rfl⟩
  · exact ⟨rfl, rfl⟩
theorem OwnR.up {σ τ : Hp} {n n' : Nat} {v : AV} {k : Nat} {rows : List (List AV)} (h : OwnR σ n v k rows) (hn : n ≤ n') (hs : ∀ i rs, i < n → σ i = some (.c ⟨k, rs, true, true⟩) → τ i = σ i) : OwnR τ n' v k rows := by
  rcases h with h | ⟨i, h1, h2, h3⟩
  · exact .inl h
  · exact .inr ⟨i, by omega, h2, (hs i _ h1 h3).trans h3⟩
theorem app_own {σ : Hp} {n : Nat} {v : AV} {k bytes id : Nat} {rows news : List (List AV)} {y : AV} (h : OwnR σ n v k rows) (hid : n ≤ id) (hy : rowsOf σ k y = some news) (hl : news.all (fun r => r.all leafok) = true) (hb : (rows.length + news.length) * bytes ≤ 140737488355328) :
    ∃ v' wr, hApp σ id k bytes v y = some (v', wr) ∧ OwnR (applyW σ wr) (id + 16) v' k (rows ++ news) ∧ (∀ q ob, q ≠ id → σ q = some ob → (∀ rs, ob ≠ .c ⟨k, rs, true, true⟩) → applyW σ wr q = some ob) ∧ (∀ q, q ∈ names wr → q = id ∨ ∃ rs, σ q = some (.c ⟨k, rs, true, true⟩)) := by
  rcases h with ⟨rfl, rfl⟩ | ⟨i, h1, rfl, h2⟩
  · rw [hApp_em, hy]
    simp only [hl, if_true]
    rw [List.length_nil, Nat.zero_add] at hb
    rw [if_pos hb]
    cases news with
    | nil => exact ⟨.em, [], rfl, .inl ⟨rfl, rfl⟩, fun q ob _ h _ => h, fun q hq => by cases hq⟩
    | cons r rs =>
      refine ⟨_, _, rfl, .inr ⟨id, by omega, rfl, ?_⟩, fun q ob hq h _ => ?_, fun q hq => .inl (by simpa [names] using hq)⟩
      · simp only [applyW_cons, applyW_nil, List.nil_append]; exact upd_is rfl
      · simp only [applyW_cons, applyW_nil]; rw [upd_not hq]; exact h
  · rw [hApp_ow, hy]
    simp only [hl, if_true, h2]
    have hlen : (rows.length + news.length) = (rows ++ news).length := List.length_append.symm
    rw [if_pos ⟨by trivial, by trivial, by trivial, by trivial, by trivial, hb, by omega⟩]
    refine ⟨_, _, rfl, .inr ⟨id, by omega, by rw [hlen], ?_⟩, fun q ob hq h ho => ?_, fun q hq => ?_⟩
    · simp only [applyW_cons, applyW_nil]; exact upd_is rfl
    · simp only [applyW_cons, applyW_nil]
      rw [upd_not hq, upd_not (by rintro rfl; rw [h2] at h; cases h; exact ho _ rfl)]; exact h
    · simp only [names, List.map_cons, List.map_nil, List.mem_cons, List.not_mem_nil, or_false] at hq
      rcases hq with rfl | rfl
      · exact .inr ⟨_, h2⟩
      · exact .inl rfl
theorem st_box {σ : Hp} {i k c : Nat} {row : List AV} {v : AV} (h : σ i = some (.c ⟨k, [row], true, false⟩)) (hv : leafok v = true ∧ v.cells = some [v]) (hc : c < row.length) : hSt σ 1 (.rf i k 0 c) v = some (.tp [], [(i, some (.c ⟨k, [splice row c [v]], true, false⟩))]) := by
  rw [hSt_rf, h]
  simp only [hv.2, List.getElem?_cons_zero, and_self, if_true]
  rw [if_pos ⟨rfl, by omega, by simp [hv.1]⟩]
  rfl
abbrev boxO (row : List AV) : Ob := .c ⟨14, [row], true, false⟩
def zSm : List AV := [.sc (.int .i64 0), .s [], .em, .s [], .s [], .em, .em, .em, .s [], .em, .em, .em, .em, .sc (.int .i64 0)]
theorem copyL_con2 (l : List Ep) (hb : LBd l) : Con Tryz.prog 14 [.tr (l.map encE)] (.ret (.tr (l.map encE))) := copyL_con l hb.len (fun a ha => copy_con a (hb.bd a ha))
theorem build_S (s : Se) : aBuild [(.string ⟨#[]⟩), (.int .i64 0), (.int .i64 0), (.int .i64 0), (.string ⟨#[]⟩), (.string ⟨#[]⟩), (.string ⟨#[]⟩), (.slice none 0 0)] [(0, 1, .s s.name), (1, 7, .ag (encE s.ex))] = some (.ag (encS s)) := by
  obtain ⟨nm, ex⟩ := s
  rw [encS, encE_eq]; rfl
theorem bsl_S (σ : Hp) (id : Nat) (s : Se) : hBsl σ id 8 [(.string ⟨#[]⟩), (.int .i64 0), (.int .i64 0), (.int .i64 0), (.string ⟨#[]⟩), (.string ⟨#[]⟩), (.string ⟨#[]⟩), (.slice none 0 0)] 1 [(0, .ag (encS s))] = some (.ow id 8 0 1, [(id, some (.c ⟨8, [encS s], true, true⟩))]) := by
  have h : brw σ 6 (.ag (encS s)) = some (.ag (encS s), []) := by rw [brw_ag, encS_brw]; rfl
  have h2 : (AV.ag (encS s)).cells = some (encS s) := rfl
  simp [hBsl, fillR, h, h2, encS_len, frz]
theorem st_box14 {σ : Hp} {i : Nat} {row row' : List AV} (h : σ i = some (boxO row)) (h1 : row.length = 14) (h2 : row'.length = 14) (h3 : row'.all leafok = true) : hSt σ 14 (.rf i 14 0 0) (.ag row') = some (.tp [], [(i, some (boxO row'))]) := by
  have hc : (AV.ag row').cells = some row' := rfl
  have hs : splice row 0 row' = row' := by simp [splice, h1, h2]
  rw [hSt_rf, h]
  simp only [hc, List.getElem?_cons_zero, and_self, if_true]
  rw [if_pos ⟨h2, by omega, h3⟩, hs]
  rfl
set_option maxHeartbeats 8000000 in
theorem copyStmt_con (x : Sm) (hb : SBd x) : Con Tryz.prog 4 [.ag (encSm x)] (.ret (.ag (encSm x))) := by
  refine con_of (by_plain_CopyStmt ?_)
  generalize hR : RC _ = R
  have HR := Lib.hid hR; clear hR
  rw [sh_plain_CopyStmt]
  change bindS (some (.rf 0 14 0 0, [(0, some (boxO (encSm x)))])) _ _ _
  rw [bindS_some]
  change bindS (some (.rf 16 14 0 0, [(16, some (boxO zSm))])) _ _ _
  rw [bindS_some]
  generalize hτ : applyW _ _ = τ
  have hA : τ 0 = some (boxO (encSm x)) := by rw [← hτ]; simp only [applyW_cons, applyW_nil]; rw [upd_not (by omega)]; exact upd_is rfl
  have hB : τ 16 = some (boxO zSm) := by rw [← hτ]; simp only [applyW_cons, applyW_nil]; exact upd_is rfl
  clear hτ
  refine LOOP_listM x.rows (fun i s σ n => ∃ p rv, s = [p, rv, .sc (.int .i64 i)] ∧ σ 0 = some (boxO (encSm x)) ∧ σ 16 = some (boxO zSm) ∧ OwnR σ n rv 1 ((x.rows.take i).map encRx)) (.refl ⟨_, _, rfl, hA, hB, .inl ⟨rfl, rfl⟩⟩) ?_ ?_
  · rintro i l K s σ n hx hi hi' hn ⟨p, rv, rfl, h0, h16, hrv⟩ hK
    have ia : aIad 1 (.tr (x.rows.map encRx)) (.sc (.int .i64 i)) = some (.fp [.tr (l.map encE)]) := by rw [aIad_tr, if_pos (by omega), Int.toNat_natCast, List.getElem?_map, hx]; rfl
    have l5 : aLd σ none (.rf 0 14 0 5) = some (.tr (x.rows.map encRx)) := ld_box h0 rfl
    rw [lb_plain_CopyStmt8]
    simp only [List.getD_cons_succ, List.getD_cons_zero, aFad_rf, Nat.zero_add, bindP_some, l5, len_tr]
    intro hbn
    rw [bindP_ltI, COND_yes hi', ia, bindP_some, show aLd σ none (.fp [.tr (l.map encE)]) = some (.tr (l.map encE)) from rfl, bindP_some]
    refine CALL_con0 (copyL_con2 l (hb.row l (List.mem_of_getElem? hx))) rfl ?_
    rw [kc_plain_CopyStmt1, onEnd_ret]
    change bindS (some (.ow _ 1 0 1, [(_, some (Ob.c ⟨1, [encRx l], true, true⟩))])) _ _ _
    rw [bindS_some]
    simp only [List.getD_cons_succ, List.getD_cons_zero, applyW_cons, applyW_nil]
    have hrv' : OwnR (upd σ n (some (.c ⟨1, [encRx l], true, true⟩))) (n + 16) rv 1 ((x.rows.take i).map encRx) := hrv.up (by omega) (fun j rs hj _ => upd_not (by omega))
    obtain ⟨v', wr, e1, e2, e3, _⟩ := app_own (bytes := 24) (id := n + 16) (y := .ow n 1 0 1) (news := [encRx l]) hrv' (by omega) (by simp only [rowsOf, upd_is rfl]; simp) (by simp [encRx, leafok]) (by
      have := hb.rows
      simp only [List.length_map, List.length_take, List.length_cons, List.length_nil]
      omega)
    rw [e1, bindS_some, bin_addI hi' hbn (List.length_map _), bindP_some]
    have e0 : ∀ q row, q < n → σ q = some (boxO row) → applyW (upd σ n (some (.c ⟨1, [encRx l], true, true⟩))) wr q = some (boxO row) := fun q row hq h => e3 q _ (by omega) (by rw [upd_not (by omega)]; exact h) (fun rs e => by cases e)
    refine hK _ _ _ (.refl ⟨_, _, rfl, e0 0 _ (by omega) h0, e0 16 _ (by omega) h16, ?_⟩)
    have ht : (x.rows.take (i + 1)).map encRx = (x.rows.take i).map encRx ++ [encRx l] := by rw [List.take_add_one, hx, List.map_append]; rfl
    rw [ht]; exact e2
  rintro K s σ n hn ⟨p, rv, rfl, h0, h16, hrv⟩
  rw [List.take_length] at hrv
  have l5 : aLd σ none (.rf 0 14 0 5) = some (.tr (x.rows.map encRx)) := ld_box h0 rfl
  rw [lb_plain_CopyStmt8]
  simp only [List.getD_cons_succ, List.getD_cons_zero, aFad_rf, Nat.zero_add, bindP_some, l5, len_tr]
  intro hbn
  rw [bindP_ltI, COND_no (Int.lt_irrefl _)]
  clear l5 hbn hA hB
  refine LOOP_listM x.sets (fun i s σ n => ∃ p sv, s = [p, sv, .sc (.int .i64 i)] ∧ σ 0 = some (boxO (encSm x)) ∧ σ 16 = some (boxO zSm) ∧ OwnR σ n rv 1 (x.rows.map encRx) ∧ OwnR σ n sv 8 ((x.sets.take i).map encS)) (.refl ⟨_, _, rfl, h0, h16, hrv, .inl ⟨rfl, rfl⟩⟩) ?_ ?_
  · clear h0 h16 hrv
    rintro i s K st σ n hx hi hi' hn ⟨p, sv, rfl, h0, h16, hrv, hsv⟩ hK
    have ia : aIad 8 (.tr (x.sets.map encS)) (.sc (.int .i64 i)) = some (.fp (encS s)) := by rw [aIad_tr, if_pos (by omega), Int.toNat_natCast, List.getElem?_map, hx]; simp [encS_len]
    have f0 : aFad 0 (.fp (encS s)) = some (.fp (encS s)) := by simp [aFad, encS_len]
    have f1 : aFad 1 (.fp (encS s)) = some (.fp (encE s.ex)) := by simp [aFad, encS, encE_eq]
    have g0 : aLd σ none (.fp (encS s)) = some (.s s.name) := by simp [aLd, encS, Am.part]
    have g1 : aLd σ (some 7) (.fp (encE s.ex)) = some (.ag (encE s.ex)) := by simp [aLd, Am.part, encE_eq]
    have l6 : aLd σ none (.rf 0 14 0 6) = some (.tr (x.sets.map encS)) := ld_box h0 rfl
    rw [lb_plain_CopyStmt7]
    simp only [List.getD_cons_succ, List.getD_cons_zero, aFad_rf, Nat.zero_add, bindP_some, l6, len_tr]
    intro hbn
    rw [bindP_ltI, COND_yes hi', ia, bindP_some, f0, bindP_some, g0, bindP_some, bindP_some, f1, bindP_some, g1, bindP_some]
    refine callD_con0 (copy_con s.ex (hb.set s (List.mem_of_getElem? hx)).2) (by simp only [brwL_cons, brwL_nil, brw_ag, encE_brw, List.append_nil, Option.map_some]) ?_
    rw [kd_plain_CopyStmt2, onEnd_ret, build_S, bindP_some, bsl_S, bindH_some]
    simp only [List.getD_cons_succ, List.getD_cons_zero, applyW_cons, applyW_nil]
    have hsv' : OwnR (upd σ (n + 16 * 15) (some (.c ⟨8, [encS s], true, true⟩))) (n + 16 * 16) sv 8 ((x.sets.take i).map encS) := hsv.up (by omega) (fun j rs hj _ => upd_not (by omega))
    obtain ⟨v', wr, e1, e2, e3, _⟩ := app_own (bytes := 112) (id := n + 16 * 16) (y := .ow (n + 16 * 15) 8 0 1) (news := [encS s]) hsv' (by omega) (by simp only [rowsOf, upd_is rfl]; simp) (by simp [encS_leaf]) (by
      have := hb.sets
      simp only [List.length_map, List.length_take, List.length_cons, List.length_nil]
      omega)
    rw [e1, bindH_some]
    refine ⟨apt0 _ _, apt0 _ _, apt0 _ _, apt0 _ _, apt0 _ _, apt0 _ _, fun n_ hn_ => ?_⟩
    rw [bin_addI hi' hbn (List.length_map _), bindP_some]
    have e0 : ∀ q ob, q < n → σ q = some ob → (∀ rs, ob ≠ .c ⟨8, rs, true, true⟩) → applyW (upd σ (n + 16 * 15) (some (.c ⟨8, [encS s], true, true⟩))) wr q = some ob := fun q ob hq h ho => e3 q _ (by omega) (by rw [upd_not (by omega)]; exact h) ho
    refine hK _ _ _ (.refl ⟨_, _, rfl, e0 0 _ (by omega) h0 (fun rs e => by cases e), e0 16 _ (by omega) h16 (fun rs e => by cases e), ?_, ?_⟩)
    · refine hrv.up (by omega) (fun j rs hj h => (e0 j _ hj h (fun rs e => by cases e)).trans h.symm)
    · have ht : (x.sets.take (i + 1)).map encS = (x.sets.take i).map encS ++ [encS s] := by rw [List.take_add_one, hx, List.map_append]; rfl
      rw [ht]
      exact e2.up (by omega) (fun _ _ _ _ => rfl)
  clear h0 h16 hrv
  rintro K s σ n hn ⟨p, sv, rfl, h0, h16, hrv, hsv⟩
  rw [List.take_length] at hsv
  have l2 : aLd σ none (.rf 0 14 0 2) = some (.tr (x.columns.map encC)) := ld_box h0 rfl
  have l6 : aLd σ none (.rf 0 14 0 6) = some (.tr (x.sets.map encS)) := ld_box h0 rfl
  have l12 : aLd σ none (.rf 0 14 0 12) = some (.tr (x.order.map encO)) := ld_box h0 rfl
  rw [lb_plain_CopyStmt7]
  simp only [List.getD_cons_succ, List.getD_cons_zero, aFad_rf, Nat.zero_add, bindP_some, l2, l6, l12, len_tr]
  intro hbn
  rw [bindP_ltI, COND_no (Int.lt_irrefl _)]
  have hem : ∀ (k : Nat) (τ : Hp) (m : Nat), OwnR τ m .em k [] := fun _ _ _ => .inl ⟨rfl, rfl⟩
  obtain ⟨cv, w1, c1, c2, c3, c4⟩ := app_own (bytes := 32) (id := n + 16 * 3) (y := .tr (x.columns.map encC)) (news := x.columns.map encC) (hem 3 σ n) (by omega) (by rw [rowsOf_tr, if_pos (encC_all _)]) (encC_leafs _) (by
    have := hb.cols
    simp only [List.length_map, List.length_nil]; omega)
  rw [c1, bindH_some]
  obtain ⟨ov, w2, d1, d2, d3, d4⟩ := app_own (bytes := 16) (id := n + 16 * 9) (y := .tr (x.order.map encO)) (news := x.order.map encO) (hem 2 (applyW σ w1) (n + 16 * 9)) (by omega) (by rw [rowsOf_tr, if_pos (encO_all _)]) (encO_leafs _) (by
    have := hb.order
    simp only [List.length_map, List.length_nil]; omega)
  rw [d1, bindH_some]
  rw [List.nil_append] at c2 d2
  generalize hρ : applyW (applyW σ w1) w2 = ρ at d2 ⊢
  have e0 : ∀ q ob, q < n → σ q = some ob → (∀ rs, ob ≠ .c ⟨3, rs, true, true⟩) → (∀ rs, ob ≠ .c ⟨2, rs, true, true⟩) → ρ q = some ob := fun q ob hq h ho1 ho2 => by
    rw [← hρ]; exact d3 q _ (by omega) (c3 q _ (by omega) h ho1) ho2
  have r0 := e0 0 _ (by omega) h0 (fun rs e => by cases e) (fun rs e => by cases e)
  have r16 := e0 16 _ (by omega) h16 (fun rs e => by cases e) (fun rs e => by cases e)
  have rrv : OwnR ρ (n + 16 * 10) rv 1 (x.rows.map encRx) := hrv.up (by omega) (fun j rs hj h => (e0 j _ hj h (fun rs e => by cases e) (fun rs e => by cases e)).trans h.symm)
  have rsv : OwnR ρ (n + 16 * 10) sv 8 (x.sets.map encS) := hsv.up (by omega) (fun j rs hj h => (e0 j _ hj h (fun rs e => by cases e) (fun rs e => by cases e)).trans h.symm)
  have rcv : OwnR ρ (n + 16 * 10) cv 3 (x.columns.map encC) := c2.up (by omega) (fun j rs hj h => by
    rw [← hρ]; exact (d3 j _ (by omega) h (fun rs e => by cases e)).trans h.symm)
  have rov : OwnR ρ (n + 16 * 10) ov 2 (x.order.map encO) := d2.up (by omega) (fun _ _ _ _ => rfl)
  clear e0 d3 c3 hρ
  rw [st_box r0 rcv.leaf (by simp [encSm]), bindH_some]
  simp only [applyW_cons, applyW_nil]
  rw [st_box (upd_is rfl) rrv.leaf (by simp [encSm, splice]), bindH_some]
  simp only [applyW_cons, applyW_nil]
  rw [st_box (upd_is rfl) rsv.leaf (by simp [encSm, splice]), bindH_some]
  simp only [applyW_cons, applyW_nil]
  rw [st_box (upd_is rfl) rov.leaf (by simp [encSm, splice]), bindH_some]
  simp only [applyW_cons, applyW_nil]
  refine ⟨apt0 _ _, ⟨fun q hq => ⟨?_, by simp [names]⟩, fun q hq => by simp [names] at hq⟩, fun n_ hn_ => ?_⟩
  · intro hq0
    simp only [rdA, List.mem_cons, List.not_mem_nil, or_false] at hq0
    subst hq0
    rcases c4 0 hq with h | ⟨rs, h⟩
    · omega
    · rw [h0] at h; cases h
  generalize hθ : upd _ 0 _ = θ
  have t0 : θ 0 = some (boxO [.sc (.int .i64 x.kind), .s x.table, cv, .s x.key, .s x.index, rv, sv, .tr (x.items.map encE), .s x.join, .tr (x.on.map encE), .tr (x.where_.map encE), .tr (x.group.map encE), ov, .sc (.int .i64 x.limit)]) := by
    rw [← hθ]; exact upd_is rfl
  have tk : ∀ q, q ≠ 0 → θ q = ρ q := fun q hq => by rw [← hθ, upd_not hq, upd_not hq, upd_not hq, upd_not hq]
  clear hθ
  have tup : ∀ {v : AV} {k : Nat} {rows : List (List AV)}, OwnR ρ (n + 16 * 10) v k rows → OwnR θ (n + 16 * 10) v k rows := fun h => h.up (Nat.le_refl _) (fun j rs _ hj => tk j (by rintro rfl; rw [r0] at hj; cases hj))
  have trv := tup rrv; have tsv := tup rsv; have tcv := tup rcv; have tov := tup rov
  have t16 : θ 16 = some (boxO zSm) := (tk 16 (by omega)).trans r16
  clear tup tk r0 r16 rrv rsv rcv rov l2 l6 l12 h0 h16 hrv hsv c2 d2 c1 d1 c4 d4 hbn
  rw [show aLd θ none (.rf 0 14 0 7) = some (.tr (x.items.map encE)) from ld_box t0 rfl, bindP_some]
  refine callD_con0 (copyL_con2 x.items hb.items) rfl ?_
  rw [kd_plain_CopyStmt6, onEnd_ret, aFad_rf, bindP_some, show aLd θ none (.rf 0 14 0 (0 + 9)) = some (.tr (x.on.map encE)) from ld_box t0 rfl, bindP_some, applyW_nil]
  refine callD_con0 (copyL_con2 x.on hb.on) rfl ?_
  rw [kd_plain_CopyStmt5, onEnd_ret, aFad_rf, bindP_some, show aLd θ none (.rf 0 14 0 (0 + 10)) = some (.tr (x.where_.map encE)) from ld_box t0 rfl, bindP_some, applyW_nil]
  refine callD_con0 (copyL_con2 x.where_ hb.where_) rfl ?_
  rw [kd_plain_CopyStmt4, onEnd_ret, aFad_rf, bindP_some, show aLd θ none (.rf 0 14 0 (0 + 11)) = some (.tr (x.group.map encE)) from ld_box t0 rfl, bindP_some, applyW_nil]
  refine callD_con0 (copyL_con2 x.group hb.group) rfl ?_
  rw [kd_plain_CopyStmt3, onEnd_ret]
  simp only [aFad_rf, Nat.zero_add, bindP_some, applyW_nil]
  rw [st_box t0 ⟨rfl, rfl⟩ (by simp), bindH_some]
  simp only [applyW_cons, applyW_nil]
  rw [st_box (upd_is rfl) ⟨rfl, rfl⟩ (by simp [splice]), bindH_some]
  simp only [applyW_cons, applyW_nil]
  rw [st_box (upd_is rfl) ⟨rfl, rfl⟩ (by simp [splice]), bindH_some]
  simp only [applyW_cons, applyW_nil]
  rw [st_box (upd_is rfl) ⟨rfl, rfl⟩ (by simp [splice]), bindH_some]
  simp only [applyW_cons, applyW_nil]
  refine ⟨apt0 _ _, apt0 _ _, apt0 _ _, apt0 _ _, apt0 _ _, apt0 _ _, apt0 _ _, apt0 _ _, apt0 _ _, apt0 _ _, apt0 _ _, apt0 _ _, fun n2 hn2 => ?_⟩
  generalize hφ : upd _ 0 _ = φ
  have p0 : φ 0 = some (boxO [.sc (.int .i64 x.kind), .s x.table, cv, .s x.key, .s x.index, rv, sv, .tr (x.items.map encE), .s x.join, .tr (x.on.map encE), .tr (x.where_.map encE), .tr (x.group.map encE), ov, .sc (.int .i64 x.limit)]) := by
    rw [← hφ]; exact upd_is rfl
  have pk : ∀ q, q ≠ 0 → φ q = θ q := fun q hq => by rw [← hφ, upd_not hq, upd_not hq, upd_not hq, upd_not hq]
  clear hφ
  have p16 : φ 16 = some (boxO zSm) := (pk 16 (by omega)).trans t16
  have pl : aLd φ (some 14) (.rf 0 14 0 0) = some (.ag [.sc (.int .i64 x.kind), .s x.table, cv, .s x.key, .s x.index, rv, sv, .tr (x.items.map encE), .s x.join, .tr (x.on.map encE), .tr (x.where_.map encE), .tr (x.group.map encE), ov, .sc (.int .i64 x.limit)]) := by
    simp [aLd, p0, Am.part]
  rw [pl, bindP_some, st_box14 p16 rfl rfl (by simp only [List.all_cons, List.all_nil, tcv.leaf.1, trv.leaf.1, tsv.leaf.1, tov.leaf.1, leaf_int, leaf_s, leaf_tr, Bool.and_self]), bindS_some]
  simp only [applyW_cons, applyW_nil]
  rw [show aLd (upd φ 16 (some (boxO [.sc (.int .i64 x.kind), .s x.table, cv, .s x.key, .s x.index, rv, sv, .tr (x.items.map encE), .s x.join, .tr (x.on.map encE), .tr (x.where_.map encE), .tr (x.group.map encE), ov, .sc (.int .i64 x.limit)]))) (some 14) (.rf 16 14 0 0) = some (.ag [.sc (.int .i64 x.kind), .s x.table, cv, .s x.key, .s x.index, rv, sv, .tr (x.items.map encE), .s x.join, .tr (x.on.map encE), .tr (x.where_.map encE), .tr (x.group.map encE), ov, .sc (.int .i64 x.limit)]) from by
    simp [aLd, upd_is, Am.part], bindP_some]
  generalize hψ : upd φ 16 _ = ψ
  have up2 : ∀ {v : AV} {k : Nat} {rows : List (List AV)}, OwnR θ (n + 16 * 10) v k rows → OwnR ψ (n + 16 * 10) v k rows := fun h => h.up (Nat.le_refl _) (fun j rs _ hj => by
    have h0 : j ≠ 0 := by rintro rfl; rw [t0] at hj; cases hj
    have h16 : j ≠ 16 := by rintro rfl; rw [t16] at hj; cases hj
    rw [← hψ, upd_not h16]; exact pk j h0)
  obtain ⟨I1, b1⟩ := (up2 tcv).brw (by omega) 4
  obtain ⟨I2, b2⟩ := (up2 trv).brw (by omega) 4
  obtain ⟨I3, b3⟩ := (up2 tsv).brw (by omega) 4
  obtain ⟨I4, b4⟩ := (up2 tov).brw (by omega) 4
  rw [← HR.out]
  refine RC_ret (c := .ag (encSm x)) (I := [] ++ ([] ++ (I1 ++ ([] ++ ([] ++ (I2 ++ (I3 ++ ([] ++ ([] ++ ([] ++ ([] ++ ([] ++ (I4 ++ ([] ++ [])))))))))))))) ?_ rfl
  simp only [brw_ag, brwL_cons, brwL_nil, brw_sc, brw_s, brw_tr, b1, b2, b3, b4, Option.map_some, encSm]
end Go.Proofs.YtodoejfkjimeaaaGreatDoor

set_option linter.unusedSimpArgs false
set_option linter.unusedVariables false
set_option maxRecDepth 100000
namespace Go.Proofs.YtodoejfkjimeaaaGreatDoor
open Go Go.RowKit Am
attribute [-go_sem] guardP_if guardK_if guardD_if COND_bool
attribute [local go_sem low] guardP_if guardK_if guardD_if COND_bool
theorem zAlT (id : Nat) : hAlloc id [(.int .i64 0), (.string ⟨#[]⟩), (.slice none 0 0), (.string ⟨#[]⟩), (.string ⟨#[]⟩), (.slice none 0 0), (.slice none 0 0), (.slice none 0 0), (.string ⟨#[]⟩), (.slice none 0 0), (.slice none 0 0), (.slice none 0 0), (.slice none 0 0), (.int .i64 0)] = some (.rf id 14 0 0, [(id, some (boxO zSm))]) := rfl
theorem encSm_leafT (x : Sm) : (encSm x).all leafok = true := rfl
set_option maxHeartbeats 8000000 in
theorem syntaxTells_con (a : Sm) (t : Tx) (ha : SBd a ∧ SRg a) (ht : t.length ≤ 1048576) : Con Tryz.prog 3 [.ag (encSm a), .s t] (.ret (.sc (.bool true))) := by
  refine con_of (by_law04_SyntaxTells ?_)
  generalize hR : RC _ = R
  have HR := Lib.hid hR; clear hR
  rw [sh_law04_SyntaxTells]
  change bindS (some (.rf 0 14 0 0, [(0, some (boxO (encSm a)))])) _ _ _
  rw [bindS_some]
  simp only [applyW_cons, applyW_nil]
  generalize hτ : upd (fun _ => none) 0 (some (boxO (encSm a))) = τ
  have hA : τ 0 = some (boxO (encSm a)) := by rw [← hτ]; exact upd_is rfl
  clear hτ
  have br1 : ∀ (σ : Hp) (x : Sm), brwL σ 6 ([.ag (encSm x)] ++ []) = some ([.ag (encSm x)], []) := fun σ x => by simp only [List.append_nil, brwL_cons, brwL_nil, brw_ag, smBrw0, Option.map_some]
  have br2 : ∀ (σ : Hp) (x y : Sm), brwL σ 6 ([.ag (encSm x), .ag (encSm y)] ++ []) = some ([.ag (encSm x), .ag (encSm y)], []) := fun σ x y => by simp only [List.append_nil, brwL_cons, brwL_nil, brw_ag, smBrw0, Option.map_some]
  have HP := print_con a ha.1 ha.2
  have HQ := rfSPrint_con a ha.1 ha.2
  generalize psF a = pp at HP HQ
  obtain ⟨s, f⟩ := pp
  have ap1 : ∀ (r r' : List Nat), Apt (names []) r (names []) r' := fun r r' => by simp [Apt, names]
  rw [ldAll hA rfl, bindP_some]
  refine CALL_con0 (copyStmt_con a ha.1) (br1 _ _) ?_
  rw [kc_law04_SyntaxTells11, onEnd_ret, zAlT, bindS_some]
  simp only [applyW_cons, applyW_nil]
  rw [st_box14 (row := zSm) (upd_is rfl) rfl rfl (encSm_leafT a), bindS_some]
  simp only [applyW_cons, applyW_nil]
  generalize hμ : upd _ _ _ = μ
  have m0 : μ 0 = some (boxO (encSm a)) := by rw [← hμ, upd_not (by omega), upd_not (by omega)]; exact hA
  have m8 : μ (0 + 16) = some (boxO (encSm a)) := by rw [← hμ]; exact upd_is rfl
  clear hμ hA
  rw [ldAll m8 rfl, bindP_some]
  refine CALL_con0 HP (br1 _ _) ?_
  rw [kc_law04_SyntaxTells10, onEnd_ret, aExt_tp, show ([AV.s s, .sc (.int .i64 f)] : List AV)[0]? = some (.s s) from rfl, bindP_some, aExt_tp, show ([AV.s s, .sc (.int .i64 f)] : List AV)[1]? = some (.sc (.int .i64 f)) from rfl, bindP_some, ldAll m0 rfl, bindP_some]
  refine CALL_con0 HQ (br1 _ _) ?_
  rw [kc_law04_SyntaxTells9, onEnd_ret, aExt_tp, show ([AV.s s, .sc (.int .i64 f)] : List AV)[0]? = some (.s s) from rfl, bindP_some, aExt_tp, show ([AV.s s, .sc (.int .i64 f)] : List AV)[1]? = some (.sc (.int .i64 f)) from rfl, bindP_some, ldAll m8 rfl, bindP_some]
  refine callD_con0 (check_con a ha.1) (br1 _ _) ?_
  rw [kd_law04_SyntaxTells8, onEnd_ret, applyW_nil]
  refine callD_con0 (num4_con (checkF a)) rfl ?_
  rw [kd_law04_SyntaxTells7, onEnd_ret, applyW_nil, ldAll m0 rfl, bindP_some]
  refine callD_con0 (rfSCheck_con a ha.1 ha.2) (br1 _ _) ?_
  rw [kd_law04_SyntaxTells6, onEnd_ret, bin_eql, decide_eq_true rfl, bindP_some]
  simp only [guardP_on, guardD_on, bindP_some, applyW_nil, binS_eql, decide_true, aPick_b, cond_true]
  refine callD_con0 (num4_con f) rfl ?_
  rw [kd_law04_SyntaxTells1, onEnd_ret]
  simp only [guardP_on, guardD_on, bindP_some, applyW_nil, bin_eql, decide_true, aPick_b, cond_true]
  refine callD_con0 (name_con t (by omega)) rfl ?_
  rw [kd_law04_SyntaxTells2, onEnd_ret]
  simp only [applyW_nil]
  refine callD_con0 (rfName_con t ht) rfl ?_
  rw [kd_law04_SyntaxTells3, onEnd_ret, aEqb_b, bindP_some]
  rw [show bb (if false = true then !(nameL t == nameL t) else (nameL t == nameL t)) = .sc (.bool true) from by simp [bb]]
  simp only [guardP_on, guardD_on, bindP_some, applyW_nil, aPick_b, cond_true]
  rw [ldAll m8 rfl, bindP_some, ldAll m0 rfl, bindP_some]
  refine callD_con0 (sameStmt_con a a) (br2 _ _ _) ?_
  rw [kd_law04_SyntaxTells4, onEnd_ret, eqB_t rfl]
  simp only [guardP_on, guardD_on, bindP_some, applyW_nil, aPick_b, cond_true]
  refine callD_con0 alive4_con rfl ?_
  rw [kd_law04_SyntaxTells5, onEnd_ret]
  simp only [bindP_some, applyW_nil, aPick_b, cond_true]
  refine ⟨ap1 _ _, ap1 _ _, ap1 _ _, ap1 _ _, fun n2 hn2 => ?_⟩
  rw [← HR.out]
  exact RC_ret rfl rfl
end Go.Proofs.YtodoejfkjimeaaaGreatDoor
