/- Packed by a program of this repo: Vp Uf Do Df Dg Dh Dq. -/
import Derived.Test.YtodoejfkjimeaaaGreatDoorKTUd
import Derived.Test.YtodoejfkjimeaaaGreatDoorKTUe
import Derived.Test.YtodoejfkjimeaaaGreatDoorKTSh6
import Derived.Test.YtodoejfkjimeaaaGreatDoorKTCx
import Derived.Test.YtodoejfkjimeaaaGreatDoorKTDd
import Derived.Test.YtodoejfkjimeaaaGreatDoorKTDj
set_option linter.unusedSimpArgs false
set_option linter.unusedVariables false
set_option maxRecDepth 100000
namespace Go.Proofs.YtodoejfkjimeaaaGreatDoor
open Go Go.RowKit Am
attribute [-go_sem] guardP_if guardK_if guardD_if COND_bool
attribute [local go_sem low] guardP_if guardK_if guardD_if COND_bool
theorem ldAll {σ : Hp} {i : Nat} {row : List AV} (h : σ i = some (.c ⟨14, [row], true, false⟩)) (hr : row.length = 14) : aLd σ (some 14) (.rf i 14 0 0) = some (.ag row) := by
  have ht : row.take 14 = row := List.take_of_length_le (by omega)
  simp [aLd, h, Am.part, hr, ht]
theorem psOk {x : Sm} (h : checkF x = 0) : psF x = (stmtT x, 0) := if_pos h
theorem psNo {x : Sm} (h : checkF x ≠ 0) : psF x = ([], checkF x) := if_neg h
theorem row_head {l : List Ep} (h : 1 ≤ l.length) : rowT l = [40] ++ joinT [] (l.map printF) ++ [41] := by
  unfold rowT
  rw [joinT_head (h := [40]) (by intro e; rw [List.map_eq_nil_iff] at e; subst e; simp at h)]
theorem rfRows_loop (x : Sm) (hb : SBd x) (hg : SRg x) (hk : SOk x) (B : Tx) (hB : B.length ≤ 2000000) {R : AEnd → Hp → Nat → Prop} {σ : Hp} {n : Nat}
    (hA : σ 0 = some (.c ⟨14, [encSm x], true, false⟩)) (hR : ∀ σ n, R (.ret (.tp [.s (B ++ joinT [] (x.rows.map rowT)), .sc (.int .i64 0)])) σ n) :
    LOOP (lb_ref04_Print4 (.rf 0 14 0 0) R) [.tp [], .tp [], .s B, .sc (.int .i64 0)] σ n := by
  have hlen := joinT_le2 rowT x.rows [] 140000000000 16 (fun l hl => by
    have := exprs_len [40] 8 (hb.row l hl) (hk.ok _ (in_rows hl)) (hk.row l hl).2
    simp only [List.length_cons, List.length_nil] at this
    unfold rowT
    simp only [List.length_append, List.length_cons, List.length_nil]
    omega) hk.rows
  simp only [List.length_nil] at hlen
  have HR := Lib.hid hR; clear hR
  have l5 : aLd σ none (.rf 0 14 0 5) = some (.tr (x.rows.map encRx)) := ld_box hA rfl
  refine LOOP_list x.rows (fun i st => ∃ p q, st = [p, q, .s (B ++ joinT [] ((x.rows.take i).map rowT)), .sc (.int .i64 i)]) ⟨.tp [], .tp [], by simp [joinT]⟩ ?_ ?_
  · rintro i l K st n' hx hi hi' hn ⟨p, q, rfl⟩ hK
    have hm := List.mem_of_getElem? hx
    have ht := joinT_take rowT [] hx
    have hle := joinT_le (x.rows.map rowT) [] i
    rw [← List.map_take] at hle
    have hrow := hk.row l hm
    have hle2 := exprs_len [] 8 (hb.row l hm) (hk.ok _ (in_rows hm)) hrow.2
    simp only [List.length_nil] at hle2
    have ia : aIad 1 (.tr (x.rows.map encRx)) (.sc (.int .i64 i)) = some (.fp (encRx l)) := by rw [aIad_tr, if_pos (by omega), Int.toNat_natCast, List.getElem?_map, hx]; rfl
    rw [lb_ref04_Print4]
    simp only [List.getD_cons_succ, List.getD_cons_zero, aFad_rf, Nat.zero_add, bindP_some, l5, len_tr]
    intro hbn
    rw [bindP_ltI, COND_yes hi', JOIN_eq, bin_gtr, bindP_some]
    have go : ∀ (v : AV) (t : Tx), t = B ++ joinT [] ((x.rows.take i).map rowT) ++ (if i = 0 then [] else [44, 32]) → jk_ref04_Print3 (.rf 0 14 0 0) [p, q, .s (B ++ joinT [] ((x.rows.take i).map rowT)), .sc (.int .i64 i)] K (.sc (.bool (decide ((i : Int) < (x.rows.length : Int))))) R [v, .s t] σ n' := by
      intro v t ht0
      have lt0 : t.length ≤ 3000000000000 := by
        rw [ht0]; split <;> simp only [List.length_append, List.length_cons, List.length_nil] <;> omega
      rw [jk_ref04_Print3]
      simp only [List.getD_cons_succ, List.getD_cons_zero, aFad_rf, Nat.zero_add, bindP_some, l5]
      rw [bindP_addT (by simp only [List.length_cons, List.length_nil]; omega), ia, bindP_some, show aLd σ none (.fp (encRx l)) = some (.tr (l.map encE)) from rfl, bindP_some]
      refine CALL_con0 (rfList_con l (hb.row l hm) (hg.row l hm) (hk.ok _ (in_rows hm)) (by omega)) rfl ?_
      rw [kc_ref04_Print2, onEnd_ret]
      simp only [List.getD_cons_succ, List.getD_cons_zero]
      rw [bindP_addT (by simp only [List.length_append, List.length_cons, List.length_nil]; omega), bindP_addT (by simp only [List.length_append, List.length_cons, List.length_nil]; omega), addI hi' hbn (List.length_map _), bindP_some]
      have e : t ++ [40] ++ joinT [] (l.map printF) ++ [41] = B ++ joinT [] ((x.rows.take (i + 1)).map rowT) := by
        rw [ht0, ht, row_head hrow.1]
        simp only [List.append_assoc]
      rw [e]
      exact hK _ _ (Nat.le_refl _) ⟨_, _, rfl⟩
    by_cases h0 : i = 0
    · subst h0
      rw [COND_no (by simp)]
      exact go _ _ (by simp)
    · rw [COND_yes (by omega), bindP_addT (by simp only [List.length_append, List.length_cons, List.length_nil]; omega)]
      exact go _ _ (by rw [if_neg h0])
  · rintro K st n' hn ⟨p, q, rfl⟩
    rw [lb_ref04_Print4]
    simp only [List.getD_cons_succ, List.getD_cons_zero, aFad_rf, Nat.zero_add, bindP_some, l5, len_tr]
    intro hbn
    rw [bindP_ltI, COND_no (Int.lt_irrefl _), List.take_length]
    exact HR.out _ _
theorem rfSets_loop (x : Sm) (hb : SBd x) (hg : SRg x) (hk : SOk x) (B : Tx) (hB : B.length ≤ 2000000) {R : AEnd → Hp → Nat → Prop} {σ : Hp} {n : Nat}
    (hA : σ 0 = some (.c ⟨14, [encSm x], true, false⟩)) (hR : ∀ σ n, R (.ret (.tp [.s (B ++ joinT [] (x.sets.map setT) ++ whereT x), .sc (.int .i64 0)])) σ n) :
    LOOP (lb_ref04_Print8 (.rf 0 14 0 0) R) [.tp [], .tp [], .s B, .sc (.int .i64 0)] σ n := by
  have hlen := joinT_le2 setT x.sets [] 20000000000 8 (fun s hs => by
    have := pf_len (hk.ok _ (in_sets hs) s.ex (by simp)) (hb.set s hs).2
    have h2 := (hb.set s hs).1
    unfold setT
    simp only [List.length_append, List.length_cons, List.length_nil]
    omega) hk.sets
  have lw := exprs_len [32, 87, 72, 69, 82, 69, 32] 1 hb.where_ (hk.ok _ (in_where x)) hk.where_
  simp only [List.length_cons, List.length_nil] at hlen lw
  have HR := Lib.hid hR; clear hR
  have l6 : aLd σ none (.rf 0 14 0 6) = some (.tr (x.sets.map encS)) := ld_box hA rfl
  have l10 : aLd σ none (.rf 0 14 0 10) = some (.tr (x.where_.map encE)) := ld_box hA rfl
  refine LOOP_list x.sets (fun i st => ∃ p q, st = [p, q, .s (B ++ joinT [] ((x.sets.take i).map setT)), .sc (.int .i64 i)]) ⟨.tp [], .tp [], by simp [joinT]⟩ ?_ ?_
  · rintro i s K st n' hx hi hi' hn ⟨p, q, rfl⟩ hK
    have hm := List.mem_of_getElem? hx
    have ht := joinT_take setT [] hx
    have hle := joinT_le (x.sets.map setT) [] i
    rw [← List.map_take] at hle
    have hsn := (hb.set s hm).1
    have hke := hk.ok _ (in_sets hm) s.ex (by simp)
    have hpl := pf_len hke (hb.set s hm).2
    have ia : aIad 8 (.tr (x.sets.map encS)) (.sc (.int .i64 i)) = some (.fp (encS s)) := by rw [aIad_tr, if_pos (by omega), Int.toNat_natCast, List.getElem?_map, hx]; simp [encS_len]
    rw [lb_ref04_Print8]
    simp only [List.getD_cons_succ, List.getD_cons_zero, aFad_rf, Nat.zero_add, bindP_some, l6, len_tr]
    intro hbn
    rw [bindP_ltI, COND_yes hi', JOIN_eq, bin_gtr, bindP_some]
    have go : ∀ (v : AV) (t : Tx), t = B ++ joinT [] ((x.sets.take i).map setT) ++ (if i = 0 then [] else [44, 32]) → jk_ref04_Print6 (.rf 0 14 0 0) [p, q, .s (B ++ joinT [] ((x.sets.take i).map setT)), .sc (.int .i64 i)] K (.sc (.bool (decide ((i : Int) < (x.sets.length : Int))))) R [v, .s t] σ n' := by
      intro v t ht0
      have lt0 : t.length ≤ 3000000000000 := by
        rw [ht0]; split <;> simp only [List.length_append, List.length_cons, List.length_nil] <;> omega
      have hp := rfPrinted_con 12 s.ex (by omega) hke (hb.set s hm).2 (hg.set s hm)
      rw [jk_ref04_Print6]
      simp only [List.getD_cons_succ, List.getD_cons_zero, aFad_rf, Nat.zero_add, bindP_some, l6]
      rw [ia, bindP_some, show aFad 0 (.fp (encS s)) = some (.fp (encS s)) from rfl, bindP_some, show aLd σ none (.fp (encS s)) = some (.s s.name) from rfl, bindP_some, bindP_addT (by omega), bindP_addT (by simp only [List.length_append, List.length_cons, List.length_nil]; omega), bindP_some, show aFad 1 (.fp (encS s)) = some (.fp (encE s.ex)) from by rw [← encS_fe]; exact if_pos (by rw [encS_len]; omega), bindP_some, show aLd σ (some 7) (.fp (encE s.ex)) = some (.ag (encE s.ex)) from by simp [aLd, Am.part, encE_eq], bindP_some]
      refine callD_con0 hp (by simp only [brwL_cons, brwL_nil, brw_ag, encE_brw, List.append_nil, Option.map_some]) ?_
      rw [kd_ref04_Print5, onEnd_ret, bindP_addT (by simp only [List.length_append, List.length_cons, List.length_nil]; omega)]
      refine ⟨aptn _ _, aptn _ _, aptn _ _, aptn _ _, aptn _ _, aptn _ _, fun n2 hn2 => ?_⟩
      simp only [List.getD_cons_succ, List.getD_cons_zero, applyW_nil]
      rw [addI hi' hbn (List.length_map _), bindP_some]
      have e : t ++ s.name ++ [32, 61, 32] ++ printF s.ex = B ++ joinT [] ((x.sets.take (i + 1)).map setT) := by
        rw [ht0, ht, setT]
        simp only [List.append_assoc]
      rw [e]
      exact hK _ _ (by omega) ⟨_, _, rfl⟩
    by_cases h0 : i = 0
    · subst h0
      rw [COND_no (by simp)]
      exact go _ _ (by simp)
    · rw [COND_yes (by omega), bindP_addT (by simp only [List.length_append, List.length_cons, List.length_nil]; omega)]
      exact go _ _ (by rw [if_neg h0])
  · rintro K st n' hn ⟨p, q, rfl⟩
    rw [lb_ref04_Print8]
    simp only [List.getD_cons_succ, List.getD_cons_zero, aFad_rf, Nat.zero_add, bindP_some, l6, l10, len_tr]
    intro hbn
    rw [bindP_ltI, COND_no (Int.lt_irrefl _), List.take_length]
    refine CALL_con0 (rfWith_con [87, 72, 69, 82, 69] x.where_ hb.where_ hg.where_ (hk.ok _ (in_where x)) hk.where_ (by decide)) rfl ?_
    rw [show ([32] ++ [87, 72, 69, 82, 69] ++ [32] : Tx) = [32, 87, 72, 69, 82, 69, 32] from rfl, kc_ref04_Print7, onEnd_ret]
    simp only [List.getD_cons_succ, List.getD_cons_zero]
    rw [bindP_addT (by simp only [List.length_append]; omega)]
    exact HR.out _ _
set_option maxHeartbeats 8000000 in
theorem rfSPrint_con (x : Sm) (hb : SBd x) (hg : SRg x) : Con Tryz.prog 6 [.ag (encSm x)] (.ret (.tp [.s (psF x).1, .sc (.int .i64 (psF x).2)])) := by
  refine con_of (by_ref04_Print ?_)
  generalize hR : RC _ = R
  have HR := Lib.hid hR; clear hR
  rw [sh_ref04_Print]
  change bindS (some (.rf 0 14 0 0, [(0, some (.c ⟨14, [encSm x], true, false⟩))])) _ _ _
  rw [bindS_some]
  simp only [applyW_cons, applyW_nil]
  generalize hτ : upd _ 0 _ = τ
  have hA : τ 0 = some (.c ⟨14, [encSm x], true, false⟩) := by rw [← hτ]; exact upd_is rfl
  clear hτ
  have br1 : ∀ (σ : Hp) (x : Sm), brwL σ 6 ([.ag (encSm x)] ++ []) = some ([.ag (encSm x)], []) := fun σ x => by simp only [List.append_nil, brwL_cons, brwL_nil, brw_ag, smBrw0, Option.map_some]
  have l14 := ldAll hA rfl
  rw [l14, bindP_some]
  refine CALL_con0 (rfSCheck_con x hb hg) (br1 _ _) ?_
  rw [kc_ref04_Print11, onEnd_ret, bin_neq, bindP_some]
  by_cases hc' : checkF x ≠ 0
  · rw [psNo hc'] at HR
    rw [show (!decide (checkF x = 0)) = true by simp [hc'], COND_true, ← HR.out]
    exact RC_ret rfl rfl
  have hc : checkF x = 0 := Classical.byContradiction hc'
  clear hc'
  have hk := checkF_ok x hc
  have hs := checkF_sh x hc
  rw [psOk hc] at HR
  rw [hc, show (!decide ((0 : Int) = 0)) = false from rfl, COND_false]
  have fin : ∀ (t : Tx) σ n, stmtT x = t → R (.ret (.tp [.s t, .sc (.int .i64 0)])) σ n := fun t σ n e => by rw [← HR.out, ← e]; exact RC_ret rfl rfl
  clear HR
  have e1 := hb.table; have e2 := hb.key; have e3 := hb.index
  have g0 : aLd τ none (.rf 0 14 0 0) = some (.sc (.int .i64 x.kind)) := ld_box hA rfl
  have g1 : aLd τ none (.rf 0 14 0 1) = some (.s x.table) := ld_box hA rfl
  have g3 : aLd τ none (.rf 0 14 0 3) = some (.s x.key) := ld_box hA rfl
  have g4 : aLd τ none (.rf 0 14 0 4) = some (.s x.index) := ld_box hA rfl
  have g10 : aLd τ none (.rf 0 14 0 10) = some (.tr (x.where_.map encE)) := ld_box hA rfl
  have hT : stmtT x = if x.kind = 1 then createT x
    else if x.kind = 2 then [67, 82, 69, 65, 84, 69, 32, 73, 78, 68, 69, 88, 32] ++ x.index ++ [32, 79, 78, 32] ++ x.table ++ [32, 40] ++ x.key ++ [41]
    else if x.kind = 3 then [68, 82, 79, 80, 32, 84, 65, 66, 76, 69, 32] ++ x.table
    else if x.kind = 4 then [73, 78, 83, 69, 82, 84, 32, 73, 78, 84, 79, 32] ++ x.table ++ joinT [32, 86, 65, 76, 85, 69, 83, 32] (x.rows.map rowT)
    else if x.kind = 5 then [85, 80, 68, 65, 84, 69, 32] ++ x.table ++ joinT [32, 83, 69, 84, 32] (x.sets.map setT) ++ whereT x
    else if x.kind = 6 then [68, 69, 76, 69, 84, 69, 32, 70, 82, 79, 77, 32] ++ x.table ++ whereT x
    else if x.kind = 7 then queryT x
    else ([[66, 69, 71, 73, 78], [67, 79, 77, 77, 73, 84], [82, 79, 76, 76, 66, 65, 67, 75]] : List Tx).getD (x.kind - 8).toNat [] := rfl
  rw [aFad_rf, bindP_some, g0, bindP_some, bindP_eqI]
  by_cases k1 : x.kind = 1
  · rw [if_pos k1] at hT
    have hcl := colsT_len x.columns x.columns.length hb.col hk.cols
    rw [List.take_length] at hcl
    rw [COND_yes k1]
    simp only [aFad_rf, Nat.zero_add, bindP_some, g1]
    rw [bindP_addT (by simp only [List.length_cons, List.length_nil]; omega), bindP_addT (by simp only [List.length_append, List.length_cons, List.length_nil]; omega), l14, bindP_some]
    refine callD_con0 (rfColumns_con x hb hk) (br1 _ _) ?_
    rw [kd_ref04_Print1, onEnd_ret]
    simp only [aFad_rf, Nat.zero_add, bindP_some, g3]
    rw [bindP_addT (by simp only [List.length_append, List.length_cons, List.length_nil]; omega), bindP_addT (by simp only [List.length_append, List.length_cons, List.length_nil]; omega), bindP_addT (by simp only [List.length_append, List.length_cons, List.length_nil]; omega), bindP_addT (by simp only [List.length_append, List.length_cons, List.length_nil]; omega)]
    refine ⟨aptn _ _, aptn _ _, aptn _ _, aptn _ _, aptn _ _, fun n2 hn2 => ?_⟩
    refine fin _ _ _ ?_
    have hci := colsT_is x.columns [32, 40] (fun e => absurd e (hs.cols.1 k1))
    rw [hT, createT]
    have e44 : ([44, 32, 80, 82, 73, 77, 65, 82, 89, 32, 75, 69, 89, 32, 40] : Tx) = [44, 32] ++ [80, 82, 73, 77, 65, 82, 89, 32, 75, 69, 89, 32, 40] := rfl
    rw [e44]
    have : ∀ (a b c d e f : Tx), b ++ c = d ++ e → a ++ b ++ (c ++ f) = a ++ d ++ e ++ f := by
      intro a b c d e f h
      rw [List.append_assoc a d e, ← h]; simp only [List.append_assoc]
    have h2 := this ([67, 82, 69, 65, 84, 69, 32, 84, 65, 66, 76, 69, 32] ++ x.table) _ _ _ _ ([80, 82, 73, 77, 65, 82, 89, 32, 75, 69, 89, 32, 40] ++ x.key ++ [41, 41]) hci
    simp only [List.append_assoc] at h2 ⊢
    exact h2
  rw [if_neg k1] at hT
  rw [COND_no k1, bindP_eqI]
  by_cases k2 : x.kind = 2
  · rw [if_pos k2] at hT
    rw [COND_yes k2]
    simp only [aFad_rf, bindP_some, Nat.zero_add, g1, g3, g4]
    rw [bindP_addT (by simp only [List.length_append, List.length_cons, List.length_nil]; omega), bindP_addT (by simp only [List.length_append, List.length_cons, List.length_nil]; omega), bindP_addT (by simp only [List.length_append, List.length_cons, List.length_nil]; omega), bindP_addT (by simp only [List.length_append, List.length_cons, List.length_nil]; omega), bindP_addT (by simp only [List.length_append, List.length_cons, List.length_nil]; omega), bindP_addT (by simp only [List.length_append, List.length_cons, List.length_nil]; omega)]
    exact fin _ _ _ hT
  rw [if_neg k2] at hT
  rw [COND_no k2, bindP_eqI]
  by_cases k3 : x.kind = 3
  · rw [if_pos k3] at hT
    rw [COND_yes k3]
    simp only [aFad_rf, bindP_some, Nat.zero_add, g1]
    rw [bindP_addT (by simp only [List.length_append, List.length_cons, List.length_nil]; omega)]
    exact fin _ _ _ hT
  rw [if_neg k3] at hT
  rw [COND_no k3, bindP_eqI]
  by_cases k4 : x.kind = 4
  · rw [if_pos k4] at hT
    rw [COND_yes k4]
    simp only [aFad_rf, bindP_some, Nat.zero_add, g1]
    rw [bindP_addT (by simp only [List.length_append, List.length_cons, List.length_nil]; omega), bindP_addT (by simp only [List.length_append, List.length_cons, List.length_nil]; omega)]
    refine rfRows_loop x hb hg hk _ (by simp only [List.length_append, List.length_cons, List.length_nil]; omega) hA (fun σ n => fin _ _ _ ?_)
    rw [hT, joinT_head (h := [32, 86, 65, 76, 85, 69, 83, 32]) (by simpa using hs.rows.1 k4)]
    simp only [List.append_assoc]
  rw [if_neg k4] at hT
  rw [COND_no k4, bindP_eqI]
  by_cases k5 : x.kind = 5
  · rw [if_pos k5] at hT
    rw [COND_yes k5]
    simp only [aFad_rf, bindP_some, Nat.zero_add, g1]
    rw [bindP_addT (by simp only [List.length_append, List.length_cons, List.length_nil]; omega), bindP_addT (by simp only [List.length_append, List.length_cons, List.length_nil]; omega)]
    refine rfSets_loop x hb hg hk _ (by simp only [List.length_append, List.length_cons, List.length_nil]; omega) hA (fun σ n => fin _ _ _ ?_)
    rw [hT, joinT_head (h := [32, 83, 69, 84, 32]) (by simpa using hs.sets.1 k5)]
    simp only [List.append_assoc]
  rw [if_neg k5] at hT
  rw [COND_no k5, bindP_eqI]
  by_cases k6 : x.kind = 6
  · rw [if_pos k6] at hT
    have lw := exprs_len [32, 87, 72, 69, 82, 69, 32] 1 hb.where_ (hk.ok _ (in_where x)) hk.where_
    simp only [List.length_cons, List.length_nil] at lw
    rw [COND_yes k6]
    simp only [aFad_rf, bindP_some, Nat.zero_add, g1, g10]
    rw [bindP_addT (by simp only [List.length_append, List.length_cons, List.length_nil]; omega)]
    refine callD_con0 (rfWith_con [87, 72, 69, 82, 69] x.where_ hb.where_ hg.where_ (hk.ok _ (in_where x)) hk.where_ (by decide)) rfl ?_
    rw [show ([32] ++ [87, 72, 69, 82, 69] ++ [32] : Tx) = [32, 87, 72, 69, 82, 69, 32] from rfl, kd_ref04_Print9, onEnd_ret, bindP_addT (by simp only [List.length_append, List.length_cons, List.length_nil]; omega)]
    refine ⟨aptn _ _, aptn _ _, fun n2 hn2 => fin _ _ _ ?_⟩
    rw [hT, whereT]
  rw [if_neg k6] at hT
  rw [COND_no k6, bindP_eqI]
  by_cases k7 : x.kind = 7
  · rw [if_pos k7] at hT
    rw [COND_yes k7, l14, bindP_some]
    refine CALL_con0 (rfSelected_con x hb hg hk hs k7) (br1 _ _) ?_
    rw [kc_ref04_Print10, onEnd_ret]
    exact fin _ _ _ hT
  rw [if_neg k7] at hT
  rw [COND_no k7]
  have hkk : x.kind = 8 ∨ x.kind = 9 ∨ x.kind = 10 := by have := hk.kind1; have := hk.kind10; omega
  change bindS (some (.ow _ 1 0 3, [(_, some (Ob.c ⟨1, txRows [[66, 69, 71, 73, 78], [67, 79, 77, 77, 73, 84], [82, 79, 76, 76, 66, 65, 67, 75]], true, true⟩))])) _ _ _
  rw [bindS_some]
  simp only [applyW_cons, applyW_nil]
  obtain ⟨t, j, h2, h3, h4, h5⟩ : ∃ (t : Tx) (j : Nat), semBin .sub (.sc (.int .i64 x.kind)) (.sc (.int .i64 8)) = some (.sc (.int .i64 (j : Int))) ∧ j < 3 ∧ (txRows [[66, 69, 71, 73, 78], [67, 79, 77, 77, 73, 84], [82, 79, 76, 76, 66, 65, 67, 75]])[j]? = some [.s t] ∧ stmtT x = t := by
    rcases hkk with kk | kk | kk
    · exact ⟨_, 0, by rw [kk, bin_sub, wrapI (by omega) (by omega)]; rfl, by omega, rfl, by rw [hT, kk]; rfl⟩
    · exact ⟨_, 1, by rw [kk, bin_sub, wrapI (by omega) (by omega)]; rfl, by omega, rfl, by rw [hT, kk]; rfl⟩
    · exact ⟨_, 2, by rw [kk, bin_sub, wrapI (by omega) (by omega)]; rfl, by omega, rfl, by rw [hT, kk]; rfl⟩
  generalize hμ : upd τ _ _ = μ
  have m0 : μ 0 = some (.c ⟨14, [encSm x], true, false⟩) := by rw [← hμ, upd_not (by omega)]; exact hA
  have m1 : μ (0 + 16) = some (.c ⟨1, txRows [[66, 69, 71, 73, 78], [67, 79, 77, 77, 73, 84], [82, 79, 76, 76, 66, 65, 67, 75]], true, true⟩) := by rw [← hμ]; exact upd_is rfl
  clear hμ
  have q0 : aLd μ none (.rf 0 14 0 0) = some (.sc (.int .i64 x.kind)) := ld_box m0 rfl
  rw [bindP_some, q0, bindP_some, h2, bindP_some, aIad_ow, if_pos ⟨rfl, by omega, by omega⟩, bindP_some, aLd_rf, m1]
  simp only [if_true, Nat.zero_add, Int.toNat_natCast, h4, part_none, List.getElem?_cons_zero, bindP_some]
  exact fin _ _ _ h5
end Go.Proofs.YtodoejfkjimeaaaGreatDoor

set_option linter.unusedSimpArgs false
set_option linter.unusedVariables false
set_option maxRecDepth 100000
namespace Go.Proofs.YtodoejfkjimeaaaGreatDoor
open Go Go.RowKit Am
attribute [-go_sem] guardP_if guardK_if guardD_if COND_bool
attribute [local go_sem low] guardP_if guardK_if guardD_if COND_bool
theorem or5 {b c : Bool} {o1 o3 : Option AV} {f2 f4 : AV → Option AV} {f5 : AV → AV → Option AV} {p1 p2 p3 p4 : AV} (h1 : o1 = some p1) (h2 : f2 p1 = some p2) (h3 : o3 = some p3) (h4 : f4 p3 = some p4) (h5 : f5 p2 p4 = some (.sc (.bool c))) (K : AV → Prop) (hK : K (.sc (.bool (b || c)))) :
    guardP (.sc (.bool b)) false o1 fun x1 => guardP (.sc (.bool b)) false (f2 x1) fun x2 => guardP (.sc (.bool b)) false o3 fun x3 => guardP (.sc (.bool b)) false (f4 x3) fun x4 => guardP (.sc (.bool b)) false (f5 x2 x4) fun x5 =>
      bindP (aPick (.sc (.bool b)) (.sc (.bool true)) x5) K := by
  cases b
  · simp only [guardP_on, h1, h2, h3, h4, h5, bindP_some, aPick_b, cond_false]; exact hK
  · simp only [guardP_t, bindP_some, aPick_b, cond_true]; exact hK
theorem or7 {b c : Bool} {o1 o4 : Option AV} {f2 f3 f5 f6 : AV → Option AV} {f7 : AV → AV → Option AV} {p1 p2 p3 p4 p5 p6 : AV} (h1 : o1 = some p1) (h2 : f2 p1 = some p2) (h3 : f3 p2 = some p3) (h4 : o4 = some p4) (h5 : f5 p4 = some p5) (h6 : f6 p5 = some p6) (h7 : f7 p3 p6 = some (.sc (.bool c))) (K : AV → Prop) (hK : K (.sc (.bool (b || c)))) :
    guardP (.sc (.bool b)) false o1 fun x1 => guardP (.sc (.bool b)) false (f2 x1) fun x2 => guardP (.sc (.bool b)) false (f3 x2) fun x3 => guardP (.sc (.bool b)) false o4 fun x4 => guardP (.sc (.bool b)) false (f5 x4) fun x5 => guardP (.sc (.bool b)) false (f6 x5) fun x6 => guardP (.sc (.bool b)) false (f7 x3 x6) fun x7 =>
      bindP (aPick (.sc (.bool b)) (.sc (.bool true)) x7) K := by
  cases b
  · simp only [guardP_on, h1, h2, h3, h4, h5, h6, h7, bindP_some, aPick_b, cond_false]; exact hK
  · simp only [guardP_t, bindP_some, aPick_b, cond_true]; exact hK
theorem apt0 (r r' : List Nat) : Apt (names []) r (names []) r' := by simp [Apt, names]
theorem eqs_C (x y : Cl) : aEqs [2, 0, 1] true (.ag (encC x)) (.ag (encC y)) = some (.sc (.bool (!eqB (x = y)))) := by
  obtain ⟨x0, x1, x2⟩ := x
  obtain ⟨y0, y1, y2⟩ := y
  have e : eqB (Cl.mk x0 x1 x2 = Cl.mk y0 y1 y2) = (decide (x0 = y0) && decide (x1 = y1) && decide (x2 = y2)) := by
    rw [Bool.eq_iff_iff, eqB_iff]; simp [and_assoc]
  rw [e]
  cases x2 <;> cases y2 <;> simp [aEqs, encC, eqK, bb, beqL, beqI] <;> (try rw [Bool.and_comm]) <;> rfl
theorem eqs_O (x y : Od) : aEqs [0, 1] true (.ag (encO x)) (.ag (encO y)) = some (.sc (.bool (!eqB (x = y)))) := by
  obtain ⟨x1, x2⟩ := x
  obtain ⟨y1, y2⟩ := y
  have e : eqB (Od.mk x1 x2 = Od.mk y1 y2) = (decide (x1 = y1) && decide (x2 = y2)) := by
    rw [Bool.eq_iff_iff, eqB_iff]; simp
  rw [e]
  cases x2 <;> cases y2 <;> simp [aEqs, encO, eqK, bb, beqI] <;> rfl
def scB (a b : Sm) : Bool := !decide (a.kind = b.kind) || !decide (a.table = b.table) || !decide (a.key = b.key) || !decide (a.index = b.index) || !decide (a.join = b.join) || !decide (a.limit = b.limit)
def lnB (a b : Sm) : Bool := !decide ((a.columns.length : Int) = b.columns.length) || !decide ((a.rows.length : Int) = b.rows.length) || !decide ((a.sets.length : Int) = b.sets.length) || !decide ((a.order.length : Int) = b.order.length)
theorem scB_ne {a b : Sm} (h : scB a b = true) : a ≠ b := by
  rintro rfl; simp [scB] at h
theorem lnB_ne {a b : Sm} (h : lnB a b = true) : a ≠ b := by
  rintro rfl; simp [lnB] at h
theorem lnB_eq {a b : Sm} (h : lnB a b = false) : a.columns.length = b.columns.length ∧ a.rows.length = b.rows.length ∧ a.sets.length = b.sets.length ∧ a.order.length = b.order.length := by
  simp [lnB] at h; omega
theorem sm_one {a b : Sm} (h : scB a b = false) (h1 : a.columns = b.columns) (h2 : a.rows = b.rows) (h3 : a.sets = b.sets) (h4 : a.order = b.order) (h5 : a.items = b.items) (h6 : a.on = b.on) (h7 : a.where_ = b.where_) (h8 : a.group = b.group) : a = b := by
  obtain ⟨a1, a2, a3, a4, a5, a6, a7, a8, a9, a10, a11, a12, a13, a14⟩ := a
  obtain ⟨b1, b2, b3, b4, b5, b6, b7, b8, b9, b10, b11, b12, b13, b14⟩ := b
  simp [scB] at h h1 h2 h3 h4 h5 h6 h7 h8
  simp_all
theorem bin_addI {i : Nat} {m : Nat} (h : (i : Int) < m) {σ : Hp} {rows : List (List AV)} (hb : bnd σ (.tr rows)) (hm : rows.length = m) : semBin .add (.sc (.int .i64 i)) (.sc (.int .i64 1)) = some (.sc (.int .i64 ((i + 1 : Nat) : Int))) := by
  have hb' : rows.length ≤ 4611686018427387904 := hb
  rw [bin_add, wrapI (by omega) (by omega)]; rfl
theorem sameL_con2 (l m : List Ep) : Con Tryz.prog 36 [.tr (l.map encE), .tr (m.map encE)] (.ret (.sc (.bool (sameL l m)))) := sameL_con l m (fun a _ b => same_con a b)
theorem eqB_not {p : Prop} (h : eqB p = false) : ¬ p := fun hp => by rw [eqB_t hp] at h; cases h
set_option maxHeartbeats 8000000 in
theorem sameStmt_con (a b : Sm) : Con Tryz.prog 12 [.ag (encSm a), .ag (encSm b)] (.ret (.sc (.bool (eqB (a = b))))) := by
  refine con_of (by_plain_SameStmt ?_)
  generalize hR : RC _ = R
  have HR := Lib.hid hR; clear hR
  rw [sh_plain_SameStmt]
  change bindS (some (.rf 0 14 0 0, [(0, some (Ob.c ⟨14, [encSm a], true, false⟩))])) _ _ _
  rw [bindS_some]
  change bindS (some (.rf 16 14 0 0, [(16, some (Ob.c ⟨14, [encSm b], true, false⟩))])) _ _ _
  rw [bindS_some]
  generalize hτ : applyW _ _ = τ
  have hA : τ 0 = some (.c ⟨14, [encSm a], true, false⟩) := by rw [← hτ]; simp only [applyW_cons, applyW_nil]; rw [upd_not (by omega)]; exact upd_is rfl
  have hB : τ 16 = some (.c ⟨14, [encSm b], true, false⟩) := by rw [← hτ]; simp only [applyW_cons, applyW_nil]; exact upd_is rfl
  clear hτ
  have no : a ≠ b → ∀ σ n, R (.ret (.sc (.bool false))) σ n := fun h σ n => by rw [← HR.out, eqB_f h]; exact RC_ret rfl rfl
  have NO := Lib.hid no; clear no
  rw [aFad_rf, bindP_some, ld_box hA rfl, bindP_some, aFad_rf, bindP_some, ld_box hB rfl, bindP_some, bin_neq, bindP_some]
  refine or5 rfl (ld_box hA rfl) rfl (ld_box hB rfl) (binS_neq _ _) _ ?_
  refine or5 rfl (ld_box hA rfl) rfl (ld_box hB rfl) (binS_neq _ _) _ ?_
  refine or5 rfl (ld_box hA rfl) rfl (ld_box hB rfl) (binS_neq _ _) _ ?_
  refine or5 rfl (ld_box hA rfl) rfl (ld_box hB rfl) (binS_neq _ _) _ ?_
  refine or5 rfl (ld_box hA rfl) rfl (ld_box hB rfl) (bin_neq _ _ _) _ ?_
  change COND (.sc (.bool (scB a b))) _ _
  cases hsc : scB a b with
  | true => rw [COND_true]; exact NO.out (scB_ne hsc) _ _
  | false =>
  rw [COND_false, aFad_rf, bindP_some, ld_box hA rfl, bindP_some, len_tr, bindP_some]
  intro _
  rw [aFad_rf, bindP_some, ld_box hB rfl, bindP_some, len_tr, bindP_some]
  intro _
  rw [bin_neq, bindP_some]
  refine or7 rfl (ld_box hA rfl) (len_tr _ _) rfl (ld_box hB rfl) (len_tr _ _) (bin_neq _ _ _) _ ?_
  refine or7 rfl (ld_box hA rfl) (len_tr _ _) rfl (ld_box hB rfl) (len_tr _ _) (bin_neq _ _ _) _ ?_
  refine or7 rfl (ld_box hA rfl) (len_tr _ _) rfl (ld_box hB rfl) (len_tr _ _) (bin_neq _ _ _) _ ?_
  change COND (.sc (.bool (lnB a b))) _ _
  cases hln : lnB a b with
  | true => rw [COND_true]; exact NO.out (lnB_ne hln) _ _
  | false =>
  rw [COND_false]
  obtain ⟨ln1, ln2, ln3, ln4⟩ := lnB_eq hln
  clear hln
  have a2 : aLd τ none (.rf 0 14 0 2) = some (.tr (a.columns.map encC)) := ld_box hA rfl
  have b2 : aLd τ none (.rf 16 14 0 2) = some (.tr (b.columns.map encC)) := ld_box hB rfl
  refine LOOP_list a.columns (fun i st => (∃ p q r, st = [p, q, r, .sc (.int .i64 i)]) ∧ a.columns.take i = b.columns.take i) ⟨⟨_, _, _, rfl⟩, rfl⟩ ?_ ?_
  · rintro i x K st n' hx hi hi' hn ⟨⟨p, q, r, rfl⟩, hal⟩ hK
    obtain ⟨y, hy⟩ : ∃ y, b.columns[i]? = some y := ⟨b.columns[i]'(by omega), List.getElem?_eq_getElem _⟩
    have ia : aIad 3 (.tr (a.columns.map encC)) (.sc (.int .i64 i)) = some (.fp (encC x)) := by rw [aIad_tr, if_pos (by omega), Int.toNat_natCast, List.getElem?_map, hx]; rfl
    have ib : aIad 3 (.tr (b.columns.map encC)) (.sc (.int .i64 i)) = some (.fp (encC y)) := by rw [aIad_tr, if_pos (by omega), Int.toNat_natCast, List.getElem?_map, hy]; rfl
    rw [lb_plain_SameStmt10]
    simp only [List.getD_cons_succ, List.getD_cons_zero, aFad_rf, Nat.zero_add, bindP_some, a2, b2, len_tr]
    intro hbn
    rw [bindP_ltI, COND_yes hi', ia, bindP_some, show aLd τ (some 3) (.fp (encC x)) = some (.ag (encC x)) from rfl, bindP_some, ib, bindP_some, show aLd τ (some 3) (.fp (encC y)) = some (.ag (encC y)) from rfl, bindP_some, eqs_C, bindP_some]
    refine ⟨apt0 _ _, apt0 _ _, apt0 _ _, apt0 _ _, fun n_ hn_ => ?_⟩
    cases hq : eqB (x = y) with
    | false => rw [Bool.not_false, COND_true]; exact NO.out (fun e => take_ne hx hy (eqB_not hq) (by rw [e])) _ _
    | true =>
      rw [Bool.not_true, COND_false, bin_addI hi' hbn (List.length_map _), bindP_some]
      exact hK _ _ (by omega) ⟨⟨_, _, _, rfl⟩, take_eq hx hy hal (eqB_iff.1 hq)⟩
  rintro K st n' hn ⟨⟨p, q, r, rfl⟩, hcols⟩
  rw [List.take_length, List.take_of_length_le (by omega)] at hcols
  rw [lb_plain_SameStmt10]
  simp only [List.getD_cons_succ, List.getD_cons_zero, aFad_rf, Nat.zero_add, bindP_some, a2, b2, len_tr]
  intro _
  rw [bindP_ltI, COND_no (Int.lt_irrefl _)]
  clear a2 b2
  have a5 : aLd τ none (.rf 0 14 0 5) = some (.tr (a.rows.map encRx)) := ld_box hA rfl
  have b5 : aLd τ none (.rf 16 14 0 5) = some (.tr (b.rows.map encRx)) := ld_box hB rfl
  refine LOOP_list a.rows (fun i st => (∃ p q r, st = [p, q, r, .sc (.int .i64 i)]) ∧ a.rows.take i = b.rows.take i) ⟨⟨_, _, _, rfl⟩, rfl⟩ ?_ ?_
  · rintro i x K st n' hx hi hi' hn ⟨⟨p, q, r, rfl⟩, hal⟩ hK
    obtain ⟨y, hy⟩ : ∃ y, b.rows[i]? = some y := ⟨b.rows[i]'(by omega), List.getElem?_eq_getElem _⟩
    have ia : aIad 1 (.tr (a.rows.map encRx)) (.sc (.int .i64 i)) = some (.fp [.tr (x.map encE)]) := by rw [aIad_tr, if_pos (by omega), Int.toNat_natCast, List.getElem?_map, hx]; rfl
    have ib : aIad 1 (.tr (b.rows.map encRx)) (.sc (.int .i64 i)) = some (.fp [.tr (y.map encE)]) := by rw [aIad_tr, if_pos (by omega), Int.toNat_natCast, List.getElem?_map, hy]; rfl
    have hC := sameL_con2 x y
    rw [sameL_eqB] at hC
    rw [lb_plain_SameStmt9]
    simp only [List.getD_cons_succ, List.getD_cons_zero, aFad_rf, Nat.zero_add, bindP_some, a5, b5, len_tr]
    intro hbn
    rw [bindP_ltI, COND_yes hi', ia, bindP_some, show aLd τ none (.fp [.tr (x.map encE)]) = some (.tr (x.map encE)) from rfl, bindP_some, ib, bindP_some, show aLd τ none (.fp [.tr (y.map encE)]) = some (.tr (y.map encE)) from rfl, bindP_some]
    refine callD_con0 hC rfl ?_
    rw [kd_plain_SameStmt1, onEnd_ret, aUn_not, bindP_some]
    refine ⟨apt0 _ _, apt0 _ _, apt0 _ _, apt0 _ _, fun n_ hn_ => ?_⟩
    cases hq : eqB (x = y) with
    | false => rw [Bool.not_false, COND_true]; exact NO.out (fun e => take_ne hx hy (eqB_not hq) (by rw [e])) _ _
    | true =>
      simp only [List.getD_cons_succ, List.getD_cons_zero, applyW_nil]
      rw [Bool.not_true, COND_false, bin_addI hi' hbn (List.length_map _), bindP_some]
      exact hK _ _ (by omega) ⟨⟨_, _, _, rfl⟩, take_eq hx hy hal (eqB_iff.1 hq)⟩
  rintro K st n' hn ⟨⟨p, q, r, rfl⟩, hrows⟩
  rw [List.take_length, List.take_of_length_le (by omega)] at hrows
  rw [lb_plain_SameStmt9]
  simp only [List.getD_cons_succ, List.getD_cons_zero, aFad_rf, Nat.zero_add, bindP_some, a5, b5, len_tr]
  intro _
  rw [bindP_ltI, COND_no (Int.lt_irrefl _)]
  clear a5 b5
  have a6 : aLd τ none (.rf 0 14 0 6) = some (.tr (a.sets.map encS)) := ld_box hA rfl
  have b6 : aLd τ none (.rf 16 14 0 6) = some (.tr (b.sets.map encS)) := ld_box hB rfl
  refine LOOP_list a.sets (fun i st => (∃ p q r, st = [p, q, r, .sc (.int .i64 i)]) ∧ a.sets.take i = b.sets.take i) ⟨⟨_, _, _, rfl⟩, rfl⟩ ?_ ?_
  · rintro i x K st n' hx hi hi' hn ⟨⟨p, q, r, rfl⟩, hal⟩ hK
    obtain ⟨y, hy⟩ : ∃ y, b.sets[i]? = some y := ⟨b.sets[i]'(by omega), List.getElem?_eq_getElem _⟩
    have ia : aIad 8 (.tr (a.sets.map encS)) (.sc (.int .i64 i)) = some (.fp (encS x)) := by rw [aIad_tr, if_pos (by omega), Int.toNat_natCast, List.getElem?_map, hx]; simp [encS_len]
    have ib : aIad 8 (.tr (b.sets.map encS)) (.sc (.int .i64 i)) = some (.fp (encS y)) := by rw [aIad_tr, if_pos (by omega), Int.toNat_natCast, List.getElem?_map, hy]; simp [encS_len]
    have f0 : ∀ z : Se, aFad 0 (.fp (encS z)) = some (.fp (encS z)) := fun z => by simp [aFad, encS_len]
    have f1 : ∀ z : Se, aFad 1 (.fp (encS z)) = some (.fp (encE z.ex)) := fun z => by simp [aFad, encS, encE_eq]
    have g0 : ∀ z : Se, aLd τ none (.fp (encS z)) = some (.s z.name) := fun z => by simp [aLd, encS, Am.part]
    have g1 : ∀ z : Se, aLd τ (some 7) (.fp (encE z.ex)) = some (.ag (encE z.ex)) := fun z => by simp [aLd, Am.part, encE_eq]
    have hC := same_con x.ex y.ex
    rw [sameF_eqB] at hC
    rw [lb_plain_SameStmt8]
    simp only [List.getD_cons_succ, List.getD_cons_zero, aFad_rf, Nat.zero_add, bindP_some, a6, b6, len_tr]
    intro hbn
    rw [bindP_ltI, COND_yes hi', ia, bindP_some, f0, bindP_some, g0, bindP_some, ib, bindP_some, f0, bindP_some, g0, bindP_some, binS_neq, bindP_some]
    by_cases hnm : x.name = y.name
    · rw [show (!decide (x.name = y.name)) = false by simp [hnm]]
      simp only [guardP_on, guardD_on, bindP_some, a6, b6, ia, ib, f1, g1]
      refine callD_con0 hC (by simp only [brwL_cons, brwL_nil, brw_ag, encE_brw, List.append_nil, Option.map_some]) ?_
      rw [kd_plain_SameStmt2, onEnd_ret]
      simp only [aUn_not, bindP_some, aPick_b, cond_false]
      refine ⟨apt0 _ _, apt0 _ _, apt0 _ _, apt0 _ _, apt0 _ _, apt0 _ _, apt0 _ _, apt0 _ _, fun n_ hn_ => ?_⟩
      cases hq : eqB (x.ex = y.ex) with
      | false => rw [Bool.not_false, COND_true]; exact NO.out (fun e => take_ne hx hy (fun e2 => eqB_not hq (by rw [e2])) (by rw [e])) _ _
      | true =>
        simp only [applyW_nil]
        rw [Bool.not_true, COND_false, bin_addI hi' hbn (List.length_map _), bindP_some]
        refine hK _ _ (by omega) ⟨⟨_, _, _, rfl⟩, take_eq hx hy hal ?_⟩
        obtain ⟨x1, x2⟩ := x
        obtain ⟨y1, y2⟩ := y
        have e2 := eqB_iff.1 hq
        simp only at hnm e2
        rw [hnm, e2]
    · rw [show (!decide (x.name = y.name)) = true by simp [hnm]]
      simp only [guardP_t, guardD_t, guardP_none, bindP_some, aPick_b, cond_true]
      refine ⟨apt0 _ _, apt0 _ _, apt0 _ _, apt0 _ _, apt0 _ _, apt0 _ _, apt0 _ _, apt0 _ _, fun n_ hn_ => ?_⟩
      rw [COND_true]; exact NO.out (fun e => take_ne hx hy (fun e2 => hnm (by rw [e2])) (by rw [e])) _ _
  rintro K st n' hn ⟨⟨p, q, r, rfl⟩, hsets⟩
  rw [List.take_length, List.take_of_length_le (by omega)] at hsets
  rw [lb_plain_SameStmt8]
  simp only [List.getD_cons_succ, List.getD_cons_zero, aFad_rf, Nat.zero_add, bindP_some, a6, b6, len_tr]
  intro _
  rw [bindP_ltI, COND_no (Int.lt_irrefl _)]
  clear a6 b6
  have a12 : aLd τ none (.rf 0 14 0 12) = some (.tr (a.order.map encO)) := ld_box hA rfl
  have b12 : aLd τ none (.rf 16 14 0 12) = some (.tr (b.order.map encO)) := ld_box hB rfl
  refine LOOP_list a.order (fun i st => (∃ p q r, st = [p, q, r, .sc (.int .i64 i)]) ∧ a.order.take i = b.order.take i) ⟨⟨_, _, _, rfl⟩, rfl⟩ ?_ ?_
  · rintro i x K st n' hx hi hi' hn ⟨⟨p, q, r, rfl⟩, hal⟩ hK
    obtain ⟨y, hy⟩ : ∃ y, b.order[i]? = some y := ⟨b.order[i]'(by omega), List.getElem?_eq_getElem _⟩
    have ia : aIad 2 (.tr (a.order.map encO)) (.sc (.int .i64 i)) = some (.fp (encO x)) := by rw [aIad_tr, if_pos (by omega), Int.toNat_natCast, List.getElem?_map, hx]; rfl
    have ib : aIad 2 (.tr (b.order.map encO)) (.sc (.int .i64 i)) = some (.fp (encO y)) := by rw [aIad_tr, if_pos (by omega), Int.toNat_natCast, List.getElem?_map, hy]; rfl
    rw [lb_plain_SameStmt7]
    simp only [List.getD_cons_succ, List.getD_cons_zero, aFad_rf, Nat.zero_add, bindP_some, a12, b12, len_tr]
    intro hbn
    rw [bindP_ltI, COND_yes hi', ia, bindP_some, show aLd τ (some 2) (.fp (encO x)) = some (.ag (encO x)) from rfl, bindP_some, ib, bindP_some, show aLd τ (some 2) (.fp (encO y)) = some (.ag (encO y)) from rfl, bindP_some, eqs_O, bindP_some]
    refine ⟨apt0 _ _, apt0 _ _, apt0 _ _, apt0 _ _, fun n_ hn_ => ?_⟩
    cases hq : eqB (x = y) with
    | false => rw [Bool.not_false, COND_true]; exact NO.out (fun e => take_ne hx hy (eqB_not hq) (by rw [e])) _ _
    | true =>
      rw [Bool.not_true, COND_false, bin_addI hi' hbn (List.length_map _), bindP_some]
      exact hK _ _ (by omega) ⟨⟨_, _, _, rfl⟩, take_eq hx hy hal (eqB_iff.1 hq)⟩
  rintro K st n' hn ⟨⟨p, q, r, rfl⟩, horder⟩
  rw [List.take_length, List.take_of_length_le (by omega)] at horder
  rw [lb_plain_SameStmt7]
  simp only [List.getD_cons_succ, List.getD_cons_zero, aFad_rf, Nat.zero_add, bindP_some, a12, b12, len_tr]
  intro _
  rw [bindP_ltI, COND_no (Int.lt_irrefl _)]
  clear a12 b12
  have a7 : aLd τ none (.rf 0 14 0 7) = some (.tr (a.items.map encE)) := ld_box hA rfl
  have b7 : aLd τ none (.rf 16 14 0 7) = some (.tr (b.items.map encE)) := ld_box hB rfl
  have a9 : aLd τ none (.rf 0 14 0 9) = some (.tr (a.on.map encE)) := ld_box hA rfl
  have b9 : aLd τ none (.rf 16 14 0 9) = some (.tr (b.on.map encE)) := ld_box hB rfl
  have a10 : aLd τ none (.rf 0 14 0 10) = some (.tr (a.where_.map encE)) := ld_box hA rfl
  have b10 : aLd τ none (.rf 16 14 0 10) = some (.tr (b.where_.map encE)) := ld_box hB rfl
  have a11 : aLd τ none (.rf 0 14 0 11) = some (.tr (a.group.map encE)) := ld_box hA rfl
  have b11 : aLd τ none (.rf 16 14 0 11) = some (.tr (b.group.map encE)) := ld_box hB rfl
  have C1 := sameL_con2 a.items b.items
  have C2 := sameL_con2 a.on b.on
  have C3 := sameL_con2 a.where_ b.where_
  have C4 := sameL_con2 a.group b.group
  rw [sameL_eqB] at C1 C2 C3 C4
  simp only [bindP_some, a7, b7]
  refine CALL_con0 C1 rfl ?_
  rw [kc_plain_SameStmt6, onEnd_ret]
  cases q1 : eqB (a.items = b.items) with
  | false =>
    simp only [guardP_f, guardK_f, aPick_b, bindP_some, cond_false]
    exact NO.out (fun e => eqB_not q1 (by rw [e])) _ _
  | true =>
  simp only [guardP_on, guardK_on, bindP_some, aFad_rf, Nat.zero_add, a9, b9]
  refine CALL_con0 C2 rfl ?_
  rw [kc_plain_SameStmt3, onEnd_ret]
  cases q2 : eqB (a.on = b.on) with
  | false =>
    simp only [guardP_f, guardK_f, aPick_b, bindP_some, cond_false, cond_true]
    exact NO.out (fun e => eqB_not q2 (by rw [e])) _ _
  | true =>
  simp only [guardP_on, guardK_on, aPick_b, cond_true, bindP_some, aFad_rf, Nat.zero_add, a10, b10]
  refine CALL_con0 C3 rfl ?_
  rw [kc_plain_SameStmt4, onEnd_ret]
  cases q3 : eqB (a.where_ = b.where_) with
  | false =>
    simp only [guardP_f, guardK_f, aPick_b, bindP_some, cond_false, cond_true]
    exact NO.out (fun e => eqB_not q3 (by rw [e])) _ _
  | true =>
  simp only [guardP_on, guardK_on, aPick_b, cond_true, bindP_some, aFad_rf, Nat.zero_add, a11, b11]
  refine CALL_con0 C4 rfl ?_
  rw [kc_plain_SameStmt5, onEnd_ret]
  cases q4 : eqB (a.group = b.group) with
  | false =>
    exact NO.out (fun e => eqB_not q4 (by rw [e])) _ _
  | true =>
    rw [← HR.out, eqB_t (sm_one hsc hcols hrows hsets horder (eqB_iff.1 q1) (eqB_iff.1 q2) (eqB_iff.1 q3) (eqB_iff.1 q4))]
    exact RC_ret rfl rfl
end Go.Proofs.YtodoejfkjimeaaaGreatDoor

set_option linter.unusedSimpArgs false
set_option linter.unusedVariables false
set_option maxRecDepth 100000
namespace Go.Proofs.YtodoejfkjimeaaaGreatDoor
open Go Go.RowKit Am

end Go.Proofs.YtodoejfkjimeaaaGreatDoor
set_option maxRecDepth 100000
namespace Go.Proofs.YtodoejfkjimeaaaGreatDoor
open Go Go.RowKit Am

end Go.Proofs.YtodoejfkjimeaaaGreatDoor

set_option linter.unusedSimpArgs false
set_option linter.unusedVariables false
set_option maxRecDepth 100000
namespace Go.Proofs.YtodoejfkjimeaaaGreatDoor
open Go Go.RowKit Am

end Go.Proofs.YtodoejfkjimeaaaGreatDoor

set_option linter.unusedSimpArgs false
set_option linter.unusedVariables false
set_option maxRecDepth 100000
namespace Go.Proofs.YtodoejfkjimeaaaGreatDoor
open Go Go.RowKit Am

def cols (ts : List Tb) : Int := (ts.map (fun t => (t.columns.length : Int))).sum
end Go.Proofs.YtodoejfkjimeaaaGreatDoor

set_option linter.unusedSimpArgs false
set_option linter.unusedVariables false
set_option maxRecDepth 100000
namespace Go.Proofs.YtodoejfkjimeaaaGreatDoor
open Go Go.RowKit Am

end Go.Proofs.YtodoejfkjimeaaaGreatDoor

set_option linter.unusedSimpArgs false
set_option linter.unusedVariables false
set_option maxRecDepth 100000
namespace Go.Proofs.YtodoejfkjimeaaaGreatDoor
open Go Go.RowKit Am

end Go.Proofs.YtodoejfkjimeaaaGreatDoor
set_option maxRecDepth 100000
namespace Go.Proofs.YtodoejfkjimeaaaGreatDoor
open Go Go.RowKit Am

theorem encE_all (l : List Ep) : ((l.map encE).all fun r => r.length == 7) = true := all_enc encE 7 encE_len l
theorem encE_leafs (l : List Ep) : ((l.map encE).all fun r => r.all leafok) = true := by simp [encE_leaf]
attribute [go_sem] encE_all encE_leafs
set_option maxHeartbeats 4000000 in
theorem copyL_con (l : List Ep) (hl : l.length ≤ 1048576) (h : ∀ a ∈ l, Con Tryz.prog 15 [.ag (encE a)] (.ret (.ag (encE a)))) : Con Tryz.prog 14 [.tr (l.map encE)] (.ret (.tr (l.map encE))) := by
  refine con_of (by_plain_CopyExprs ?_)
  generalize hR : RC _ = R
  have HR := Lib.hid hR; clear hR
  have HB := Lib.hid h; clear h
  rw [sh_plain_CopyExprs]
  refine LOOP_listM l (fun i s σ' n' => ∃ a ov, s = [a, ov, .sc (.int .i64 i)] ∧ ((i = 0 ∧ ov = .em) ∨ ∃ i1, i1 < n' ∧ ov = .ow i1 7 0 i ∧ σ' i1 = some (.c ⟨7, (l.take i).map encE, true, true⟩))) (.refl ⟨_, _, rfl, .inl ⟨rfl, rfl⟩⟩) ?_ ?_
  · rintro i x K s' σ' n2 hx hi1 hi' hn1 ⟨a, ov, rfl, hov⟩ hK
    have HK := Lib.hid hK; clear hK
    have ht : (l.take (i + 1)).map encE = (l.take i).map encE ++ [encE x] := by rw [List.take_add_one, hx, List.map_append]; rfl
    have HT := Lib.hid ht; clear ht
    have HC := HB.out x (List.mem_of_getElem? hx)
    rcases hov with ⟨rfl, rfl⟩ | ⟨i1, hl1, rfl, hs1⟩
    · simp (maxSteps:=1000000) (disch:=omega) only [lb_plain_CopyExprs2,go_sem,wrapI,wrapB,upd_is,upd_not,Nat.reduceAdd,Nat.reduceSub,Nat.reduceMul,Nat.reduceLeDiff,Nat.reduceEqDiff,Int.reduceAdd,Int.reduceSub,Int.reduceMul,Int.reduceNeg,Int.reduceLT,Int.reduceLE,Int.reduceEq,Int.reduceToNat,reduceCtorEq,reduceIte,Nat.zero_add,Nat.add_zero, *]
      intro _
      refine CALL_con0 HC (by simp only [brwL_cons, brwL_nil, brw_ag, encE_brw, List.append_nil, Option.map_some]) ?_
      simp (maxSteps:=1000000) (disch:=omega) only [go_sem,wrapI,wrapB,upd_is,upd_not,Nat.reduceAdd,Nat.reduceSub,Nat.reduceMul,Nat.reduceLeDiff,Nat.reduceEqDiff,Int.reduceAdd,Int.reduceSub,Int.reduceMul,Int.reduceNeg,Int.reduceLT,Int.reduceLE,Int.reduceEq,Int.reduceToNat,reduceCtorEq,reduceIte,Nat.zero_add,Nat.add_zero, *]
      refine HK.out _ _ _ (.refl ⟨_, _, rfl, .inr ⟨n2 + 16, by omega, rfl, ?_⟩⟩)
      rw [upd_is rfl, HT.out]; rfl
    · have hl : (List.take i l).length = i := by rw [List.length_take]; omega
      have c1 : (i + 1) * 96 ≤ 140737488355328 := by omega
      have c2 : ¬ i1 = n2 + 16 := by omega
      simp (maxSteps:=1000000) (disch:=omega) only [lb_plain_CopyExprs2,go_sem,wrapI,wrapB,upd_is,upd_not,Nat.reduceAdd,Nat.reduceSub,Nat.reduceMul,Nat.reduceLeDiff,Nat.reduceEqDiff,Int.reduceAdd,Int.reduceSub,Int.reduceMul,Int.reduceNeg,Int.reduceLT,Int.reduceLE,Int.reduceEq,Int.reduceToNat,reduceCtorEq,reduceIte,Nat.zero_add,Nat.add_zero, *]
      intro _
      refine CALL_con0 HC (by simp only [brwL_cons, brwL_nil, brw_ag, encE_brw, List.append_nil, Option.map_some]) ?_
      simp (maxSteps:=1000000) (disch:=omega) only [go_sem,wrapI,wrapB,upd_is,upd_not,Nat.reduceAdd,Nat.reduceSub,Nat.reduceMul,Nat.reduceLeDiff,Nat.reduceEqDiff,Int.reduceAdd,Int.reduceSub,Int.reduceMul,Int.reduceNeg,Int.reduceLT,Int.reduceLE,Int.reduceEq,Int.reduceToNat,reduceCtorEq,reduceIte,Nat.zero_add,Nat.add_zero, *]
      refine HK.out _ _ _ (.refl ⟨_, _, rfl, .inr ⟨n2 + 16, by omega, rfl, ?_⟩⟩)
      rw [upd_is rfl, HT.out]
  · rintro K s' σ' n2 hn1 ⟨a, ov, rfl, hov⟩
    simp (maxSteps:=1000000) (disch:=omega) only [lb_plain_CopyExprs2,Int.lt_irrefl,go_sem,wrapI,wrapB,upd_is,upd_not,Nat.reduceAdd,Nat.reduceSub,Nat.reduceMul,Nat.reduceLeDiff,Nat.reduceEqDiff,Int.reduceAdd,Int.reduceSub,Int.reduceMul,Int.reduceNeg,Int.reduceLT,Int.reduceLE,Int.reduceEq,Int.reduceToNat,reduceCtorEq,reduceIte,Nat.zero_add,Nat.add_zero, *]
    intro _
    rw [← HR.out]
    rcases hov with ⟨h, rfl⟩ | ⟨i1, h1, rfl, h⟩
    · have h3 := List.eq_nil_of_length_eq_zero h
      subst h3; exact RC_ret rfl rfl
    · rw [List.take_length] at h
      exact RC_ret (c := .tr (l.map encE)) (I := [i1]) (brw_all h (List.length_map _) (by omega)) rfl
theorem copy_con (e : Ep) (hb : Bd e) : Con Tryz.prog 15 [.ag (encE e)] (.ret (.ag (encE e))) := by
  induction hb with
  | mk op kind n text table name args h1 h2 h3 h4 h ih =>
    refine con_of (by_plain_CopyExpr ?_)
    have HL := Lib.hid (copyL_con args h4 ih)
    clear ih h h1 h2 h3 h4
    simp (maxSteps:=1000000) (disch:=omega) only [sh_plain_CopyExpr,encE_eq,Ep.op,Ep.kind,Ep.n,Ep.text,Ep.table,Ep.name,Ep.args,go_sem,wrapI,wrapB,upd_is,upd_not,Nat.reduceAdd,Nat.reduceSub,Nat.reduceMul,Nat.reduceLeDiff,Nat.reduceEqDiff,Int.reduceAdd,Int.reduceSub,Int.reduceMul,Int.reduceNeg,Int.reduceLT,Int.reduceLE,Int.reduceEq,Int.reduceToNat,reduceCtorEq,reduceIte,Nat.zero_add,Nat.add_zero, *]
    refine CALL_con0 HL.out rfl ?_
    simp (maxSteps:=1000000) (disch:=omega) only [go_sem,wrapI,wrapB,upd_is,upd_not,Nat.reduceAdd,Nat.reduceSub,Nat.reduceMul,Nat.reduceLeDiff,Nat.reduceEqDiff,Int.reduceAdd,Int.reduceSub,Int.reduceMul,Int.reduceNeg,Int.reduceLT,Int.reduceLE,Int.reduceEq,Int.reduceToNat,reduceCtorEq,reduceIte,Nat.zero_add,Nat.add_zero, *]
    exact RC_ret rfl rfl
end Go.Proofs.YtodoejfkjimeaaaGreatDoor
set_option maxRecDepth 100000
namespace Go.Proofs.YtodoejfkjimeaaaGreatDoor
open Go Go.RowKit Am

end Go.Proofs.YtodoejfkjimeaaaGreatDoor
