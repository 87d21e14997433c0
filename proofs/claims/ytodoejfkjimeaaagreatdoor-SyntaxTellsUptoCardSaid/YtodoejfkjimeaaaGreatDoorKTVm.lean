/- Packed by a program of this repo: Vm Vn Vo Vp. -/
import Derived.Test.YtodoejfkjimeaaaGreatDoorKTSh4d
import Derived.Test.YtodoejfkjimeaaaGreatDoorKTUe
import Derived.Test.YtodoejfkjimeaaaGreatDoorKTVg
import Derived.Test.YtodoejfkjimeaaaGreatDoorKTVf
import Derived.Test.YtodoejfkjimeaaaGreatDoorKTUb
set_option linter.unusedSimpArgs false
set_option linter.unusedVariables false
set_option maxRecDepth 100000
namespace Go.Proofs.YtodoejfkjimeaaaGreatDoor
open Go Go.RowKit Am
attribute [-go_sem] guardP_if guardK_if guardD_if COND_bool
attribute [local go_sem low] guardP_if guardK_if guardD_if COND_bool
theorem bindP_addT {a b : List UInt8} {f : AV → Prop} (h : a.length + b.length ≤ 9000000000000000000) : bindP (semBin .add (.s a) (.s b)) f = f (.s (a ++ b)) := bindP_add (by omega)
theorem joinT_head {h : Tx} {ps : List Tx} (hp : ps ≠ []) : joinT h ps = h ++ joinT [] ps := by
  cases ps with
  | nil => exact absurd rfl hp
  | cons p ps => simp [joinT]
theorem addI {i : Nat} {m : Nat} (h : (i : Int) < m) {σ : Hp} {rows : List (List AV)} (hb : bnd σ (.tr rows)) (hm : rows.length = m) : semBin .add (.sc (.int .i64 i)) (.sc (.int .i64 1)) = some (.sc (.int .i64 ((i + 1 : Nat) : Int))) := by
  have hb' : rows.length ≤ 4611686018427387904 := hb
  rw [bin_add, wrapI (by omega) (by omega)]; rfl
theorem aptn (r r' : List Nat) : Apt (names []) r (names []) r' := by simp [Apt, names]
set_option maxHeartbeats 2000000 in
theorem rfList_con (l : List Ep) (hb : LBd l) (hr : ∀ e ∈ l, Rg e) (hk : ∀ e ∈ l, OKk 12 e) (hl : l.length ≤ 16) : Con Tryz.prog 19 [.tr (l.map encE)] (.ret (.s (joinT [] (l.map printF)))) := by
  refine con_of (by_ref04_list ?_)
  generalize hR : RC _ = R
  have HR := Lib.hid hR; clear hR
  have hlen := exprs_len [] 16 hb hk hl
  simp only [List.length_nil] at hlen
  rw [sh_ref04_list]
  refine LOOP_list l (fun i st => ∃ p q, st = [p, q, .s (joinT [] ((l.take i).map printF)), .sc (.int .i64 i)]) ⟨_, _, rfl⟩ ?_ ?_
  · rintro i x K st n' hx hi hi' hn ⟨p, q, rfl⟩ hK
    have hm := List.mem_of_getElem? hx
    have ht := joinT_take printF [] hx
    have hle := joinT_le (l.map printF) [] i
    rw [← List.map_take] at hle
    have hpl := pf_len (hk x hm) (hb.bd x hm)
    have ia : aIad 7 (.tr (l.map encE)) (.sc (.int .i64 i)) = some (.fp (encE x)) := by rw [aIad_tr, if_pos (by omega), Int.toNat_natCast, List.getElem?_map, hx]; simp [encE_len]
    have hp := rfPrinted_con 12 x (by omega) (hk x hm) (hb.bd x hm) (hr x hm)
    rw [lb_ref04_list3, len_tr, bindP_some]
    intro hbn
    simp only [List.getD_cons_succ, List.getD_cons_zero]
    rw [bindP_ltI, COND_yes hi', JOIN_eq, bin_gtr, bindP_some]
    have go : ∀ (v : AV) (t : Tx), t = joinT [] ((l.take i).map printF) ++ (if i = 0 then [] else [44, 32]) → jk_ref04_list2 (.tr (l.map encE)) [p, q, .s (joinT [] ((l.take i).map printF)), .sc (.int .i64 i)] K (.sc (.bool (decide ((i : Int) < (l.length : Int))))) R [v, .s t] (fun _ => none) n' := by
      rintro v t rfl
      rw [jk_ref04_list2]
      simp only [List.getD_cons_succ, List.getD_cons_zero]
      rw [ia, bindP_some, show ∀ σ : Hp, aLd σ (some 7) (.fp (encE x)) = some (.ag (encE x)) from fun σ => by simp [aLd, Am.part, encE_eq], bindP_some]
      refine CALL_con0 hp (by simp only [brwL_cons, brwL_nil, brw_ag, encE_brw, List.append_nil, Option.map_some]) ?_
      rw [kc_ref04_list1, onEnd_ret]
      simp only [List.getD_cons_succ, List.getD_cons_zero]
      rw [bindP_addT (by split <;> simp only [List.length_append, List.length_cons, List.length_nil] <;> omega), addI hi' hbn (List.length_map _), bindP_some]
      rw [List.append_assoc, ← ht]
      exact hK _ _ (Nat.le_refl _) ⟨_, _, rfl⟩
    by_cases h0 : i = 0
    · subst h0
      rw [COND_no (by simp)]
      exact go _ _ (by simp)
    · rw [COND_yes (by omega), bindP_addT (by simp only [List.length_cons, List.length_nil]; omega)]
      exact go _ _ (by rw [if_neg h0])
  · rintro K st n' hn ⟨p, q, rfl⟩
    rw [lb_ref04_list3, len_tr, bindP_some]
    intro hbn
    simp only [List.getD_cons_succ, List.getD_cons_zero]
    rw [bindP_ltI, COND_no (Int.lt_irrefl _), List.take_length, ← HR.out]
    exact RC_ret rfl rfl
theorem rfWith_con (W : Tx) (l : List Ep) (hb : LBd l) (hr : ∀ e ∈ l, Rg e) (hk : ∀ e ∈ l, OKk 12 e) (hl : l.length ≤ 1) (hW : W.length ≤ 100) : Con Tryz.prog 21 [.s W, .tr (l.map encE)] (.ret (.s (joinT ([32] ++ W ++ [32]) (l.map printF)))) := by
  refine con_of (by_ref04_with ?_)
  generalize hR : RC _ = R
  have HR := Lib.hid hR; clear hR
  rw [sh_ref04_with, len_tr, bindP_some]
  intro _
  rw [bindP_eqI]
  cases l with
  | nil =>
    rw [COND_yes (by simp), ← HR.out]; exact RC_ret rfl rfl
  | cons e l =>
    obtain rfl : l = [] := by
      cases l with
      | nil => rfl
      | cons a l => simp at hl
    have hp := rfPrinted_con 12 e (by omega) (hk e List.mem_cons_self) (hb.bd e List.mem_cons_self) (hr e List.mem_cons_self)
    have hpl := pf_len (hk e List.mem_cons_self) (hb.bd e List.mem_cons_self)
    rw [COND_no (by simp), bindP_addT (by simp only [List.length_cons, List.length_nil]; omega), bindP_addT (by simp only [List.length_append, List.length_cons, List.length_nil]; omega),
      show aIad 7 (.tr ([e].map encE)) (.sc (.int .i64 0)) = some (.fp (encE e)) from by rw [aIad_tr, if_pos (by omega)]; simp [encE_len], bindP_some, show ∀ σ : Hp, aLd σ (some 7) (.fp (encE e)) = some (.ag (encE e)) from fun σ => by simp [aLd, Am.part, encE_eq], bindP_some]
    refine CALL_con0 hp (by simp only [brwL_cons, brwL_nil, brw_ag, encE_brw, List.append_nil, Option.map_some]) ?_
    rw [kc_ref04_with1, onEnd_ret, bindP_addT (by simp only [List.length_append, List.length_cons, List.length_nil]; omega), ← HR.out]
    exact RC_ret rfl (by simp [joinT])
def colsT (cs : List Cl) : Tx := (cs.map fun c => colT c ++ [44, 32]).flatten
theorem colsT_take {cs : List Cl} {i : Nat} {c : Cl} (h : cs[i]? = some c) : colsT (cs.take (i + 1)) = colsT (cs.take i) ++ (colT c ++ [44, 32]) := by
  unfold colsT; rw [List.take_add_one, h, List.map_append, List.flatten_append]; simp
theorem colsT_is : ∀ (cs : List Cl) (h : Tx), (cs = [] → h = [44, 32]) → joinT h (cs.map colT) ++ [44, 32] = h ++ colsT cs
  | [], h, e => by rw [e rfl]; rfl
  | c :: cs, h, _ => by
    have ih := colsT_is cs [44, 32] (fun _ => rfl)
    simp only [List.map_cons, joinT, colsT, List.flatten_cons, List.append_assoc] at ih ⊢
    rw [ih]
theorem colsT_len : ∀ (cs : List Cl) (i : Nat), (∀ c ∈ cs, c.name.length ≤ 1048576) → cs.length ≤ 8 → (colsT (cs.take i)).length ≤ 9000000 := by
  intro cs i h hl
  have key : ∀ ds : List Cl, (∀ c ∈ ds, c.name.length ≤ 1048576) → (colsT ds).length ≤ ds.length * 1048600 := by
    intro ds
    induction ds with
    | nil => intro _; simp [colsT]
    | cons c ds ih =>
      intro hd
      have h1 := hd c List.mem_cons_self
      have h2 := ih (fun z hz => hd z (List.mem_cons_of_mem _ hz))
      have h3 : ∀ m : Nat, (([[32, 73, 78, 84], [32, 66, 79, 79, 76], [32, 84, 69, 88, 84]] : List Tx).getD m []).length ≤ 5 := fun m => by
        match m with
        | 0 => decide
        | 1 => decide
        | 2 => decide
        | m + 3 => simp
      have h4 := h3 (c.kind - 1).toNat
      have h5 : (colT c).length ≤ 1048590 := by
        unfold colT
        split <;> simp only [List.length_append, List.length_cons, List.length_nil] <;> omega
      unfold colsT at h2 ⊢
      simp only [List.map_cons, List.flatten_cons, List.length_append, List.length_cons, List.length_nil] at h2 ⊢
      rw [Nat.add_mul]
      omega
  have := key (cs.take i) (fun c hc => h c (List.mem_of_mem_take hc))
  have h5 : (cs.take i).length ≤ 8 := by rw [List.length_take]; omega
  have h6 : (cs.take i).length * 1048600 ≤ 8 * 1048600 := Nat.mul_le_mul_right _ h5
  omega
end Go.Proofs.YtodoejfkjimeaaaGreatDoor

set_option linter.unusedSimpArgs false
set_option linter.unusedVariables false
set_option maxRecDepth 100000
namespace Go.Proofs.YtodoejfkjimeaaaGreatDoor
open Go Go.RowKit Am
attribute [-go_sem] guardP_if guardK_if guardD_if COND_bool
attribute [local go_sem low] guardP_if guardK_if guardD_if COND_bool
theorem st_all {σ : Hp} {i k : Nat} {row row' : List AV} (h : σ i = some (.c ⟨k, [row], true, false⟩)) (h1 : row.length = k) (h2 : row'.length = k) (h3 : row'.all leafok = true) : hSt σ k (.rf i k 0 0) (.ag row') = some (.tp [], [(i, some (.c ⟨k, [row'], true, false⟩))]) := by
  have hc : (AV.ag row').cells = some row' := rfl
  have hs : splice row 0 row' = row' := by simp [splice, h1, h2]
  rw [hSt_rf, h]
  simp only [hc, List.getElem?_cons_zero, and_self, if_true]
  rw [if_pos ⟨h2, by omega, h3⟩, hs]
  rfl
set_option maxHeartbeats 4000000 in
theorem rfColumns_con (x : Sm) (hb : SBd x) (hk : SOk x) : Con Tryz.prog 18 [.ag (encSm x)] (.ret (.s (colsT x.columns))) := by
  refine con_of (by_ref04_columns ?_)
  generalize hR : RC _ = R
  have HR := Lib.hid hR; clear hR
  have hlen := fun i => colsT_len x.columns i hb.col hk.cols
  rw [sh_ref04_columns]
  change bindS (some (.rf 0 14 0 0, [(0, some (.c ⟨14, [encSm x], true, false⟩))])) _ _ _
  rw [bindS_some]
  simp only [applyW_cons, applyW_nil]
  refine LOOP_listM x.columns (fun i st σ n => (∃ p q r, st = [p, q, r, .s (colsT (x.columns.take i)), .sc (.int .i64 i)]) ∧ σ 0 = some (.c ⟨14, [encSm x], true, false⟩)) (.refl ⟨⟨_, _, _, rfl⟩, upd_is rfl⟩) ?_ ?_
  · rintro i c K st σ n hx hi hi' hn ⟨⟨p, q, r, rfl⟩, h0⟩ hK
    have hm := List.mem_of_getElem? hx
    have ht := colsT_take hx
    have hl := hlen i
    have hl2 := hlen (i + 1)
    have hcn := hb.col c hm
    have hck := hk.col c hm
    have l2 : aLd σ none (.rf 0 14 0 2) = some (.tr (x.columns.map encC)) := ld_box h0 rfl
    have ia : aIad 3 (.tr (x.columns.map encC)) (.sc (.int .i64 i)) = some (.fp (encC c)) := by rw [aIad_tr, if_pos (by omega), Int.toNat_natCast, List.getElem?_map, hx]; rfl
    rw [lb_ref04_columns2]
    simp only [List.getD_cons_succ, List.getD_cons_zero, aFad_rf, Nat.zero_add, bindP_some, l2, len_tr]
    intro hbn
    rw [bindP_ltI, COND_yes hi', ia, bindP_some, show aLd σ (some 3) (.fp (encC c)) = some (.ag (encC c)) from rfl, bindP_some]
    change bindS (some (.rf n 3 0 0, [(n, some (.c ⟨3, [[.s [], .sc (.int .i64 0), .sc (.bool false)]], true, false⟩))])) _ _ _
    rw [bindS_some]
    simp only [applyW_cons, applyW_nil]
    rw [st_all (k := 3) (row := [.s [], .sc (.int .i64 0), .sc (.bool false)]) (row' := encC c) (upd_is rfl) rfl rfl rfl, bindS_some]
    simp only [applyW_cons, applyW_nil]
    generalize hρ : upd _ n _ = ρ
    have r0 : ρ 0 = some (.c ⟨14, [encSm x], true, false⟩) := by rw [← hρ, upd_not (by omega), upd_not (by omega)]; exact h0
    have rn : ρ n = some (.c ⟨3, [encC c], true, false⟩) := by rw [← hρ]; exact upd_is rfl
    clear hρ
    simp only [aFad_rf, Nat.zero_add, bindP_some]
    rw [show aLd ρ none (.rf n 3 0 0) = some (.s c.name) from ld_box rn rfl, bindP_some, bindP_addT (by omega), bindP_addT (by simp only [List.length_append, List.length_cons, List.length_nil]; omega)]
    change bindH (some (.ow _ 1 0 3, [(_, some (Ob.c ⟨1, txRows [[73, 78, 84], [66, 79, 79, 76], [84, 69, 88, 84]], true, true⟩))])) _
    rw [bindH_some, show aLd ρ none (.rf n 3 0 1) = some (.sc (.int .i64 c.kind)) from ld_box rn rfl, bindP_some]
    simp only [applyW_cons, applyW_nil]
    have last : ∀ (ty : Tx), ty.length ≤ 4 → colT c = c.name ++ ([32] ++ ty) ++ (if c.notNull = true then [32, 78, 79, 84, 32, 78, 85, 76, 76] else []) → ∀ (n2 : Nat), n ≤ n2 → (fun σ_1 n_1 => JOIN (jk_ref04_columns1 [p, q, r, .s (colsT (x.columns.take i)), .sc (.int .i64 i)] K (.sc (.bool (decide ((i : Int) < (x.columns.length : Int))))) (.rf n 3 0 0)) fun K26 =>
        bindP (aFad 2 (.rf n 3 0 0)) fun v29 => bindP (aLd σ_1 none v29) fun v30 => COND v30 (bindP (semBin .add (.s (colsT (x.columns.take i) ++ c.name ++ [32] ++ ty)) (.s [32, 78, 79, 84, 32, 78, 85, 76, 76])) fun v31 => K26 [v30, v31] σ_1 n_1) (K26 [v30, .s (colsT (x.columns.take i) ++ c.name ++ [32] ++ ty)] σ_1 n_1)) (upd ρ (n + 16 + 16 + 16 * 5) (some (.c ⟨1, txRows [[73, 78, 84], [66, 79, 79, 76], [84, 69, 88, 84]], true, true⟩))) n2 := by
      intro ty h1 h2 n2 hn2
      show JOIN _ _
      generalize hμ : upd ρ (n + 16 + 16 + 16 * 5) _ = μ
      have m0 : μ 0 = some (.c ⟨14, [encSm x], true, false⟩) := by rw [← hμ, upd_not (by omega)]; exact r0
      have mn : μ n = some (.c ⟨3, [encC c], true, false⟩) := by rw [← hμ, upd_not (by omega)]; exact rn
      have fin : ∀ (u : Tx) (v : AV), u = colsT (x.columns.take i) ++ colT c → jk_ref04_columns1 [p, q, r, .s (colsT (x.columns.take i)), .sc (.int .i64 i)] K (.sc (.bool (decide ((i : Int) < (x.columns.length : Int))))) (.rf n 3 0 0) [v, .s u] μ n2 := by
        intro u v hu
        have hul : u.length ≤ 9000000 := by
          have := hl2
          rw [ht] at this
          rw [hu]
          simp only [List.length_append, List.length_cons, List.length_nil] at this ⊢
          omega
        rw [jk_ref04_columns1]
        simp only [List.getD_cons_succ, List.getD_cons_zero]
        rw [bindP_addT (by simp only [List.length_cons, List.length_nil]; omega), addI hi' hbn (List.length_map _), bindP_some]
        have e : u ++ [44, 32] = colsT (x.columns.take (i + 1)) := by rw [ht, hu, List.append_assoc]
        rw [e]
        exact hK _ _ _ (.refl ⟨⟨_, _, _, rfl⟩, m0⟩)
      rw [JOIN_eq, aFad_rf, bindP_some, show aLd μ none (.rf n 3 0 (0 + 2)) = some (.sc (.bool c.notNull)) from ld_box mn rfl, bindP_some]
      cases hnn : c.notNull with
      | true =>
        rw [COND_true, bindP_addT (by simp only [List.length_append, List.length_cons, List.length_nil]; omega)]
        exact fin _ _ (by rw [h2, hnn]; simp)
      | false =>
        rw [COND_false]
        exact fin _ _ (by rw [h2, hnn]; simp)
    have kk : c.kind = 1 ∨ c.kind = 2 ∨ c.kind = 3 := by omega
    obtain ⟨ty, j, h1, h2, h3, h4, h5⟩ : ∃ (ty : Tx) (j : Nat), ty.length ≤ 4 ∧ semBin .sub (.sc (.int .i64 c.kind)) (.sc (.int .i64 1)) = some (.sc (.int .i64 (j : Int))) ∧ j < 3 ∧ (txRows [[73, 78, 84], [66, 79, 79, 76], [84, 69, 88, 84]])[j]? = some [.s ty] ∧ colT c = c.name ++ ([32] ++ ty) ++ (if c.notNull = true then [32, 78, 79, 84, 32, 78, 85, 76, 76] else []) := by
      rcases kk with kk | kk | kk
      · exact ⟨[73, 78, 84], 0, by decide, by rw [kk, bin_sub, wrapI (by omega) (by omega)]; rfl, by omega, rfl, by rw [colT, kk]; rfl⟩
      · exact ⟨[66, 79, 79, 76], 1, by decide, by rw [kk, bin_sub, wrapI (by omega) (by omega)]; rfl, by omega, rfl, by rw [colT, kk]; rfl⟩
      · exact ⟨[84, 69, 88, 84], 2, by decide, by rw [kk, bin_sub, wrapI (by omega) (by omega)]; rfl, by omega, rfl, by rw [colT, kk]; rfl⟩
    rw [h2, bindP_some, aIad_ow, if_pos ⟨rfl, by omega, by omega⟩, bindP_some, aLd_rf, upd_is rfl]
    simp only [if_true, Nat.zero_add, Int.toNat_natCast, h4, part_none, List.getElem?_cons_zero, bindP_some]
    rw [bindP_addT (by simp only [List.length_append, List.length_cons, List.length_nil]; omega)]
    exact ⟨by simp [Apt, names, rdA] <;> omega, by simp [Apt, names, rdA] <;> omega, by simp [Apt, names, rdA] <;> omega, by simp [Apt, names, rdA] <;> omega, fun n2 hn2 => last ty h1 h5 n2 (by omega)⟩
  · rintro K st σ n hn ⟨⟨p, q, r, rfl⟩, h0⟩
    have l2 : aLd σ none (.rf 0 14 0 2) = some (.tr (x.columns.map encC)) := ld_box h0 rfl
    rw [lb_ref04_columns2]
    simp only [List.getD_cons_succ, List.getD_cons_zero, aFad_rf, Nat.zero_add, bindP_some, l2, len_tr]
    intro hbn
    rw [bindP_ltI, COND_no (Int.lt_irrefl _), List.take_length, ← HR.out]
    exact RC_ret rfl rfl
end Go.Proofs.YtodoejfkjimeaaaGreatDoor

set_option linter.unusedSimpArgs false
set_option linter.unusedVariables false
set_option maxRecDepth 100000
namespace Go.Proofs.YtodoejfkjimeaaaGreatDoor
open Go Go.RowKit Am
attribute [-go_sem] guardP_if guardK_if guardD_if COND_bool
attribute [local go_sem low] guardP_if guardK_if guardD_if COND_bool
set_option maxHeartbeats 8000000 in
theorem rfSelected_con (x : Sm) (hb : SBd x) (hg : SRg x) (hk : SOk x) (hs : SSh x) (h7 : x.kind = 7) : Con Tryz.prog 22 [.ag (encSm x)] (.ret (.s (queryT x))) := by
  refine con_of (by_ref04_selected ?_)
  generalize hR : RC _ = R
  have HR := Lib.hid hR; clear hR
  have l1 := exprs_len [] 16 hb.items (hk.ok _ (in_items x)) hk.items
  have l2 := exprs_len [32, 79, 78, 32] 1 hb.on (hk.ok _ (in_on x)) hk.on
  have l3 := exprs_len [32, 87, 72, 69, 82, 69, 32] 1 hb.where_ (hk.ok _ (in_where x)) hk.where_
  have l4 := exprs_len [32, 71, 82, 79, 85, 80, 32, 66, 89, 32] 1 hb.group (hk.ok _ (in_group x)) hk.group
  have l5 := joinT_le2 ordT x.order [32, 79, 82, 68, 69, 82, 32, 66, 89, 32] 50 8 (fun o ho => by
    have := decF_len 40 o.n
    unfold ordT
    split <;> simp only [List.length_append, List.length_cons, List.length_nil] <;> omega) hk.order
  have l6 := decF_len 40 x.limit
  have e1 := hb.table; have e3 := hb.join
  simp only [List.length_cons, List.length_nil] at l1 l2 l3 l4 l5
  rw [sh_ref04_selected]
  change bindS (some (.rf 0 14 0 0, [(0, some (.c ⟨14, [encSm x], true, false⟩))])) _ _ _
  rw [bindS_some]
  simp only [applyW_cons, applyW_nil]
  generalize hτ : upd _ 0 _ = τ
  have hA : τ 0 = some (.c ⟨14, [encSm x], true, false⟩) := by rw [← hτ]; exact upd_is rfl
  clear hτ
  rw [aFad_rf, bindP_some, ld_box hA rfl, bindP_some]
  refine callD_con0 (rfList_con x.items hb.items hg.items (hk.ok _ (in_items x)) hk.items) rfl ?_
  rw [kd_ref04_selected11, onEnd_ret, bindP_addT (by simp only [List.length_cons, List.length_nil]; omega), bindP_addT (by simp only [List.length_append, List.length_cons, List.length_nil]; omega), aFad_rf, bindP_some, ld_box hA rfl, bindP_some, bindP_addT (by simp only [List.length_append, List.length_cons, List.length_nil]; omega)]
  refine ⟨aptn _ _, aptn _ _, fun n_ hn_ => ?_⟩
  have eI : [83, 69, 76, 69, 67, 84, 32] ++ joinT [] (x.items.map printF) ++ [32, 70, 82, 79, 77, 32] ++ x.table = joinT [83, 69, 76, 69, 67, 84, 32] (x.items.map printF) ++ ([32, 70, 82, 79, 77, 32] ++ x.table) := by
    rw [joinT_head (h := [83, 69, 76, 69, 67, 84, 32]) (by simpa using hs.items.1 h7)]
    simp only [List.append_assoc]
  have lI : (joinT [83, 69, 76, 69, 67, 84, 32] (x.items.map printF) ++ ([32, 70, 82, 79, 77, 32] ++ x.table)).length ≤ 300000000000 := by
    rw [← eI]; simp only [List.length_append, List.length_cons, List.length_nil]; omega
  simp only [applyW_nil]
  rw [eI]
  generalize hT1 : joinT [83, 69, 76, 69, 67, 84, 32] (x.items.map printF) ++ ([32, 70, 82, 79, 77, 32] ++ x.table) = T1 at *
  rw [JOIN_eq]
  have rest : ∀ (v : AV) (n2 : Nat), jk_ref04_selected10 (.rf 0 14 0 0) R [v, .s (T1 ++ (if x.join = [] then [] else [32, 74, 79, 73, 78, 32] ++ x.join) ++ joinT [32, 79, 78, 32] (x.on.map printF))] τ n2 := by
    intro v n2
    have lj : (if x.join = [] then [] else [32, 74, 79, 73, 78, 32] ++ x.join).length ≤ x.join.length + 6 := by split <;> simp
    have lT2 : (T1 ++ (if x.join = [] then [] else [32, 74, 79, 73, 78, 32] ++ x.join) ++ joinT [32, 79, 78, 32] (x.on.map printF)).length ≤ 400000000000 := by
      simp only [List.length_append]; omega
    have eq : queryT x = T1 ++ (if x.join = [] then [] else [32, 74, 79, 73, 78, 32] ++ x.join) ++ joinT [32, 79, 78, 32] (x.on.map printF) ++ joinT [32, 87, 72, 69, 82, 69, 32] (x.where_.map printF) ++ joinT [32, 71, 82, 79, 85, 80, 32, 66, 89, 32] (x.group.map printF) ++ joinT [32, 79, 82, 68, 69, 82, 32, 66, 89, 32] (x.order.map ordT) ++ (if 0 ≤ x.limit then [32, 76, 73, 77, 73, 84, 32] ++ decF 40 x.limit else []) := by
      rw [queryT, ← hT1, whereT]
    rw [eq] at HR
    generalize T1 ++ (if x.join = [] then [] else [32, 74, 79, 73, 78, 32] ++ x.join) ++ joinT [32, 79, 78, 32] (x.on.map printF) = T2 at *
    rw [jk_ref04_selected10, aFad_rf, bindP_some, ld_box hA rfl, bindP_some]
    refine callD_con0 (rfWith_con [87, 72, 69, 82, 69] x.where_ hb.where_ hg.where_ (hk.ok _ (in_where x)) hk.where_ (by decide)) rfl ?_
    rw [show ([32] ++ [87, 72, 69, 82, 69] ++ [32] : Tx) = [32, 87, 72, 69, 82, 69, 32] from rfl, kd_ref04_selected8, onEnd_ret]
    simp only [List.getD_cons_succ, List.getD_cons_zero]
    rw [bindP_addT (by omega), aFad_rf, bindP_some, ld_box hA rfl, bindP_some, applyW_nil]
    refine callD_con0 (rfWith_con [71, 82, 79, 85, 80, 32, 66, 89] x.group hb.group hg.group (hk.ok _ (in_group x)) hk.group (by decide)) rfl ?_
    rw [show ([32] ++ [71, 82, 79, 85, 80, 32, 66, 89] ++ [32] : Tx) = [32, 71, 82, 79, 85, 80, 32, 66, 89, 32] from rfl, kd_ref04_selected7, onEnd_ret, bindP_addT (by simp only [List.length_append]; omega)]
    refine ⟨aptn _ _, aptn _ _, fun n3 hn3 => ?_⟩
    simp only [applyW_nil]
    have lT3 : (T2 ++ joinT [32, 87, 72, 69, 82, 69, 32] (x.where_.map printF) ++ joinT [32, 71, 82, 79, 85, 80, 32, 66, 89, 32] (x.group.map printF)).length ≤ 500000000000 := by
      simp only [List.length_append]; omega
    generalize T2 ++ joinT [32, 87, 72, 69, 82, 69, 32] (x.where_.map printF) ++ joinT [32, 71, 82, 79, 85, 80, 32, 66, 89, 32] (x.group.map printF) = T3 at *
    clear l1 l2 l3 l4 lT2 eq lj
    have l12 : aLd τ none (.rf 0 14 0 12) = some (.tr (x.order.map encO)) := ld_box hA rfl
    have l13 : aLd τ none (.rf 0 14 0 13) = some (.sc (.int .i64 x.limit)) := ld_box hA rfl
    refine LOOP_list x.order (fun i st => ∃ p q r, st = [p, q, r, .s (T3 ++ joinT [32, 79, 82, 68, 69, 82, 32, 66, 89, 32] ((x.order.take i).map ordT)), .sc (.int .i64 i)]) ⟨.tp [], .tp [], .tp [], by simp [joinT]⟩ ?_ ?_
    · rintro i o K st n' hx hi hi' hn ⟨p, q, r, rfl⟩ hK
      have hm := List.mem_of_getElem? hx
      have ho := hk.ord o hm
      have ht := joinT_take ordT [32, 79, 82, 68, 69, 82, 32, 66, 89, 32] hx
      have hle := joinT_le (x.order.map ordT) [32, 79, 82, 68, 69, 82, 32, 66, 89, 32] i
      rw [← List.map_take] at hle
      have hd := decF_len 40 o.n
      have ia : aIad 2 (.tr (x.order.map encO)) (.sc (.int .i64 i)) = some (.fp (encO o)) := by rw [aIad_tr, if_pos (by omega), Int.toNat_natCast, List.getElem?_map, hx]; rfl
      rw [lb_ref04_selected6]
      simp only [List.getD_cons_succ, List.getD_cons_zero, aFad_rf, Nat.zero_add, bindP_some, l12, l13, len_tr]
      intro hbn
      rw [bindP_ltI, COND_yes hi', JOIN_eq, JOIN_eq, bindP_eqI]
      have go : ∀ (v : AV) (t : Tx), t = T3 ++ joinT [32, 79, 82, 68, 69, 82, 32, 66, 89, 32] ((x.order.take i).map ordT) ++ (if i = 0 then [32, 79, 82, 68, 69, 82, 32, 66, 89, 32] else [44, 32]) → jk_ref04_selected2 (.rf 0 14 0 0) [p, q, r, .s (T3 ++ joinT [32, 79, 82, 68, 69, 82, 32, 66, 89, 32] ((x.order.take i).map ordT)), .sc (.int .i64 i)] (jk_ref04_selected3 [p, q, r, .s (T3 ++ joinT [32, 79, 82, 68, 69, 82, 32, 66, 89, 32] ((x.order.take i).map ordT)), .sc (.int .i64 i)] K (.sc (.bool (decide ((i : Int) < (x.order.length : Int)))))) R [v, .s t] τ n' := by
        intro v t ht0
        have lt0 : t.length ≤ 600000000000 := by
          rw [ht0]; split <;> simp only [List.length_append, List.length_cons, List.length_nil] <;> omega
        have fin : ∀ (u : Tx) (n4 : Nat) (v1 v2 : AV), n' ≤ n4 → u = t ++ ordT o → jk_ref04_selected3 [p, q, r, .s (T3 ++ joinT [32, 79, 82, 68, 69, 82, 32, 66, 89, 32] ((x.order.take i).map ordT)), .sc (.int .i64 i)] K (.sc (.bool (decide ((i : Int) < (x.order.length : Int))))) [v1, v2, .s u] τ n4 := by
          intro u n4 v1 v2 hn4 hu
          rw [jk_ref04_selected3]
          simp only [List.getD_cons_succ, List.getD_cons_zero]
          rw [addI hi' hbn (List.length_map _), bindP_some]
          have e : u = T3 ++ joinT [32, 79, 82, 68, 69, 82, 32, 66, 89, 32] ((x.order.take (i + 1)).map ordT) := by
            rw [hu, ht0, ht]
            simp only [List.append_assoc]
          rw [e]
          exact hK _ _ (by omega) ⟨_, _, _, rfl⟩
        rw [jk_ref04_selected2]
        simp only [List.getD_cons_succ, List.getD_cons_zero, aFad_rf, Nat.zero_add, bindP_some, l12]
        rw [ia, bindP_some, show aFad 0 (.fp (encO o)) = some (.fp (encO o)) from rfl, bindP_some, show aLd τ none (.fp (encO o)) = some (.sc (.int .i64 o.n)) from rfl, bindP_some]
        refine CALL_con0 (rfDecimal_con o.n (by unfold rng; omega)) rfl ?_
        rw [kc_ref04_selected1, onEnd_ret]
        simp only [List.getD_cons_succ, List.getD_cons_zero, aFad_rf, Nat.zero_add, bindP_some, l12]
        rw [bindP_addT (by omega), ia, bindP_some, show aFad 1 (.fp (encO o)) = some (.fp [.sc (.bool o.desc)]) from rfl, bindP_some, show aLd τ none (.fp [.sc (.bool o.desc)]) = some (.sc (.bool o.desc)) from rfl, bindP_some]
        cases hdd : o.desc with
        | true =>
          rw [COND_true, bindP_addT (by simp only [List.length_append, List.length_cons, List.length_nil]; omega)]
          exact fin _ _ _ _ (Nat.le_refl _) (by rw [ordT, hdd, if_pos rfl, List.append_assoc])
        | false =>
          rw [COND_false]
          exact fin _ _ _ _ (Nat.le_refl _) (by rw [ordT, hdd]; simp)
      by_cases h0 : i = 0
      · rw [COND_yes (by omega), bindP_addT (by simp only [List.length_append, List.length_cons, List.length_nil]; omega)]
        exact go _ _ (by rw [if_pos h0])
      · rw [COND_no (by omega), bindP_addT (by simp only [List.length_append, List.length_cons, List.length_nil]; omega)]
        exact go _ _ (by rw [if_neg h0])
    · rintro K st n' hn ⟨p, q, r, rfl⟩
      rw [lb_ref04_selected6]
      simp only [List.getD_cons_succ, List.getD_cons_zero, aFad_rf, Nat.zero_add, bindP_some, l12, l13, len_tr]
      intro hbn
      rw [bindP_ltI, COND_no (Int.lt_irrefl _), List.take_length, JOIN_eq, bin_geq, bindP_some]
      by_cases hlm : 0 ≤ x.limit
      · rw [if_pos hlm] at HR
        rw [COND_yes hlm, bindP_addT (by simp only [List.length_append, List.length_cons, List.length_nil]; omega)]
        refine CALL_con0 (rfDecimal_con x.limit (by have := hk.limit; unfold rng; omega)) rfl ?_
        rw [kc_ref04_selected4, onEnd_ret, bindP_addT (by simp only [List.length_append, List.length_cons, List.length_nil]; omega), jk_ref04_selected5, ← HR.out]
        exact RC_ret rfl (by simp only [List.getD_cons_succ, List.getD_cons_zero, List.append_assoc])
      · rw [if_neg hlm] at HR
        rw [COND_no hlm, jk_ref04_selected5, ← HR.out, List.append_nil]
        exact RC_ret rfl rfl
  have HRest := Lib.hid rest; clear rest
  simp only [aFad_rf, Nat.zero_add, bindP_some]
  rw [show aLd τ none (.rf 0 14 0 8) = some (.s x.join) from ld_box hA rfl, bindP_some, binS_neq, bindP_some]
  by_cases hjn : x.join = []
  · rw [if_pos hjn, hs.on.2 hjn] at HRest
    rw [show (!decide (x.join = [])) = false by simp [hjn], COND_false]
    have := HRest.out (.sc (.bool false)) n_
    simpa [joinT] using this
  · rw [if_neg hjn] at HRest
    rw [show (!decide (x.join = [])) = true by simp [hjn], COND_true, bindP_addT (by simp only [List.length_cons, List.length_nil]; omega), bindP_some, bindP_addT (by simp only [List.length_append, List.length_cons, List.length_nil]; omega), show aLd τ none (.rf 0 14 0 9) = some (.tr (x.on.map encE)) from ld_box hA rfl, bindP_some]
    refine callD_con0 (rfWith_con [79, 78] x.on hb.on hg.on (hk.ok _ (in_on x)) hk.on (by decide)) rfl ?_
    rw [show ([32] ++ [79, 78] ++ [32] : Tx) = [32, 79, 78, 32] from rfl, kd_ref04_selected9, onEnd_ret, bindP_addT (by simp only [List.length_append, List.length_cons, List.length_nil]; omega)]
    refine ⟨aptn _ _, aptn _ _, fun n3 hn3 => ?_⟩
    simp only [applyW_nil]
    have := HRest.out (.sc (.bool true)) n3
    simpa only [List.append_assoc] using this
end Go.Proofs.YtodoejfkjimeaaaGreatDoor

set_option linter.unusedSimpArgs false
set_option linter.unusedVariables false
set_option maxRecDepth 100000
namespace Go.Proofs.YtodoejfkjimeaaaGreatDoor
open Go Go.RowKit Am
attribute [-go_sem] guardP_if guardK_if guardD_if COND_bool
attribute [local go_sem low] guardP_if guardK_if guardD_if COND_bool
theorem ldAll {σ : Hp} {i : Nat} {row : List AV} (h : σ i = some (.c ⟨14, [row], true, false⟩)) (hr : row.length = 14) : aLd σ (some 14) (.rf i 14 0 0) = some (.ag row) := by
  have ht : row.take 14 = row := List.take_of_length_le (by omega)
  simp [aLd, h, Am.part, hr, ht]
theorem psOk {x : Sm} (h : checkF x = 0) : psF x = (stmtT x, 0) := if_pos h
theorem psNo {x : Sm} (h : checkF x ≠ 0) : psF x = ([], checkF x) := if_neg h
theorem row_head {l : List Ep} (h : 1 ≤ l.length) : rowT l = [40] ++ joinT [] (l.map printF) ++ [41] := by
  unfold rowT
  rw [joinT_head (h := [40]) (by intro e; rw [List.map_eq_nil_iff] at e; subst e; simp at h)]
theorem rfRows_loop (x : Sm) (hb : SBd x) (hg : SRg x) (hk : SOk x) (B : Tx) (hB : B.length ≤ 2000000) {R : AEnd → Hp → Nat → Prop} {σ : Hp} {n : Nat}
    (hA : σ 0 = some (.c ⟨14, [encSm x], true, false⟩)) (hR : ∀ σ n, R (.ret (.tp [.s (B ++ joinT [] (x.rows.map rowT)), .sc (.int .i64 0)])) σ n) :
    LOOP (lb_ref04_Print4 (.rf 0 14 0 0) R) [.tp [], .tp [], .s B, .sc (.int .i64 0)] σ n := by
  have hlen := joinT_le2 rowT x.rows [] 140000000000 16 (fun l hl => by
    have := exprs_len [40] 8 (hb.row l hl) (hk.ok _ (in_rows hl)) (hk.row l hl).2
    simp only [List.length_cons, List.length_nil] at this
    unfold rowT
    simp only [List.length_append, List.length_cons, List.length_nil]
    omega) hk.rows
  simp only [List.length_nil] at hlen
  have HR := Lib.hid hR; clear hR
  have l5 : aLd σ none (.rf 0 14 0 5) = some (.tr (x.rows.map encRx)) := ld_box hA rfl
  refine LOOP_list x.rows (fun i st => ∃ p q, st = [p, q, .s (B ++ joinT [] ((x.rows.take i).map rowT)), .sc (.int .i64 i)]) ⟨.tp [], .tp [], by simp [joinT]⟩ ?_ ?_
  · rintro i l K st n' hx hi hi' hn ⟨p, q, rfl⟩ hK
    have hm := List.mem_of_getElem? hx
    have ht := joinT_take rowT [] hx
    have hle := joinT_le (x.rows.map rowT) [] i
    rw [← List.map_take] at hle
    have hrow := hk.row l hm
    have hle2 := exprs_len [] 8 (hb.row l hm) (hk.ok _ (in_rows hm)) hrow.2
    simp only [List.length_nil] at hle2
    have ia : aIad 1 (.tr (x.rows.map encRx)) (.sc (.int .i64 i)) = some (.fp (encRx l)) := by rw [aIad_tr, if_pos (by omega), Int.toNat_natCast, List.getElem?_map, hx]; rfl
    rw [lb_ref04_Print4]
    simp only [List.getD_cons_succ, List.getD_cons_zero, aFad_rf, Nat.zero_add, bindP_some, l5, len_tr]
    intro hbn
    rw [bindP_ltI, COND_yes hi', JOIN_eq, bin_gtr, bindP_some]
    have go : ∀ (v : AV) (t : Tx), t = B ++ joinT [] ((x.rows.take i).map rowT) ++ (if i = 0 then [] else [44, 32]) → jk_ref04_Print3 (.rf 0 14 0 0) [p, q, .s (B ++ joinT [] ((x.rows.take i).map rowT)), .sc (.int .i64 i)] K (.sc (.bool (decide ((i : Int) < (x.rows.length : Int))))) R [v, .s t] σ n' := by
      intro v t ht0
      have lt0 : t.length ≤ 3000000000000 := by
        rw [ht0]; split <;> simp only [List.length_append, List.length_cons, List.length_nil] <;> omega
      rw [jk_ref04_Print3]
      simp only [List.getD_cons_succ, List.getD_cons_zero, aFad_rf, Nat.zero_add, bindP_some, l5]
      rw [bindP_addT (by simp only [List.length_cons, List.length_nil]; omega), ia, bindP_some, show aLd σ none (.fp (encRx l)) = some (.tr (l.map encE)) from rfl, bindP_some]
      refine CALL_con0 (rfList_con l (hb.row l hm) (hg.row l hm) (hk.ok _ (in_rows hm)) (by omega)) rfl ?_
      rw [kc_ref04_Print2, onEnd_ret]
      simp only [List.getD_cons_succ, List.getD_cons_zero]
      rw [bindP_addT (by simp only [List.length_append, List.length_cons, List.length_nil]; omega), bindP_addT (by simp only [List.length_append, List.length_cons, List.length_nil]; omega), addI hi' hbn (List.length_map _), bindP_some]
      have e : t ++ [40] ++ joinT [] (l.map printF) ++ [41] = B ++ joinT [] ((x.rows.take (i + 1)).map rowT) := by
        rw [ht0, ht, row_head hrow.1]
        simp only [List.append_assoc]
      rw [e]
      exact hK _ _ (Nat.le_refl _) ⟨_, _, rfl⟩
    by_cases h0 : i = 0
    · subst h0
      rw [COND_no (by simp)]
      exact go _ _ (by simp)
    · rw [COND_yes (by omega), bindP_addT (by simp only [List.length_append, List.length_cons, List.length_nil]; omega)]
      exact go _ _ (by rw [if_neg h0])
  · rintro K st n' hn ⟨p, q, rfl⟩
    rw [lb_ref04_Print4]
    simp only [List.getD_cons_succ, List.getD_cons_zero, aFad_rf, Nat.zero_add, bindP_some, l5, len_tr]
    intro hbn
    rw [bindP_ltI, COND_no (Int.lt_irrefl _), List.take_length]
    exact HR.out _ _
theorem rfSets_loop (x : Sm) (hb : SBd x) (hg : SRg x) (hk : SOk x) (B : Tx) (hB : B.length ≤ 2000000) {R : AEnd → Hp → Nat → Prop} {σ : Hp} {n : Nat}
    (hA : σ 0 = some (.c ⟨14, [encSm x], true, false⟩)) (hR : ∀ σ n, R (.ret (.tp [.s (B ++ joinT [] (x.sets.map setT) ++ whereT x), .sc (.int .i64 0)])) σ n) :
    LOOP (lb_ref04_Print8 (.rf 0 14 0 0) R) [.tp [], .tp [], .s B, .sc (.int .i64 0)] σ n := by
  have hlen := joinT_le2 setT x.sets [] 20000000000 8 (fun s hs => by
    have := pf_len (hk.ok _ (in_sets hs) s.ex (by simp)) (hb.set s hs).2
    have h2 := (hb.set s hs).1
    unfold setT
    simp only [List.length_append, List.length_cons, List.length_nil]
    omega) hk.sets
  have lw := exprs_len [32, 87, 72, 69, 82, 69, 32] 1 hb.where_ (hk.ok _ (in_where x)) hk.where_
  simp only [List.length_cons, List.length_nil] at hlen lw
  have HR := Lib.hid hR; clear hR
  have l6 : aLd σ none (.rf 0 14 0 6) = some (.tr (x.sets.map encS)) := ld_box hA rfl
  have l10 : aLd σ none (.rf 0 14 0 10) = some (.tr (x.where_.map encE)) := ld_box hA rfl
  refine LOOP_list x.sets (fun i st => ∃ p q, st = [p, q, .s (B ++ joinT [] ((x.sets.take i).map setT)), .sc (.int .i64 i)]) ⟨.tp [], .tp [], by simp [joinT]⟩ ?_ ?_
  · rintro i s K st n' hx hi hi' hn ⟨p, q, rfl⟩ hK
    have hm := List.mem_of_getElem? hx
    have ht := joinT_take setT [] hx
    have hle := joinT_le (x.sets.map setT) [] i
    rw [← List.map_take] at hle
    have hsn := (hb.set s hm).1
    have hke := hk.ok _ (in_sets hm) s.ex (by simp)
    have hpl := pf_len hke (hb.set s hm).2
    have ia : aIad 8 (.tr (x.sets.map encS)) (.sc (.int .i64 i)) = some (.fp (encS s)) := by rw [aIad_tr, if_pos (by omega), Int.toNat_natCast, List.getElem?_map, hx]; simp [encS_len]
    rw [lb_ref04_Print8]
    simp only [List.getD_cons_succ, List.getD_cons_zero, aFad_rf, Nat.zero_add, bindP_some, l6, len_tr]
    intro hbn
    rw [bindP_ltI, COND_yes hi', JOIN_eq, bin_gtr, bindP_some]
    have go : ∀ (v : AV) (t : Tx), t = B ++ joinT [] ((x.sets.take i).map setT) ++ (if i = 0 then [] else [44, 32]) → jk_ref04_Print6 (.rf 0 14 0 0) [p, q, .s (B ++ joinT [] ((x.sets.take i).map setT)), .sc (.int .i64 i)] K (.sc (.bool (decide ((i : Int) < (x.sets.length : Int))))) R [v, .s t] σ n' := by
      intro v t ht0
      have lt0 : t.length ≤ 3000000000000 := by
        rw [ht0]; split <;> simp only [List.length_append, List.length_cons, List.length_nil] <;> omega
      have hp := rfPrinted_con 12 s.ex (by omega) hke (hb.set s hm).2 (hg.set s hm)
      rw [jk_ref04_Print6]
      simp only [List.getD_cons_succ, List.getD_cons_zero, aFad_rf, Nat.zero_add, bindP_some, l6]
      rw [ia, bindP_some, show aFad 0 (.fp (encS s)) = some (.fp (encS s)) from rfl, bindP_some, show aLd σ none (.fp (encS s)) = some (.s s.name) from rfl, bindP_some, bindP_addT (by omega), bindP_addT (by simp only [List.length_append, List.length_cons, List.length_nil]; omega), bindP_some, show aFad 1 (.fp (encS s)) = some (.fp (encE s.ex)) from by rw [← encS_fe]; exact if_pos (by rw [encS_len]; omega), bindP_some, show aLd σ (some 7) (.fp (encE s.ex)) = some (.ag (encE s.ex)) from by simp [aLd, Am.part, encE_eq], bindP_some]
      refine callD_con0 hp (by simp only [brwL_cons, brwL_nil, brw_ag, encE_brw, List.append_nil, Option.map_some]) ?_
      rw [kd_ref04_Print5, onEnd_ret, bindP_addT (by simp only [List.length_append, List.length_cons, List.length_nil]; omega)]
      refine ⟨aptn _ _, aptn _ _, aptn _ _, aptn _ _, aptn _ _, aptn _ _, fun n2 hn2 => ?_⟩
      simp only [List.getD_cons_succ, List.getD_cons_zero, applyW_nil]
      rw [addI hi' hbn (List.length_map _), bindP_some]
      have e : t ++ s.name ++ [32, 61, 32] ++ printF s.ex = B ++ joinT [] ((x.sets.take (i + 1)).map setT) := by
        rw [ht0, ht, setT]
        simp only [List.append_assoc]
      rw [e]
      exact hK _ _ (by omega) ⟨_, _, rfl⟩
    by_cases h0 : i = 0
    · subst h0
      rw [COND_no (by simp)]
      exact go _ _ (by simp)
    · rw [COND_yes (by omega), bindP_addT (by simp only [List.length_append, List.length_cons, List.length_nil]; omega)]
      exact go _ _ (by rw [if_neg h0])
  · rintro K st n' hn ⟨p, q, rfl⟩
    rw [lb_ref04_Print8]
    simp only [List.getD_cons_succ, List.getD_cons_zero, aFad_rf, Nat.zero_add, bindP_some, l6, l10, len_tr]
    intro hbn
    rw [bindP_ltI, COND_no (Int.lt_irrefl _), List.take_length]
    refine CALL_con0 (rfWith_con [87, 72, 69, 82, 69] x.where_ hb.where_ hg.where_ (hk.ok _ (in_where x)) hk.where_ (by decide)) rfl ?_
    rw [show ([32] ++ [87, 72, 69, 82, 69] ++ [32] : Tx) = [32, 87, 72, 69, 82, 69, 32] from rfl, kc_ref04_Print7, onEnd_ret]
    simp only [List.getD_cons_succ, List.getD_cons_zero]
    rw [bindP_addT (by simp only [List.length_append]; omega)]
    exact HR.out _ _
set_option maxHeartbeats 8000000 in
theorem rfSPrint_con (x : Sm) (hb : SBd x) (hg : SRg x) : Con Tryz.prog 6 [.ag (encSm x)] (.ret (.tp [.s (psF x).1, .sc (.int .i64 (psF x).2)])) := by
  refine con_of (by_ref04_Print ?_)
  generalize hR : RC _ = R
  have HR := Lib.hid hR; clear hR
  rw [sh_ref04_Print]
  change bindS (some (.rf 0 14 0 0, [(0, some (.c ⟨14, [encSm x], true, false⟩))])) _ _ _
  rw [bindS_some]
  simp only [applyW_cons, applyW_nil]
  generalize hτ : upd _ 0 _ = τ
  have hA : τ 0 = some (.c ⟨14, [encSm x], true, false⟩) := by rw [← hτ]; exact upd_is rfl
  clear hτ
  have br1 : ∀ (σ : Hp) (x : Sm), brwL σ 6 ([.ag (encSm x)] ++ []) = some ([.ag (encSm x)], []) := fun σ x => by simp only [List.append_nil, brwL_cons, brwL_nil, brw_ag, smBrw0, Option.map_some]
  have l14 := ldAll hA rfl
  rw [l14, bindP_some]
  refine CALL_con0 (rfSCheck_con x hb hg) (br1 _ _) ?_
  rw [kc_ref04_Print11, onEnd_ret, bin_neq, bindP_some]
  by_cases hc' : checkF x ≠ 0
  · rw [psNo hc'] at HR
    rw [show (!decide (checkF x = 0)) = true by simp [hc'], COND_true, ← HR.out]
    exact RC_ret rfl rfl
  have hc : checkF x = 0 := Classical.byContradiction hc'
  clear hc'
  have hk := checkF_ok x hc
  have hs := checkF_sh x hc
  rw [psOk hc] at HR
  rw [hc, show (!decide ((0 : Int) = 0)) = false from rfl, COND_false]
  have fin : ∀ (t : Tx) σ n, stmtT x = t → R (.ret (.tp [.s t, .sc (.int .i64 0)])) σ n := fun t σ n e => by rw [← HR.out, ← e]; exact RC_ret rfl rfl
  clear HR
  have e1 := hb.table; have e2 := hb.key; have e3 := hb.index
  have g0 : aLd τ none (.rf 0 14 0 0) = some (.sc (.int .i64 x.kind)) := ld_box hA rfl
  have g1 : aLd τ none (.rf 0 14 0 1) = some (.s x.table) := ld_box hA rfl
  have g3 : aLd τ none (.rf 0 14 0 3) = some (.s x.key) := ld_box hA rfl
  have g4 : aLd τ none (.rf 0 14 0 4) = some (.s x.index) := ld_box hA rfl
  have g10 : aLd τ none (.rf 0 14 0 10) = some (.tr (x.where_.map encE)) := ld_box hA rfl
  have hT : stmtT x = if x.kind = 1 then createT x
    else if x.kind = 2 then [67, 82, 69, 65, 84, 69, 32, 73, 78, 68, 69, 88, 32] ++ x.index ++ [32, 79, 78, 32] ++ x.table ++ [32, 40] ++ x.key ++ [41]
    else if x.kind = 3 then [68, 82, 79, 80, 32, 84, 65, 66, 76, 69, 32] ++ x.table
    else if x.kind = 4 then [73, 78, 83, 69, 82, 84, 32, 73, 78, 84, 79, 32] ++ x.table ++ joinT [32, 86, 65, 76, 85, 69, 83, 32] (x.rows.map rowT)
    else if x.kind = 5 then [85, 80, 68, 65, 84, 69, 32] ++ x.table ++ joinT [32, 83, 69, 84, 32] (x.sets.map setT) ++ whereT x
    else if x.kind = 6 then [68, 69, 76, 69, 84, 69, 32, 70, 82, 79, 77, 32] ++ x.table ++ whereT x
    else if x.kind = 7 then queryT x
    else ([[66, 69, 71, 73, 78], [67, 79, 77, 77, 73, 84], [82, 79, 76, 76, 66, 65, 67, 75]] : List Tx).getD (x.kind - 8).toNat [] := rfl
  rw [aFad_rf, bindP_some, g0, bindP_some, bindP_eqI]
  by_cases k1 : x.kind = 1
  · rw [if_pos k1] at hT
    have hcl := colsT_len x.columns x.columns.length hb.col hk.cols
    rw [List.take_length] at hcl
    rw [COND_yes k1]
    simp only [aFad_rf, Nat.zero_add, bindP_some, g1]
    rw [bindP_addT (by simp only [List.length_cons, List.length_nil]; omega), bindP_addT (by simp only [List.length_append, List.length_cons, List.length_nil]; omega), l14, bindP_some]
    refine callD_con0 (rfColumns_con x hb hk) (br1 _ _) ?_
    rw [kd_ref04_Print1, onEnd_ret]
    simp only [aFad_rf, Nat.zero_add, bindP_some, g3]
    rw [bindP_addT (by simp only [List.length_append, List.length_cons, List.length_nil]; omega), bindP_addT (by simp only [List.length_append, List.length_cons, List.length_nil]; omega), bindP_addT (by simp only [List.length_append, List.length_cons, List.length_nil]; omega), bindP_addT (by simp only [List.length_append, List.length_cons, List.length_nil]; omega)]
    refine ⟨aptn _ _, aptn _ _, aptn _ _, aptn _ _, aptn _ _, fun n2 hn2 => ?_⟩
    refine fin _ _ _ ?_
    have hci := colsT_is x.columns [32, 40] (fun e => absurd e (hs.cols.1 k1))
    rw [hT, createT]
    have e44 : ([44, 32, 80, 82, 73, 77, 65, 82, 89, 32, 75, 69, 89, 32, 40] : Tx) = [44, 32] ++ [80, 82, 73, 77, 65, 82, 89, 32, 75, 69, 89, 32, 40] := rfl
    rw [e44]
    have : ∀ (a b c d e f : Tx), b ++ c = d ++ e → a ++ b ++ (c ++ f) = a ++ d ++ e ++ f := by
      intro a b c d e f h
      rw [List.append_assoc a d e, ← h]; simp only [List.append_assoc]
    have h2 := this ([67, 82, 69, 65, 84, 69, 32, 84, 65, 66, 76, 69, 32] ++ x.table) _ _ _ _ ([80, 82, 73, 77, 65, 82, 89, 32, 75, 69, 89, 32, 40] ++ x.key ++ [41, 41]) hci
    simp only [List.append_assoc] at h2 ⊢
    exact h2
  rw [if_neg k1] at hT
  rw [COND_no k1, bindP_eqI]
  by_cases k2 : x.kind = 2
  · rw [if_pos k2] at hT
    rw [COND_yes k2]
    simp only [aFad_rf, bindP_some, Nat.zero_add, g1, g3, g4]
    rw [bindP_addT (by simp only [List.length_append, List.length_cons, List.length_nil]; omega), bindP_addT (by simp only [List.length_append, List.length_cons, List.length_nil]; omega), bindP_addT (by simp only [List.length_append, List.length_cons, List.length_nil]; omega), bindP_addT (by simp only [List.length_append, List.length_cons, List.length_nil]; omega), bindP_addT (by simp only [List.length_append, List.length_cons, List.length_nil]; omega), bindP_addT (by simp only [List.length_append, List.length_cons, List.length_nil]; omega)]
    exact fin _ _ _ hT
  rw [if_neg k2] at hT
  rw [COND_no k2, bindP_eqI]
  by_cases k3 : x.kind = 3
  · rw [if_pos k3] at hT
    rw [COND_yes k3]
    simp only [aFad_rf, bindP_some, Nat.zero_add, g1]
    rw [bindP_addT (by simp only [List.length_append, List.length_cons, List.length_nil]; omega)]
    exact fin _ _ _ hT
  rw [if_neg k3] at hT
  rw [COND_no k3, bindP_eqI]
  by_cases k4 : x.kind = 4
  · rw [if_pos k4] at hT
    rw [COND_yes k4]
    simp only [aFad_rf, bindP_some, Nat.zero_add, g1]
    rw [bindP_addT (by simp only [List.length_append, List.length_cons, List.length_nil]; omega), bindP_addT (by simp only [List.length_append, List.length_cons, List.length_nil]; omega)]
    refine rfRows_loop x hb hg hk _ (by simp only [List.length_append, List.length_cons, List.length_nil]; omega) hA (fun σ n => fin _ _ _ ?_)
    rw [hT, joinT_head (h := [32, 86, 65, 76, 85, 69, 83, 32]) (by simpa using hs.rows.1 k4)]
    simp only [List.append_assoc]
  rw [if_neg k4] at hT
  rw [COND_no k4, bindP_eqI]
  by_cases k5 : x.kind = 5
  · rw [if_pos k5] at hT
    rw [COND_yes k5]
    simp only [aFad_rf, bindP_some, Nat.zero_add, g1]
    rw [bindP_addT (by simp only [List.length_append, List.length_cons, List.length_nil]; omega), bindP_addT (by simp only [List.length_append, List.length_cons, List.length_nil]; omega)]
    refine rfSets_loop x hb hg hk _ (by simp only [List.length_append, List.length_cons, List.length_nil]; omega) hA (fun σ n => fin _ _ _ ?_)
    rw [hT, joinT_head (h := [32, 83, 69, 84, 32]) (by simpa using hs.sets.1 k5)]
    simp only [List.append_assoc]
  rw [if_neg k5] at hT
  rw [COND_no k5, bindP_eqI]
  by_cases k6 : x.kind = 6
  · rw [if_pos k6] at hT
    have lw := exprs_len [32, 87, 72, 69, 82, 69, 32] 1 hb.where_ (hk.ok _ (in_where x)) hk.where_
    simp only [List.length_cons, List.length_nil] at lw
    rw [COND_yes k6]
    simp only [aFad_rf, bindP_some, Nat.zero_add, g1, g10]
    rw [bindP_addT (by simp only [List.length_append, List.length_cons, List.length_nil]; omega)]
    refine callD_con0 (rfWith_con [87, 72, 69, 82, 69] x.where_ hb.where_ hg.where_ (hk.ok _ (in_where x)) hk.where_ (by decide)) rfl ?_
    rw [show ([32] ++ [87, 72, 69, 82, 69] ++ [32] : Tx) = [32, 87, 72, 69, 82, 69, 32] from rfl, kd_ref04_Print9, onEnd_ret, bindP_addT (by simp only [List.length_append, List.length_cons, List.length_nil]; omega)]
    refine ⟨aptn _ _, aptn _ _, fun n2 hn2 => fin _ _ _ ?_⟩
    rw [hT, whereT]
  rw [if_neg k6] at hT
  rw [COND_no k6, bindP_eqI]
  by_cases k7 : x.kind = 7
  · rw [if_pos k7] at hT
    rw [COND_yes k7, l14, bindP_some]
    refine CALL_con0 (rfSelected_con x hb hg hk hs k7) (br1 _ _) ?_
    rw [kc_ref04_Print10, onEnd_ret]
    exact fin _ _ _ hT
  rw [if_neg k7] at hT
  rw [COND_no k7]
  have hkk : x.kind = 8 ∨ x.kind = 9 ∨ x.kind = 10 := by have := hk.kind1; have := hk.kind10; omega
  change bindS (some (.ow _ 1 0 3, [(_, some (Ob.c ⟨1, txRows [[66, 69, 71, 73, 78], [67, 79, 77, 77, 73, 84], [82, 79, 76, 76, 66, 65, 67, 75]], true, true⟩))])) _ _ _
  rw [bindS_some]
  simp only [applyW_cons, applyW_nil]
  obtain ⟨t, j, h2, h3, h4, h5⟩ : ∃ (t : Tx) (j : Nat), semBin .sub (.sc (.int .i64 x.kind)) (.sc (.int .i64 8)) = some (.sc (.int .i64 (j : Int))) ∧ j < 3 ∧ (txRows [[66, 69, 71, 73, 78], [67, 79, 77, 77, 73, 84], [82, 79, 76, 76, 66, 65, 67, 75]])[j]? = some [.s t] ∧ stmtT x = t := by
    rcases hkk with kk | kk | kk
    · exact ⟨_, 0, by rw [kk, bin_sub, wrapI (by omega) (by omega)]; rfl, by omega, rfl, by rw [hT, kk]; rfl⟩
    · exact ⟨_, 1, by rw [kk, bin_sub, wrapI (by omega) (by omega)]; rfl, by omega, rfl, by rw [hT, kk]; rfl⟩
    · exact ⟨_, 2, by rw [kk, bin_sub, wrapI (by omega) (by omega)]; rfl, by omega, rfl, by rw [hT, kk]; rfl⟩
  generalize hμ : upd τ _ _ = μ
  have m0 : μ 0 = some (.c ⟨14, [encSm x], true, false⟩) := by rw [← hμ, upd_not (by omega)]; exact hA
  have m1 : μ (0 + 16) = some (.c ⟨1, txRows [[66, 69, 71, 73, 78], [67, 79, 77, 77, 73, 84], [82, 79, 76, 76, 66, 65, 67, 75]], true, true⟩) := by rw [← hμ]; exact upd_is rfl
  clear hμ
  have q0 : aLd μ none (.rf 0 14 0 0) = some (.sc (.int .i64 x.kind)) := ld_box m0 rfl
  rw [bindP_some, q0, bindP_some, h2, bindP_some, aIad_ow, if_pos ⟨rfl, by omega, by omega⟩, bindP_some, aLd_rf, m1]
  simp only [if_true, Nat.zero_add, Int.toNat_natCast, h4, part_none, List.getElem?_cons_zero, bindP_some]
  exact fin _ _ _ h5
end Go.Proofs.YtodoejfkjimeaaaGreatDoor
