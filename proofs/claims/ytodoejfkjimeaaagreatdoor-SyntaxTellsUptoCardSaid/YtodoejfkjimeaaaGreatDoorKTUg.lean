/- Packed by a program of this repo: Ug Vq. -/
import Derived.Test.YtodoejfkjimeaaaGreatDoorKTVp
import Derived.Test.YtodoejfkjimeaaaGreatDoorKTDj
import Derived.Test.YtodoejfkjimeaaaGreatDoorKTUe
import Derived.Test.YtodoejfkjimeaaaGreatDoorKTSh4b
set_option linter.unusedSimpArgs false
set_option linter.unusedVariables false
set_option maxRecDepth 100000
namespace Go.Proofs.YtodoejfkjimeaaaGreatDoor
open Go Go.RowKit Am
attribute [-go_sem] guardP_if guardK_if guardD_if COND_bool
attribute [local go_sem low] guardP_if guardK_if guardD_if COND_bool
def OwnR (σ : Hp) (n : Nat) (v : AV) (k : Nat) (rows : List (List AV)) : Prop := (rows = [] ∧ v = .em) ∨ ∃ i, i < n ∧ v = .ow i k 0 rows.length ∧ σ i = some (.c ⟨k, rows, true, true⟩)
theorem OwnR.brw {σ : Hp} {n : Nat} {v : AV} {k : Nat} {rows : List (List AV)} (h : OwnR σ n v k rows) (hk : 0 < k) (d : Nat) : ∃ I, brw σ (d + 1) v = some (.tr rows, I) := by
  rcases h with ⟨rfl, rfl⟩ | ⟨i, h1, rfl, h2⟩
  · exact ⟨[], rfl⟩
  · exact ⟨[i], brw_all h2 rfl hk⟩
theorem OwnR.leaf {σ : Hp} {n : Nat} {v : AV} {k : Nat} {rows : List (List AV)} (h : OwnR σ n v k rows) : leafok v = true ∧ v.cells = some [v] := by
  rcases h with ⟨rfl, rfl⟩ | ⟨i, h1, rfl, h2⟩
  · exact ⟨rfl, rfl⟩
  · exact ⟨rfl, rfl⟩
theorem OwnR.up {σ τ : Hp} {n n' : Nat} {v : AV} {k : Nat} {rows : List (List AV)} (h : OwnR σ n v k rows) (hn : n ≤ n') (hs : ∀ i rs, i < n → σ i = some (.c ⟨k, rs, true, true⟩) → τ i = σ i) : OwnR τ n' v k rows := by
  rcases h with h | ⟨i, h1, h2, h3⟩
  · exact .inl h
  · exact .inr ⟨i, by omega, h2, (hs i _ h1 h3).trans h3⟩
theorem app_own {σ : Hp} {n : Nat} {v : AV} {k bytes id : Nat} {rows news : List (List AV)} {y : AV} (h : OwnR σ n v k rows) (hid : n ≤ id) (hy : rowsOf σ k y = some news) (hl : news.all (fun r => r.all leafok) = true) (hb : (rows.length + news.length) * bytes ≤ 140737488355328) :
    ∃ v' wr, hApp σ id k bytes v y = some (v', wr) ∧ OwnR (applyW σ wr) (id + 16) v' k (rows ++ news) ∧ (∀ q ob, q ≠ id → σ q = some ob → (∀ rs, ob ≠ .c ⟨k, rs, true, true⟩) → applyW σ wr q = some ob) ∧ (∀ q, q ∈ names wr → q = id ∨ ∃ rs, σ q = some (.c ⟨k, rs, true, true⟩)) := by
  rcases h with ⟨rfl, rfl⟩ | ⟨i, h1, rfl, h2⟩
  · rw [hApp_em, hy]
    simp only [hl, if_true]
    rw [List.length_nil, Nat.zero_add] at hb
    rw [if_pos hb]
    cases news with
    | nil => exact ⟨.em, [], rfl, .inl ⟨rfl, rfl⟩, fun q ob _ h _ => h, fun q hq => by cases hq⟩
    | cons r rs =>
      refine ⟨_, _, rfl, .inr ⟨id, by omega, rfl, ?_⟩, fun q ob hq h _ => ?_, fun q hq => .inl (by simpa [names] using hq)⟩
      · simp only [applyW_cons, applyW_nil, List.nil_append]; exact upd_is rfl
      · simp only [applyW_cons, applyW_nil]; rw [upd_not hq]; exact h
  · rw [hApp_ow, hy]
    simp only [hl, if_true, h2]
    have hlen : (rows.length + news.length) = (rows ++ news).length := List.length_append.symm
    rw [if_pos ⟨by trivial, by trivial, by trivial, by trivial, by trivial, hb, by omega⟩]
    refine ⟨_, _, rfl, .inr ⟨id, by omega, by rw [hlen], ?_⟩, fun q ob hq h ho => ?_, fun q hq => ?_⟩
    · simp only [applyW_cons, applyW_nil]; exact upd_is rfl
    · simp only [applyW_cons, applyW_nil]
      rw [upd_not hq, upd_not (by rintro rfl; rw [h2] at h; cases h; exact ho _ rfl)]; exact h
    · simp only [names, List.map_cons, List.map_nil, List.mem_cons, List.not_mem_nil, or_false] at hq
      rcases hq with rfl | rfl
      · exact .inr ⟨_, h2⟩
      · exact .inl rfl
theorem st_box {σ : Hp} {i k c : Nat} {row : List AV} {v : AV} (h : σ i = some (.c ⟨k, [row], true, false⟩)) (hv : leafok v = true ∧ v.cells = some [v]) (hc : c < row.length) : hSt σ 1 (.rf i k 0 c) v = some (.tp [], [(i, some (.c ⟨k, [splice row c [v]], true, false⟩))]) := by
  rw [hSt_rf, h]
  simp only [hv.2, List.getElem?_cons_zero, and_self, if_true]
  rw [if_pos ⟨rfl, by omega, by simp [hv.1]⟩]
  rfl
abbrev boxO (row : List AV) : Ob := .c ⟨14, [row], true, false⟩
def zSm : List AV := [.sc (.int .i64 0), .s [], .em, .s [], .s [], .em, .em, .em, .s [], .em, .em, .em, .em, .sc (.int .i64 0)]
theorem copyL_con2 (l : List Ep) (hb : LBd l) : Con Tryz.prog 14 [.tr (l.map encE)] (.ret (.tr (l.map encE))) := copyL_con l hb.len (fun a ha => copy_con a (hb.bd a ha))
theorem build_S (s : Se) : aBuild [(.string ⟨#[]⟩), (.int .i64 0), (.int .i64 0), (.int .i64 0), (.string ⟨#[]⟩), (.string ⟨#[]⟩), (.string ⟨#[]⟩), (.slice none 0 0)] [(0, 1, .s s.name), (1, 7, .ag (encE s.ex))] = some (.ag (encS s)) := by
  obtain ⟨nm, ex⟩ := s
  rw [encS, encE_eq]; rfl
theorem bsl_S (σ : Hp) (id : Nat) (s : Se) : hBsl σ id 8 [(.string ⟨#[]⟩), (.int .i64 0), (.int .i64 0), (.int .i64 0), (.string ⟨#[]⟩), (.string ⟨#[]⟩), (.string ⟨#[]⟩), (.slice none 0 0)] 1 [(0, .ag (encS s))] = some (.ow id 8 0 1, [(id, some (.c ⟨8, [encS s], true, true⟩))]) := by
  have h : brw σ 6 (.ag (encS s)) = some (.ag (encS s), []) := by rw [brw_ag, encS_brw]; rfl
  have h2 : (AV.ag (encS s)).cells = some (encS s) := rfl
  simp [hBsl, fillR, h, h2, encS_len, frz]
theorem st_box14 {σ : Hp} {i : Nat} {row row' : List AV} (h : σ i = some (boxO row)) (h1 : row.length = 14) (h2 : row'.length = 14) (h3 : row'.all leafok = true) : hSt σ 14 (.rf i 14 0 0) (.ag row') = some (.tp [], [(i, some (boxO row'))]) := by
  have hc : (AV.ag row').cells = some row' := rfl
  have hs : splice row 0 row' = row' := by simp [splice, h1, h2]
  rw [hSt_rf, h]
  simp only [hc, List.getElem?_cons_zero, and_self, if_true]
  rw [if_pos ⟨h2, by omega, h3⟩, hs]
  rfl
set_option maxHeartbeats 8000000 in
theorem copyStmt_con (x : Sm) (hb : SBd x) : Con Tryz.prog 4 [.ag (encSm x)] (.ret (.ag (encSm x))) := by
  refine con_of (by_plain_CopyStmt ?_)
  generalize hR : RC _ = R
  have HR := Lib.hid hR; clear hR
  rw [sh_plain_CopyStmt]
  change bindS (some (.rf 0 14 0 0, [(0, some (boxO (encSm x)))])) _ _ _
  rw [bindS_some]
  change bindS (some (.rf 16 14 0 0, [(16, some (boxO zSm))])) _ _ _
  rw [bindS_some]
  generalize hτ : applyW _ _ = τ
  have hA : τ 0 = some (boxO (encSm x)) := by rw [← hτ]; simp only [applyW_cons, applyW_nil]; rw [upd_not (by omega)]; exact upd_is rfl
  have hB : τ 16 = some (boxO zSm) := by rw [← hτ]; simp only [applyW_cons, applyW_nil]; exact upd_is rfl
  clear hτ
  refine LOOP_listM x.rows (fun i s σ n => ∃ p rv, s = [p, rv, .sc (.int .i64 i)] ∧ σ 0 = some (boxO (encSm x)) ∧ σ 16 = some (boxO zSm) ∧ OwnR σ n rv 1 ((x.rows.take i).map encRx)) (.refl ⟨_, _, rfl, hA, hB, .inl ⟨rfl, rfl⟩⟩) ?_ ?_
  · rintro i l K s σ n hx hi hi' hn ⟨p, rv, rfl, h0, h16, hrv⟩ hK
    have ia : aIad 1 (.tr (x.rows.map encRx)) (.sc (.int .i64 i)) = some (.fp [.tr (l.map encE)]) := by rw [aIad_tr, if_pos (by omega), Int.toNat_natCast, List.getElem?_map, hx]; rfl
    have l5 : aLd σ none (.rf 0 14 0 5) = some (.tr (x.rows.map encRx)) := ld_box h0 rfl
    rw [lb_plain_CopyStmt8]
    simp only [List.getD_cons_succ, List.getD_cons_zero, aFad_rf, Nat.zero_add, bindP_some, l5, len_tr]
    intro hbn
    rw [bindP_ltI, COND_yes hi', ia, bindP_some, show aLd σ none (.fp [.tr (l.map encE)]) = some (.tr (l.map encE)) from rfl, bindP_some]
    refine CALL_con0 (copyL_con2 l (hb.row l (List.mem_of_getElem? hx))) rfl ?_
    rw [kc_plain_CopyStmt1, onEnd_ret]
    change bindS (some (.ow _ 1 0 1, [(_, some (Ob.c ⟨1, [encRx l], true, true⟩))])) _ _ _
    rw [bindS_some]
    simp only [List.getD_cons_succ, List.getD_cons_zero, applyW_cons, applyW_nil]
    have hrv' : OwnR (upd σ n (some (.c ⟨1, [encRx l], true, true⟩))) (n + 16) rv 1 ((x.rows.take i).map encRx) := hrv.up (by omega) (fun j rs hj _ => upd_not (by omega))
    obtain ⟨v', wr, e1, e2, e3, _⟩ := app_own (bytes := 24) (id := n + 16) (y := .ow n 1 0 1) (news := [encRx l]) hrv' (by omega) (by simp only [rowsOf, upd_is rfl]; simp) (by simp [encRx, leafok]) (by
      have := hb.rows
      simp only [List.length_map, List.length_take, List.length_cons, List.length_nil]
      omega)
    rw [e1, bindS_some, bin_addI hi' hbn (List.length_map _), bindP_some]
    have e0 : ∀ q row, q < n → σ q = some (boxO row) → applyW (upd σ n (some (.c ⟨1, [encRx l], true, true⟩))) wr q = some (boxO row) := fun q row hq h => e3 q _ (by omega) (by rw [upd_not (by omega)]; exact h) (fun rs e => by cases e)
    refine hK _ _ _ (.refl ⟨_, _, rfl, e0 0 _ (by omega) h0, e0 16 _ (by omega) h16, ?_⟩)
    have ht : (x.rows.take (i + 1)).map encRx = (x.rows.take i).map encRx ++ [encRx l] := by rw [List.take_add_one, hx, List.map_append]; rfl
    rw [ht]; exact e2
  rintro K s σ n hn ⟨p, rv, rfl, h0, h16, hrv⟩
  rw [List.take_length] at hrv
  have l5 : aLd σ none (.rf 0 14 0 5) = some (.tr (x.rows.map encRx)) := ld_box h0 rfl
  rw [lb_plain_CopyStmt8]
  simp only [List.getD_cons_succ, List.getD_cons_zero, aFad_rf, Nat.zero_add, bindP_some, l5, len_tr]
  intro hbn
  rw [bindP_ltI, COND_no (Int.lt_irrefl _)]
  clear l5 hbn hA hB
  refine LOOP_listM x.sets (fun i s σ n => ∃ p sv, s = [p, sv, .sc (.int .i64 i)] ∧ σ 0 = some (boxO (encSm x)) ∧ σ 16 = some (boxO zSm) ∧ OwnR σ n rv 1 (x.rows.map encRx) ∧ OwnR σ n sv 8 ((x.sets.take i).map encS)) (.refl ⟨_, _, rfl, h0, h16, hrv, .inl ⟨rfl, rfl⟩⟩) ?_ ?_
  · clear h0 h16 hrv
    rintro i s K st σ n hx hi hi' hn ⟨p, sv, rfl, h0, h16, hrv, hsv⟩ hK
    have ia : aIad 8 (.tr (x.sets.map encS)) (.sc (.int .i64 i)) = some (.fp (encS s)) := by rw [aIad_tr, if_pos (by omega), Int.toNat_natCast, List.getElem?_map, hx]; simp [encS_len]
    have f0 : aFad 0 (.fp (encS s)) = some (.fp (encS s)) := by simp [aFad, encS_len]
    have f1 : aFad 1 (.fp (encS s)) = some (.fp (encE s.ex)) := by simp [aFad, encS, encE_eq]
    have g0 : aLd σ none (.fp (encS s)) = some (.s s.name) := by simp [aLd, encS, Am.part]
    have g1 : aLd σ (some 7) (.fp (encE s.ex)) = some (.ag (encE s.ex)) := by simp [aLd, Am.part, encE_eq]
    have l6 : aLd σ none (.rf 0 14 0 6) = some (.tr (x.sets.map encS)) := ld_box h0 rfl
    rw [lb_plain_CopyStmt7]
    simp only [List.getD_cons_succ, List.getD_cons_zero, aFad_rf, Nat.zero_add, bindP_some, l6, len_tr]
    intro hbn
    rw [bindP_ltI, COND_yes hi', ia, bindP_some, f0, bindP_some, g0, bindP_some, bindP_some, f1, bindP_some, g1, bindP_some]
    refine callD_con0 (copy_con s.ex (hb.set s (List.mem_of_getElem? hx)).2) (by simp only [brwL_cons, brwL_nil, brw_ag, encE_brw, List.append_nil, Option.map_some]) ?_
    rw [kd_plain_CopyStmt2, onEnd_ret, build_S, bindP_some, bsl_S, bindH_some]
    simp only [List.getD_cons_succ, List.getD_cons_zero, applyW_cons, applyW_nil]
    have hsv' : OwnR (upd σ (n + 16 * 15) (some (.c ⟨8, [encS s], true, true⟩))) (n + 16 * 16) sv 8 ((x.sets.take i).map encS) := hsv.up (by omega) (fun j rs hj _ => upd_not (by omega))
    obtain ⟨v', wr, e1, e2, e3, _⟩ := app_own (bytes := 112) (id := n + 16 * 16) (y := .ow (n + 16 * 15) 8 0 1) (news := [encS s]) hsv' (by omega) (by simp only [rowsOf, upd_is rfl]; simp) (by simp [encS_leaf]) (by
      have := hb.sets
      simp only [List.length_map, List.length_take, List.length_cons, List.length_nil]
      omega)
    rw [e1, bindH_some]
    refine ⟨apt0 _ _, apt0 _ _, apt0 _ _, apt0 _ _, apt0 _ _, apt0 _ _, fun n_ hn_ => ?_⟩
    rw [bin_addI hi' hbn (List.length_map _), bindP_some]
    have e0 : ∀ q ob, q < n → σ q = some ob → (∀ rs, ob ≠ .c ⟨8, rs, true, true⟩) → applyW (upd σ (n + 16 * 15) (some (.c ⟨8, [encS s], true, true⟩))) wr q = some ob := fun q ob hq h ho => e3 q _ (by omega) (by rw [upd_not (by omega)]; exact h) ho
    refine hK _ _ _ (.refl ⟨_, _, rfl, e0 0 _ (by omega) h0 (fun rs e => by cases e), e0 16 _ (by omega) h16 (fun rs e => by cases e), ?_, ?_⟩)
    · refine hrv.up (by omega) (fun j rs hj h => (e0 j _ hj h (fun rs e => by cases e)).trans h.symm)
    · have ht : (x.sets.take (i + 1)).map encS = (x.sets.take i).map encS ++ [encS s] := by rw [List.take_add_one, hx, List.map_append]; rfl
      rw [ht]
      exact e2.up (by omega) (fun _ _ _ _ => rfl)
  clear h0 h16 hrv
  rintro K s σ n hn ⟨p, sv, rfl, h0, h16, hrv, hsv⟩
  rw [List.take_length] at hsv
  have l2 : aLd σ none (.rf 0 14 0 2) = some (.tr (x.columns.map encC)) := ld_box h0 rfl
  have l6 : aLd σ none (.rf 0 14 0 6) = some (.tr (x.sets.map encS)) := ld_box h0 rfl
  have l12 : aLd σ none (.rf 0 14 0 12) = some (.tr (x.order.map encO)) := ld_box h0 rfl
  rw [lb_plain_CopyStmt7]
  simp only [List.getD_cons_succ, List.getD_cons_zero, aFad_rf, Nat.zero_add, bindP_some, l2, l6, l12, len_tr]
  intro hbn
  rw [bindP_ltI, COND_no (Int.lt_irrefl _)]
  have hem : ∀ (k : Nat) (τ : Hp) (m : Nat), OwnR τ m .em k [] := fun _ _ _ => .inl ⟨rfl, rfl⟩
  obtain ⟨cv, w1, c1, c2, c3, c4⟩ := app_own (bytes := 32) (id := n + 16 * 3) (y := .tr (x.columns.map encC)) (news := x.columns.map encC) (hem 3 σ n) (by omega) (by rw [rowsOf_tr, if_pos (encC_all _)]) (encC_leafs _) (by
    have := hb.cols
    simp only [List.length_map, List.length_nil]; omega)
  rw [c1, bindH_some]
  obtain ⟨ov, w2, d1, d2, d3, d4⟩ := app_own (bytes := 16) (id := n + 16 * 9) (y := .tr (x.order.map encO)) (news := x.order.map encO) (hem 2 (applyW σ w1) (n + 16 * 9)) (by omega) (by rw [rowsOf_tr, if_pos (encO_all _)]) (encO_leafs _) (by
    have := hb.order
    simp only [List.length_map, List.length_nil]; omega)
  rw [d1, bindH_some]
  rw [List.nil_append] at c2 d2
  generalize hρ : applyW (applyW σ w1) w2 = ρ at d2 ⊢
  have e0 : ∀ q ob, q < n → σ q = some ob → (∀ rs, ob ≠ .c ⟨3, rs, true, true⟩) → (∀ rs, ob ≠ .c ⟨2, rs, true, true⟩) → ρ q = some ob := fun q ob hq h ho1 ho2 => by
    rw [← hρ]; exact d3 q _ (by omega) (c3 q _ (by omega) h ho1) ho2
  have r0 := e0 0 _ (by omega) h0 (fun rs e => by cases e) (fun rs e => by cases e)
  have r16 := e0 16 _ (by omega) h16 (fun rs e => by cases e) (fun rs e => by cases e)
  have rrv : OwnR ρ (n + 16 * 10) rv 1 (x.rows.map encRx) := hrv.up (by omega) (fun j rs hj h => (e0 j _ hj h (fun rs e => by cases e) (fun rs e => by cases e)).trans h.symm)
  have rsv : OwnR ρ (n + 16 * 10) sv 8 (x.sets.map encS) := hsv.up (by omega) (fun j rs hj h => (e0 j _ hj h (fun rs e => by cases e) (fun rs e => by cases e)).trans h.symm)
  have rcv : OwnR ρ (n + 16 * 10) cv 3 (x.columns.map encC) := c2.up (by omega) (fun j rs hj h => by
    rw [← hρ]; exact (d3 j _ (by omega) h (fun rs e => by cases e)).trans h.symm)
  have rov : OwnR ρ (n + 16 * 10) ov 2 (x.order.map encO) := d2.up (by omega) (fun _ _ _ _ => rfl)
  clear e0 d3 c3 hρ
  rw [st_box r0 rcv.leaf (by simp [encSm]), bindH_some]
  simp only [applyW_cons, applyW_nil]
  rw [st_box (upd_is rfl) rrv.leaf (by simp [encSm, splice]), bindH_some]
  simp only [applyW_cons, applyW_nil]
  rw [st_box (upd_is rfl) rsv.leaf (by simp [encSm, splice]), bindH_some]
  simp only [applyW_cons, applyW_nil]
  rw [st_box (upd_is rfl) rov.leaf (by simp [encSm, splice]), bindH_some]
  simp only [applyW_cons, applyW_nil]
  refine ⟨apt0 _ _, ⟨fun q hq => ⟨?_, by simp [names]⟩, fun q hq => by simp [names] at hq⟩, fun n_ hn_ => ?_⟩
  · intro hq0
    simp only [rdA, List.mem_cons, List.not_mem_nil, or_false] at hq0
    subst hq0
    rcases c4 0 hq with h | ⟨rs, h⟩
    · omega
    · rw [h0] at h; cases h
  generalize hθ : upd _ 0 _ = θ
  have t0 : θ 0 = some (boxO [.sc (.int .i64 x.kind), .s x.table, cv, .s x.key, .s x.index, rv, sv, .tr (x.items.map encE), .s x.join, .tr (x.on.map encE), .tr (x.where_.map encE), .tr (x.group.map encE), ov, .sc (.int .i64 x.limit)]) := by
    rw [← hθ]; exact upd_is rfl
  have tk : ∀ q, q ≠ 0 → θ q = ρ q := fun q hq => by rw [← hθ, upd_not hq, upd_not hq, upd_not hq, upd_not hq]
  clear hθ
  have tup : ∀ {v : AV} {k : Nat} {rows : List (List AV)}, OwnR ρ (n + 16 * 10) v k rows → OwnR θ (n + 16 * 10) v k rows := fun h => h.up (Nat.le_refl _) (fun j rs _ hj => tk j (by rintro rfl; rw [r0] at hj; cases hj))
  have trv := tup rrv; have tsv := tup rsv; have tcv := tup rcv; have tov := tup rov
  have t16 : θ 16 = some (boxO zSm) := (tk 16 (by omega)).trans r16
  clear tup tk r0 r16 rrv rsv rcv rov l2 l6 l12 h0 h16 hrv hsv c2 d2 c1 d1 c4 d4 hbn
  rw [show aLd θ none (.rf 0 14 0 7) = some (.tr (x.items.map encE)) from ld_box t0 rfl, bindP_some]
  refine callD_con0 (copyL_con2 x.items hb.items) rfl ?_
  rw [kd_plain_CopyStmt6, onEnd_ret, aFad_rf, bindP_some, show aLd θ none (.rf 0 14 0 (0 + 9)) = some (.tr (x.on.map encE)) from ld_box t0 rfl, bindP_some, applyW_nil]
  refine callD_con0 (copyL_con2 x.on hb.on) rfl ?_
  rw [kd_plain_CopyStmt5, onEnd_ret, aFad_rf, bindP_some, show aLd θ none (.rf 0 14 0 (0 + 10)) = some (.tr (x.where_.map encE)) from ld_box t0 rfl, bindP_some, applyW_nil]
  refine callD_con0 (copyL_con2 x.where_ hb.where_) rfl ?_
  rw [kd_plain_CopyStmt4, onEnd_ret, aFad_rf, bindP_some, show aLd θ none (.rf 0 14 0 (0 + 11)) = some (.tr (x.group.map encE)) from ld_box t0 rfl, bindP_some, applyW_nil]
  refine callD_con0 (copyL_con2 x.group hb.group) rfl ?_
  rw [kd_plain_CopyStmt3, onEnd_ret]
  simp only [aFad_rf, Nat.zero_add, bindP_some, applyW_nil]
  rw [st_box t0 ⟨rfl, rfl⟩ (by simp), bindH_some]
  simp only [applyW_cons, applyW_nil]
  rw [st_box (upd_is rfl) ⟨rfl, rfl⟩ (by simp [splice]), bindH_some]
  simp only [applyW_cons, applyW_nil]
  rw [st_box (upd_is rfl) ⟨rfl, rfl⟩ (by simp [splice]), bindH_some]
  simp only [applyW_cons, applyW_nil]
  rw [st_box (upd_is rfl) ⟨rfl, rfl⟩ (by simp [splice]), bindH_some]
  simp only [applyW_cons, applyW_nil]
  refine ⟨apt0 _ _, apt0 _ _, apt0 _ _, apt0 _ _, apt0 _ _, apt0 _ _, apt0 _ _, apt0 _ _, apt0 _ _, apt0 _ _, apt0 _ _, apt0 _ _, fun n2 hn2 => ?_⟩
  generalize hφ : upd _ 0 _ = φ
  have p0 : φ 0 = some (boxO [.sc (.int .i64 x.kind), .s x.table, cv, .s x.key, .s x.index, rv, sv, .tr (x.items.map encE), .s x.join, .tr (x.on.map encE), .tr (x.where_.map encE), .tr (x.group.map encE), ov, .sc (.int .i64 x.limit)]) := by
    rw [← hφ]; exact upd_is rfl
  have pk : ∀ q, q ≠ 0 → φ q = θ q := fun q hq => by rw [← hφ, upd_not hq, upd_not hq, upd_not hq, upd_not hq]
  clear hφ
  have p16 : φ 16 = some (boxO zSm) := (pk 16 (by omega)).trans t16
  have pl : aLd φ (some 14) (.rf 0 14 0 0) = some (.ag [.sc (.int .i64 x.kind), .s x.table, cv, .s x.key, .s x.index, rv, sv, .tr (x.items.map encE), .s x.join, .tr (x.on.map encE), .tr (x.where_.map encE), .tr (x.group.map encE), ov, .sc (.int .i64 x.limit)]) := by
    simp [aLd, p0, Am.part]
  rw [pl, bindP_some, st_box14 p16 rfl rfl (by simp only [List.all_cons, List.all_nil, tcv.leaf.1, trv.leaf.1, tsv.leaf.1, tov.leaf.1, leaf_int, leaf_s, leaf_tr, Bool.and_self]), bindS_some]
  simp only [applyW_cons, applyW_nil]
  rw [show aLd (upd φ 16 (some (boxO [.sc (.int .i64 x.kind), .s x.table, cv, .s x.key, .s x.index, rv, sv, .tr (x.items.map encE), .s x.join, .tr (x.on.map encE), .tr (x.where_.map encE), .tr (x.group.map encE), ov, .sc (.int .i64 x.limit)]))) (some 14) (.rf 16 14 0 0) = some (.ag [.sc (.int .i64 x.kind), .s x.table, cv, .s x.key, .s x.index, rv, sv, .tr (x.items.map encE), .s x.join, .tr (x.on.map encE), .tr (x.where_.map encE), .tr (x.group.map encE), ov, .sc (.int .i64 x.limit)]) from by
    simp [aLd, upd_is, Am.part], bindP_some]
  generalize hψ : upd φ 16 _ = ψ
  have up2 : ∀ {v : AV} {k : Nat} {rows : List (List AV)}, OwnR θ (n + 16 * 10) v k rows → OwnR ψ (n + 16 * 10) v k rows := fun h => h.up (Nat.le_refl _) (fun j rs _ hj => by
    have h0 : j ≠ 0 := by rintro rfl; rw [t0] at hj; cases hj
    have h16 : j ≠ 16 := by rintro rfl; rw [t16] at hj; cases hj
    rw [← hψ, upd_not h16]; exact pk j h0)
  obtain ⟨I1, b1⟩ := (up2 tcv).brw (by omega) 4
  obtain ⟨I2, b2⟩ := (up2 trv).brw (by omega) 4
  obtain ⟨I3, b3⟩ := (up2 tsv).brw (by omega) 4
  obtain ⟨I4, b4⟩ := (up2 tov).brw (by omega) 4
  rw [← HR.out]
  refine RC_ret (c := .ag (encSm x)) (I := [] ++ ([] ++ (I1 ++ ([] ++ ([] ++ (I2 ++ (I3 ++ ([] ++ ([] ++ ([] ++ ([] ++ ([] ++ (I4 ++ ([] ++ [])))))))))))))) ?_ rfl
  simp only [brw_ag, brwL_cons, brwL_nil, brw_sc, brw_s, brw_tr, b1, b2, b3, b4, Option.map_some, encSm]
end Go.Proofs.YtodoejfkjimeaaaGreatDoor

set_option linter.unusedSimpArgs false
set_option linter.unusedVariables false
set_option maxRecDepth 100000
namespace Go.Proofs.YtodoejfkjimeaaaGreatDoor
open Go Go.RowKit Am
attribute [-go_sem] guardP_if guardK_if guardD_if COND_bool
attribute [local go_sem low] guardP_if guardK_if guardD_if COND_bool
theorem zAlT (id : Nat) : hAlloc id [(.int .i64 0), (.string ⟨#[]⟩), (.slice none 0 0), (.string ⟨#[]⟩), (.string ⟨#[]⟩), (.slice none 0 0), (.slice none 0 0), (.slice none 0 0), (.string ⟨#[]⟩), (.slice none 0 0), (.slice none 0 0), (.slice none 0 0), (.slice none 0 0), (.int .i64 0)] = some (.rf id 14 0 0, [(id, some (boxO zSm))]) := rfl
theorem encSm_leafT (x : Sm) : (encSm x).all leafok = true := rfl
set_option maxHeartbeats 8000000 in
theorem syntaxTells_con (a : Sm) (t : Tx) (ha : SBd a ∧ SRg a) (ht : t.length ≤ 1048576) : Con Tryz.prog 3 [.ag (encSm a), .s t] (.ret (.sc (.bool true))) := by
  refine con_of (by_law04_SyntaxTells ?_)
  generalize hR : RC _ = R
  have HR := Lib.hid hR; clear hR
  rw [sh_law04_SyntaxTells]
  change bindS (some (.rf 0 14 0 0, [(0, some (boxO (encSm a)))])) _ _ _
  rw [bindS_some]
  simp only [applyW_cons, applyW_nil]
  generalize hτ : upd (fun _ => none) 0 (some (boxO (encSm a))) = τ
  have hA : τ 0 = some (boxO (encSm a)) := by rw [← hτ]; exact upd_is rfl
  clear hτ
  have br1 : ∀ (σ : Hp) (x : Sm), brwL σ 6 ([.ag (encSm x)] ++ []) = some ([.ag (encSm x)], []) := fun σ x => by simp only [List.append_nil, brwL_cons, brwL_nil, brw_ag, smBrw0, Option.map_some]
  have br2 : ∀ (σ : Hp) (x y : Sm), brwL σ 6 ([.ag (encSm x), .ag (encSm y)] ++ []) = some ([.ag (encSm x), .ag (encSm y)], []) := fun σ x y => by simp only [List.append_nil, brwL_cons, brwL_nil, brw_ag, smBrw0, Option.map_some]
  have HP := print_con a ha.1 ha.2
  have HQ := rfSPrint_con a ha.1 ha.2
  generalize psF a = pp at HP HQ
  obtain ⟨s, f⟩ := pp
  have ap1 : ∀ (r r' : List Nat), Apt (names []) r (names []) r' := fun r r' => by simp [Apt, names]
  rw [ldAll hA rfl, bindP_some]
  refine CALL_con0 (copyStmt_con a ha.1) (br1 _ _) ?_
  rw [kc_law04_SyntaxTells11, onEnd_ret, zAlT, bindS_some]
  simp only [applyW_cons, applyW_nil]
  rw [st_box14 (row := zSm) (upd_is rfl) rfl rfl (encSm_leafT a), bindS_some]
  simp only [applyW_cons, applyW_nil]
  generalize hμ : upd _ _ _ = μ
  have m0 : μ 0 = some (boxO (encSm a)) := by rw [← hμ, upd_not (by omega), upd_not (by omega)]; exact hA
  have m8 : μ (0 + 16) = some (boxO (encSm a)) := by rw [← hμ]; exact upd_is rfl
  clear hμ hA
  rw [ldAll m8 rfl, bindP_some]
  refine CALL_con0 HP (br1 _ _) ?_
  rw [kc_law04_SyntaxTells10, onEnd_ret, aExt_tp, show ([AV.s s, .sc (.int .i64 f)] : List AV)[0]? = some (.s s) from rfl, bindP_some, aExt_tp, show ([AV.s s, .sc (.int .i64 f)] : List AV)[1]? = some (.sc (.int .i64 f)) from rfl, bindP_some, ldAll m0 rfl, bindP_some]
  refine CALL_con0 HQ (br1 _ _) ?_
  rw [kc_law04_SyntaxTells9, onEnd_ret, aExt_tp, show ([AV.s s, .sc (.int .i64 f)] : List AV)[0]? = some (.s s) from rfl, bindP_some, aExt_tp, show ([AV.s s, .sc (.int .i64 f)] : List AV)[1]? = some (.sc (.int .i64 f)) from rfl, bindP_some, ldAll m8 rfl, bindP_some]
  refine callD_con0 (check_con a ha.1) (br1 _ _) ?_
  rw [kd_law04_SyntaxTells8, onEnd_ret, applyW_nil]
  refine callD_con0 (num4_con (checkF a)) rfl ?_
  rw [kd_law04_SyntaxTells7, onEnd_ret, applyW_nil, ldAll m0 rfl, bindP_some]
  refine callD_con0 (rfSCheck_con a ha.1 ha.2) (br1 _ _) ?_
  rw [kd_law04_SyntaxTells6, onEnd_ret, bin_eql, decide_eq_true rfl, bindP_some]
  simp only [guardP_on, guardD_on, bindP_some, applyW_nil, binS_eql, decide_true, aPick_b, cond_true]
  refine callD_con0 (num4_con f) rfl ?_
  rw [kd_law04_SyntaxTells1, onEnd_ret]
  simp only [guardP_on, guardD_on, bindP_some, applyW_nil, bin_eql, decide_true, aPick_b, cond_true]
  refine callD_con0 (name_con t (by omega)) rfl ?_
  rw [kd_law04_SyntaxTells2, onEnd_ret]
  simp only [applyW_nil]
  refine callD_con0 (rfName_con t ht) rfl ?_
  rw [kd_law04_SyntaxTells3, onEnd_ret, aEqb_b, bindP_some]
  rw [show bb (if false = true then !(nameL t == nameL t) else (nameL t == nameL t)) = .sc (.bool true) from by simp [bb]]
  simp only [guardP_on, guardD_on, bindP_some, applyW_nil, aPick_b, cond_true]
  rw [ldAll m8 rfl, bindP_some, ldAll m0 rfl, bindP_some]
  refine callD_con0 (sameStmt_con a a) (br2 _ _ _) ?_
  rw [kd_law04_SyntaxTells4, onEnd_ret, eqB_t rfl]
  simp only [guardP_on, guardD_on, bindP_some, applyW_nil, aPick_b, cond_true]
  refine callD_con0 alive4_con rfl ?_
  rw [kd_law04_SyntaxTells5, onEnd_ret]
  simp only [bindP_some, applyW_nil, aPick_b, cond_true]
  refine ⟨ap1 _ _, ap1 _ _, ap1 _ _, ap1 _ _, fun n2 hn2 => ?_⟩
  rw [← HR.out]
  exact RC_ret rfl rfl
end Go.Proofs.YtodoejfkjimeaaaGreatDoor
