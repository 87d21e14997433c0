/- Packed by a program of this repo: Ue Vd Rw Rx Ss Ve Su. -/
import Derived.Test.YtodoejfkjimeaaaGreatDoorKTDd
import Derived.Test.YtodoejfkjimeaaaGreatDoorKTQa
import Derived.Test.YtodoejfkjimeaaaGreatDoorKTSh4b
import Derived.Test.YtodoejfkjimeaaaGreatDoorKTQf
import Derived.Test.YtodoejfkjimeaaaGreatDoorRows
import Derived.WalkKit
import Derived.ProofKit
import Derived.OpenShut
import Derived.ShutString
import Derived.Deep.Slices
import Derived.Carry
import Derived.JoinedCond
import Derived.HandedShaped
import Derived.Test.YtodoejfkjimeaaaGreatDoorKTCx
import Derived.Test.YtodoejfkjimeaaaGreatDoorKTCa
set_option linter.unusedSimpArgs false
set_option linter.unusedVariables false
set_option maxRecDepth 100000
namespace Go.Proofs.YtodoejfkjimeaaaGreatDoor
open Go Go.RowKit Am
attribute [-go_sem] guardP_if guardK_if guardD_if COND_bool
attribute [local go_sem low] guardP_if guardK_if guardD_if COND_bool
noncomputable def eqB (p : Prop) : Bool := @decide p (Classical.propDecidable p)
theorem eqB_t {p : Prop} (h : p) : eqB p = true := by unfold eqB; exact @decide_eq_true p (Classical.propDecidable p) h
theorem eqB_f {p : Prop} (h : ¬ p) : eqB p = false := by unfold eqB; exact @decide_eq_false p (Classical.propDecidable p) h
theorem eqB_iff {p : Prop} : eqB p = true ↔ p := ⟨fun h => Classical.byContradiction (fun hn => by rw [eqB_f hn] at h; cases h), eqB_t⟩
theorem sameL_iff : ∀ (l m : List Ep), sameL l m = true ↔ l = m
  | [], [] => by simp [sameL]
  | [], _ :: _ => by simp [sameL]
  | _ :: _, [] => by simp [sameL]
  | a :: l, b :: m => by simp only [sameL, Bool.and_eq_true, sameF_iff, sameL_iff l m, List.cons.injEq]
theorem sameF_eqB (a b : Ep) : sameF a b = eqB (a = b) := by rw [Bool.eq_iff_iff, eqB_iff, sameF_iff]
theorem sameL_eqB (a b : List Ep) : sameL a b = eqB (a = b) := by rw [Bool.eq_iff_iff, eqB_iff, sameL_iff]
theorem take_eq {α : Type} {l m : List α} {i : Nat} {x y : α} (hx : l[i]? = some x) (hy : m[i]? = some y) (h : l.take i = m.take i) (e : x = y) : l.take (i + 1) = m.take (i + 1) := by
  rw [List.take_add_one, List.take_add_one, hx, hy, h, e]
theorem take_ne {α : Type} {l m : List α} {i : Nat} {x y : α} (hx : l[i]? = some x) (hy : m[i]? = some y) (e : x ≠ y) : l ≠ m := by
  rintro rfl; rw [hx] at hy; cases hy; exact e rfl
theorem encS_take (x : Se) : (encS x).take 8 = encS x := List.take_of_length_le (by rw [encS_len]; omega)
theorem encS_leaf (x : Se) : (encS x).all leafok = true := by simp [encS, encE_eq, leafok]
attribute [go_sem] encS_take encS_leaf
theorem encS_fe (x : Se) : (encS x).drop 1 = encE x.ex := rfl
theorem encS_brw (σ : Hp) (d : Nat) (x : Se) : brwL σ d (encS x) = some (encS x, []) := by
  simp only [encS, brwL_cons, brw_s, encE_brw, List.nil_append]
end Go.Proofs.YtodoejfkjimeaaaGreatDoor

set_option linter.unusedSimpArgs false
set_option linter.unusedVariables false
set_option maxRecDepth 100000
namespace Go.Proofs.YtodoejfkjimeaaaGreatDoor
open Go Go.RowKit Am
attribute [-go_sem] guardP_if guardK_if guardD_if COND_bool
attribute [local go_sem low] guardP_if guardK_if guardD_if COND_bool
attribute [local go_sem] wrapI wrapB upd_is upd_not Nat.zero_add Nat.add_zero
attribute [local go_sem_proc] Nat.reduceAdd Nat.reduceSub Nat.reduceMul Nat.reduceLeDiff Nat.reduceEqDiff Int.reduceAdd Int.reduceSub Int.reduceMul Int.reduceNeg Int.reduceLT Int.reduceLE Int.reduceEq Int.reduceToNat reduceCtorEq reduceIte
set_option maxHeartbeats 2000000 in
theorem listR_conH (g : FuncId) (f : (List Ep) → Tx) (i j : Nat) (l head : Tx) (xs : List (List Ep)) (σ : Hp) (n : Nat) (hb : BldS σ n i j l) (hp : ∀ x ∈ xs, Con Tryz.prog g [.tr (x.map encE)] (.ret (.s (f x)))) (hlen : (l ++ joinT head (xs.map f)).length ≤ 140737488355328) (hxs : xs.length ≤ 1048576) :
    ConH Tryz.prog 41 [.rt i 2 PRT, .s head, .tr (xs.map encRx), .fn g []] σ n (BPost σ n i j (l ++ joinT head (xs.map f)) (.ret (.tp []))) := by
  refine by_syntax_list_lapi_Expr ?_
  generalize hR : BPost σ n i j (l ++ joinT head (xs.map f)) (.ret (.tp [])) = R
  have HR := Lib.hid hR; clear hR
  have HP := Lib.hid hp; clear hp
  have HB := Lib.hid hb; clear hb
  rw [sh_syntax_list_lapi_Expr, aLen_tr, bindP_some]
  intro _
  rw [List.length_map]
  refine LOOP_listM xs (fun k s τ n' => (∃ a b, s = [a, b, .s (if k = 0 then head else [44, 32]), .sc (.int .i64 k)]) ∧ ∃ j', (j' = j ∨ n ≤ j') ∧ BldS τ n' i j' (l ++ joinT head ((xs.take k).map f)) ∧ ∀ k, k < n → k ≠ i → k ≠ j → τ k = σ k) (.refl ⟨⟨_, _, rfl⟩, j, .inl rfl, by simpa [joinT] using HB.out, fun _ _ _ _ => rfl⟩) ?_ ?_
  · rintro k x K s' τ n2 hx hk hk' hn ⟨⟨a, b, rfl⟩, j', hj', hbl, hfr⟩ hK
    have ht := joinT_take f head hx
    have hlt : (l ++ joinT head ((xs.take k).map f) ++ [(if k = 0 then head else [44, 32]), f x].flatten).length ≤ 140737488355328 := by
      have h2 := joinT_le (xs.map f) head (k + 1)
      rw [← List.map_take, ht] at h2
      simp only [List.length_append, List.flatten_cons, List.flatten_nil, List.append_nil] at hlen h2 ⊢
      omega
    have HC := Lib.hid (HP.out x (List.mem_of_getElem? hx))
    have HT := Lib.hid ht; clear ht
    have HJ := Lib.hid hj'; clear hj'
    have HF := Lib.hid hfr; clear hfr
    have HBL := Lib.hid hbl; clear hbl
    have HK := Lib.hid hK; clear hK
    have HL := Lib.hid hlt; clear hlt hlen
    generalize (if k = 0 then head else [44, 32]) = hd at *
    simp (maxSteps:=1000000) (disch:=omega) only [lb_syntax_list_lapi_Expr3,List.getD_cons_succ,List.getD_cons_zero,encRx,go_sem, *]
    refine CALL_con0 HC.out (by simp only [brwL_cons, brwL_nil, brw_tr, List.append_nil, Option.map_some]) ?_
    rw [kc_syntax_list_lapi_Expr2, onEnd_ret]
    change bindS (some (.ow _ 1 0 2, [(_, some (Ob.c ⟨1, txRows [hd, f x], true, true⟩))])) _ _ _
    rw [bindS_some]
    generalize hρ : applyW _ _ = ρ
    have h0 : ρ (n2) = some (.c ⟨1, txRows [hd, f x], true, true⟩) := by rw [← hρ]; simp only [applyW_cons, applyW_nil]; exact upd_is rfl
    have h1 : ∀ k, k < n2 → ρ k = τ k := by
      intro k hk
      rw [← hρ]; simp only [applyW_cons, applyW_nil]
      rw [upd_not (by omega)]
    clear hρ
    have hi := HB.out.lt
    have hj := HBL.out.jlt
    have hi2 := HBL.out.lt
    refine CALL_conH (caps := []) (put_conH i j' (n2) _ [hd, f x] ρ (n2 + 16) (HBL.out.up (by omega) h1) h0 (by omega) (by omega) (by omega) HL.out (by simp)) ?_
    rintro r τ' n3 ⟨rfl, j2, hj2, hb2, hf2⟩ hn3
    rw [kc_syntax_list_lapi_Expr1, onEnd_ret]
    simp (maxSteps:=1000000) (disch:=omega) only [List.getD_cons_succ,List.getD_cons_zero,go_sem, *]
    refine HK.out _ _ _ (.refl ⟨⟨_, _, rfl⟩, j2, ?_, by rw [HT.out, ← List.append_assoc]; simpa using hb2, fun k h2 h3 h4 => ((hf2 k (by omega) h3 ?_).trans (h1 k (by omega))).trans (HF.out k h2 h3 h4)⟩)
    · rcases hj2 with rfl | h
      · exact HJ.out
      · exact .inr (by omega)
    · rcases HJ.out with rfl | h
      · exact h4
      · omega
  · rintro K s' τ n2 hn ⟨⟨a, b, rfl⟩, j', hj', hbl, hfr⟩
    rw [List.take_length] at hbl
    rw [lb_syntax_list_lapi_Expr3]
    simp only [List.getD_cons_succ, List.getD_cons_zero]
    rw [bindP_ltI, COND_no (Int.lt_irrefl _), ← HR.out]
    exact ⟨rfl, j', hj', hbl, hfr⟩
set_option maxHeartbeats 2000000 in
theorem listS_conH (g : FuncId) (f : Se → Tx) (i j : Nat) (l head : Tx) (xs : List Se) (σ : Hp) (n : Nat) (hb : BldS σ n i j l) (hp : ∀ x ∈ xs, Con Tryz.prog g [.ag (encS x)] (.ret (.s (f x)))) (hlen : (l ++ joinT head (xs.map f)).length ≤ 140737488355328) (hxs : xs.length ≤ 1048576) :
    ConH Tryz.prog 45 [.rt i 2 PRT, .s head, .tr (xs.map encS), .fn g []] σ n (BPost σ n i j (l ++ joinT head (xs.map f)) (.ret (.tp []))) := by
  refine by_syntax_list_api_Set ?_
  generalize hR : BPost σ n i j (l ++ joinT head (xs.map f)) (.ret (.tp [])) = R
  have HR := Lib.hid hR; clear hR
  have HP := Lib.hid hp; clear hp
  have HB := Lib.hid hb; clear hb
  rw [sh_syntax_list_api_Set, aLen_tr, bindP_some]
  intro _
  rw [List.length_map]
  refine LOOP_listM xs (fun k s τ n' => (∃ a b, s = [a, b, .s (if k = 0 then head else [44, 32]), .sc (.int .i64 k)]) ∧ ∃ j', (j' = j ∨ n ≤ j') ∧ BldS τ n' i j' (l ++ joinT head ((xs.take k).map f)) ∧ ∀ k, k < n → k ≠ i → k ≠ j → τ k = σ k) (.refl ⟨⟨_, _, rfl⟩, j, .inl rfl, by simpa [joinT] using HB.out, fun _ _ _ _ => rfl⟩) ?_ ?_
  · rintro k x K s' τ n2 hx hk hk' hn ⟨⟨a, b, rfl⟩, j', hj', hbl, hfr⟩ hK
    have ht := joinT_take f head hx
    have hlt : (l ++ joinT head ((xs.take k).map f) ++ [(if k = 0 then head else [44, 32]), f x].flatten).length ≤ 140737488355328 := by
      have h2 := joinT_le (xs.map f) head (k + 1)
      rw [← List.map_take, ht] at h2
      simp only [List.length_append, List.flatten_cons, List.flatten_nil, List.append_nil] at hlen h2 ⊢
      omega
    have HC := Lib.hid (HP.out x (List.mem_of_getElem? hx))
    have HT := Lib.hid ht; clear ht
    have HJ := Lib.hid hj'; clear hj'
    have HF := Lib.hid hfr; clear hfr
    have HBL := Lib.hid hbl; clear hbl
    have HK := Lib.hid hK; clear hK
    have HL := Lib.hid hlt; clear hlt hlen
    generalize (if k = 0 then head else [44, 32]) = hd at *
    simp (maxSteps:=1000000) (disch:=omega) only [lb_syntax_list_api_Set3,List.getD_cons_succ,List.getD_cons_zero,go_sem, *]
    refine CALL_con0 HC.out (by simp only [brwL_cons, brwL_nil, brw_ag, encS_brw, List.append_nil, Option.map_some]) ?_
    rw [kc_syntax_list_api_Set2, onEnd_ret]
    change bindS (some (.ow _ 1 0 2, [(_, some (Ob.c ⟨1, txRows [hd, f x], true, true⟩))])) _ _ _
    rw [bindS_some]
    generalize hρ : applyW _ _ = ρ
    have h0 : ρ (n2 + 16 + 16) = some (.c ⟨1, txRows [hd, f x], true, true⟩) := by rw [← hρ]; simp only [applyW_cons, applyW_nil]; exact upd_is rfl
    have h1 : ∀ k, k < n2 → ρ k = τ k := by
      intro k hk
      rw [← hρ]; simp only [applyW_cons, applyW_nil]
      rw [upd_not (by omega), upd_not (by omega), upd_not (by omega)]
    clear hρ
    have hi := HB.out.lt
    have hj := HBL.out.jlt
    have hi2 := HBL.out.lt
    refine CALL_conH (caps := []) (put_conH i j' (n2 + 16 + 16) _ [hd, f x] ρ (n2 + 16 + 16 + 16) (HBL.out.up (by omega) h1) h0 (by omega) (by omega) (by omega) HL.out (by simp)) ?_
    rintro r τ' n3 ⟨rfl, j2, hj2, hb2, hf2⟩ hn3
    rw [kc_syntax_list_api_Set1, onEnd_ret]
    simp (maxSteps:=1000000) (disch:=omega) only [List.getD_cons_succ,List.getD_cons_zero,go_sem, *]
    refine HK.out _ _ _ (.refl ⟨⟨_, _, rfl⟩, j2, ?_, by rw [HT.out, ← List.append_assoc]; simpa using hb2, fun k h2 h3 h4 => ((hf2 k (by omega) h3 ?_).trans (h1 k (by omega))).trans (HF.out k h2 h3 h4)⟩)
    · rcases hj2 with rfl | h
      · exact HJ.out
      · exact .inr (by omega)
    · rcases HJ.out with rfl | h
      · exact h4
      · omega
  · rintro K s' τ n2 hn ⟨⟨a, b, rfl⟩, j', hj', hbl, hfr⟩
    rw [List.take_length] at hbl
    rw [lb_syntax_list_api_Set3]
    simp only [List.getD_cons_succ, List.getD_cons_zero]
    rw [bindP_ltI, COND_no (Int.lt_irrefl _), ← HR.out]
    exact ⟨rfl, j', hj', hbl, hfr⟩
set_option maxHeartbeats 2000000 in
theorem listC_conH (g : FuncId) (f : Cl → Tx) (i j : Nat) (l head : Tx) (xs : List Cl) (σ : Hp) (n : Nat) (hb : BldS σ n i j l) (hp : ∀ x ∈ xs, Con Tryz.prog g [.ag (encC x)] (.ret (.s (f x)))) (hlen : (l ++ joinT head (xs.map f)).length ≤ 140737488355328) (hxs : xs.length ≤ 1048576) :
    ConH Tryz.prog 70 [.rt i 2 PRT, .s head, .tr (xs.map encC), .fn g []] σ n (BPost σ n i j (l ++ joinT head (xs.map f)) (.ret (.tp []))) := by
  refine by_syntax_list_api_Column ?_
  generalize hR : BPost σ n i j (l ++ joinT head (xs.map f)) (.ret (.tp [])) = R
  have HR := Lib.hid hR; clear hR
  have HP := Lib.hid hp; clear hp
  have HB := Lib.hid hb; clear hb
  rw [sh_syntax_list_api_Column, aLen_tr, bindP_some]
  intro _
  rw [List.length_map]
  refine LOOP_listM xs (fun k s τ n' => (∃ a b, s = [a, b, .s (if k = 0 then head else [44, 32]), .sc (.int .i64 k)]) ∧ ∃ j', (j' = j ∨ n ≤ j') ∧ BldS τ n' i j' (l ++ joinT head ((xs.take k).map f)) ∧ ∀ k, k < n → k ≠ i → k ≠ j → τ k = σ k) (.refl ⟨⟨_, _, rfl⟩, j, .inl rfl, by simpa [joinT] using HB.out, fun _ _ _ _ => rfl⟩) ?_ ?_
  · rintro k x K s' τ n2 hx hk hk' hn ⟨⟨a, b, rfl⟩, j', hj', hbl, hfr⟩ hK
    have ht := joinT_take f head hx
    have hlt : (l ++ joinT head ((xs.take k).map f) ++ [(if k = 0 then head else [44, 32]), f x].flatten).length ≤ 140737488355328 := by
      have h2 := joinT_le (xs.map f) head (k + 1)
      rw [← List.map_take, ht] at h2
      simp only [List.length_append, List.flatten_cons, List.flatten_nil, List.append_nil] at hlen h2 ⊢
      omega
    have HC := Lib.hid (HP.out x (List.mem_of_getElem? hx))
    have HT := Lib.hid ht; clear ht
    have HJ := Lib.hid hj'; clear hj'
    have HF := Lib.hid hfr; clear hfr
    have HBL := Lib.hid hbl; clear hbl
    have HK := Lib.hid hK; clear hK
    have HL := Lib.hid hlt; clear hlt hlen
    generalize (if k = 0 then head else [44, 32]) = hd at *
    simp (maxSteps:=1000000) (disch:=omega) only [lb_syntax_list_api_Column3,List.getD_cons_succ,List.getD_cons_zero,encC,go_sem, *]
    refine CALL_con0 HC.out (by simp only [brwL_cons, brwL_nil, brw_ag, encC, brw_s, brw_sc, List.append_nil, Option.map_some]) ?_
    rw [kc_syntax_list_api_Column2, onEnd_ret]
    change bindS (some (.ow _ 1 0 2, [(_, some (Ob.c ⟨1, txRows [hd, f x], true, true⟩))])) _ _ _
    rw [bindS_some]
    generalize hρ : applyW _ _ = ρ
    have h0 : ρ (n2 + 16 + 16) = some (.c ⟨1, txRows [hd, f x], true, true⟩) := by rw [← hρ]; simp only [applyW_cons, applyW_nil]; exact upd_is rfl
    have h1 : ∀ k, k < n2 → ρ k = τ k := by
      intro k hk
      rw [← hρ]; simp only [applyW_cons, applyW_nil]
      rw [upd_not (by omega), upd_not (by omega), upd_not (by omega)]
    clear hρ
    have hi := HB.out.lt
    have hj := HBL.out.jlt
    have hi2 := HBL.out.lt
    refine CALL_conH (caps := []) (put_conH i j' (n2 + 16 + 16) _ [hd, f x] ρ (n2 + 16 + 16 + 16) (HBL.out.up (by omega) h1) h0 (by omega) (by omega) (by omega) HL.out (by simp)) ?_
    rintro r τ' n3 ⟨rfl, j2, hj2, hb2, hf2⟩ hn3
    rw [kc_syntax_list_api_Column1, onEnd_ret]
    simp (maxSteps:=1000000) (disch:=omega) only [List.getD_cons_succ,List.getD_cons_zero,go_sem, *]
    refine HK.out _ _ _ (.refl ⟨⟨_, _, rfl⟩, j2, ?_, by rw [HT.out, ← List.append_assoc]; simpa using hb2, fun k h2 h3 h4 => ((hf2 k (by omega) h3 ?_).trans (h1 k (by omega))).trans (HF.out k h2 h3 h4)⟩)
    · rcases hj2 with rfl | h
      · exact HJ.out
      · exact .inr (by omega)
    · rcases HJ.out with rfl | h
      · exact h4
      · omega
  · rintro K s' τ n2 hn ⟨⟨a, b, rfl⟩, j', hj', hbl, hfr⟩
    rw [List.take_length] at hbl
    rw [lb_syntax_list_api_Column3]
    simp only [List.getD_cons_succ, List.getD_cons_zero]
    rw [bindP_ltI, COND_no (Int.lt_irrefl _), ← HR.out]
    exact ⟨rfl, j', hj', hbl, hfr⟩
set_option maxHeartbeats 2000000 in
theorem listO_conH (g : FuncId) (f : Od → Tx) (i j : Nat) (l head : Tx) (xs : List Od) (σ : Hp) (n : Nat) (hb : BldS σ n i j l) (hp : ∀ x ∈ xs, Con Tryz.prog g [.ag (encO x)] (.ret (.s (f x)))) (hlen : (l ++ joinT head (xs.map f)).length ≤ 140737488355328) (hxs : xs.length ≤ 1048576) :
    ConH Tryz.prog 75 [.rt i 2 PRT, .s head, .tr (xs.map encO), .fn g []] σ n (BPost σ n i j (l ++ joinT head (xs.map f)) (.ret (.tp []))) := by
  refine by_syntax_list_api_Order ?_
  generalize hR : BPost σ n i j (l ++ joinT head (xs.map f)) (.ret (.tp [])) = R
  have HR := Lib.hid hR; clear hR
  have HP := Lib.hid hp; clear hp
  have HB := Lib.hid hb; clear hb
  rw [sh_syntax_list_api_Order, aLen_tr, bindP_some]
  intro _
  rw [List.length_map]
  refine LOOP_listM xs (fun k s τ n' => (∃ a b, s = [a, b, .s (if k = 0 then head else [44, 32]), .sc (.int .i64 k)]) ∧ ∃ j', (j' = j ∨ n ≤ j') ∧ BldS τ n' i j' (l ++ joinT head ((xs.take k).map f)) ∧ ∀ k, k < n → k ≠ i → k ≠ j → τ k = σ k) (.refl ⟨⟨_, _, rfl⟩, j, .inl rfl, by simpa [joinT] using HB.out, fun _ _ _ _ => rfl⟩) ?_ ?_
  · rintro k x K s' τ n2 hx hk hk' hn ⟨⟨a, b, rfl⟩, j', hj', hbl, hfr⟩ hK
    have ht := joinT_take f head hx
    have hlt : (l ++ joinT head ((xs.take k).map f) ++ [(if k = 0 then head else [44, 32]), f x].flatten).length ≤ 140737488355328 := by
      have h2 := joinT_le (xs.map f) head (k + 1)
      rw [← List.map_take, ht] at h2
      simp only [List.length_append, List.flatten_cons, List.flatten_nil, List.append_nil] at hlen h2 ⊢
      omega
    have HC := Lib.hid (HP.out x (List.mem_of_getElem? hx))
    have HT := Lib.hid ht; clear ht
    have HJ := Lib.hid hj'; clear hj'
    have HF := Lib.hid hfr; clear hfr
    have HBL := Lib.hid hbl; clear hbl
    have HK := Lib.hid hK; clear hK
    have HL := Lib.hid hlt; clear hlt hlen
    generalize (if k = 0 then head else [44, 32]) = hd at *
    simp (maxSteps:=1000000) (disch:=omega) only [lb_syntax_list_api_Order3,List.getD_cons_succ,List.getD_cons_zero,encO,go_sem, *]
    refine CALL_con0 HC.out (by simp only [brwL_cons, brwL_nil, brw_ag, encO, brw_sc, List.append_nil, Option.map_some]) ?_
    rw [kc_syntax_list_api_Order2, onEnd_ret]
    change bindS (some (.ow _ 1 0 2, [(_, some (Ob.c ⟨1, txRows [hd, f x], true, true⟩))])) _ _ _
    rw [bindS_some]
    generalize hρ : applyW _ _ = ρ
    have h0 : ρ (n2 + 16 + 16) = some (.c ⟨1, txRows [hd, f x], true, true⟩) := by rw [← hρ]; simp only [applyW_cons, applyW_nil]; exact upd_is rfl
    have h1 : ∀ k, k < n2 → ρ k = τ k := by
      intro k hk
      rw [← hρ]; simp only [applyW_cons, applyW_nil]
      rw [upd_not (by omega), upd_not (by omega), upd_not (by omega)]
    clear hρ
    have hi := HB.out.lt
    have hj := HBL.out.jlt
    have hi2 := HBL.out.lt
    refine CALL_conH (caps := []) (put_conH i j' (n2 + 16 + 16) _ [hd, f x] ρ (n2 + 16 + 16 + 16) (HBL.out.up (by omega) h1) h0 (by omega) (by omega) (by omega) HL.out (by simp)) ?_
    rintro r τ' n3 ⟨rfl, j2, hj2, hb2, hf2⟩ hn3
    rw [kc_syntax_list_api_Order1, onEnd_ret]
    simp (maxSteps:=1000000) (disch:=omega) only [List.getD_cons_succ,List.getD_cons_zero,go_sem, *]
    refine HK.out _ _ _ (.refl ⟨⟨_, _, rfl⟩, j2, ?_, by rw [HT.out, ← List.append_assoc]; simpa using hb2, fun k h2 h3 h4 => ((hf2 k (by omega) h3 ?_).trans (h1 k (by omega))).trans (HF.out k h2 h3 h4)⟩)
    · rcases hj2 with rfl | h
      · exact HJ.out
      · exact .inr (by omega)
    · rcases HJ.out with rfl | h
      · exact h4
      · omega
  · rintro K s' τ n2 hn ⟨⟨a, b, rfl⟩, j', hj', hbl, hfr⟩
    rw [List.take_length] at hbl
    rw [lb_syntax_list_api_Order3]
    simp only [List.getD_cons_succ, List.getD_cons_zero]
    rw [bindP_ltI, COND_no (Int.lt_irrefl _), ← HR.out]
    exact ⟨rfl, j', hj', hbl, hfr⟩
end Go.Proofs.YtodoejfkjimeaaaGreatDoor

set_option linter.unusedSimpArgs false
set_option linter.unusedVariables false
set_option maxRecDepth 100000
namespace Go.Proofs.YtodoejfkjimeaaaGreatDoor
open Go Go.RowKit Am Go.ChangeShapes Go.WideShapes Go.ChangeAt

abbrev noB : Nat → Prop := fun _ => False
theorem bulk_pos {H : Type} (d : DataW H) : 1 ≤ Rows.uptoBulk d := by
  cases d with
  | lit l => cases l <;> simp [Rows.uptoBulk]
  | nil => simp [Rows.uptoBulk]
  | ptr d => simp [Rows.uptoBulk]
  | slice elems spare => simp [Rows.uptoBulk]
  | agg parts => simp [Rows.uptoBulk]
  | iface t d => simp [Rows.uptoBulk]
  | map entries => simp [Rows.uptoBulk]
  | held h => simp [Rows.uptoBulk]
theorem bulk_part {H : Type} {d : DataW H} {l : List (DataW H)} (h : d ∈ l) : Rows.uptoBulk d ≤ Rows.uptoBulkAll l := by
  induction l with
  | nil => cases h
  | cons x r ih =>
    simp only [Rows.uptoBulkAll]
    cases List.mem_cons.1 h with
    | inl e => subst e; omega
    | inr e => have := ih e; omega
theorem bulk_length {H : Type} (l : List (DataW H)) : l.length ≤ Rows.uptoBulkAll l := by
  induction l with
  | nil => simp [Rows.uptoBulkAll]
  | cons x r ih => have := bulk_pos x; simp only [Rows.uptoBulkAll, List.length_cons]; omega
def Opens {α : Type} (t : TypeId) (k : Nat) (f : α → List AV) (B : α → Prop) (n : Nat) : Prop :=
  ∀ {H : Type} (enc : TypeId × Value → H) (W : World) (cs : List Value) (x : DataW H × List MemPlace), DataW.trod enc Tryz.prog W 0 (fun _ => true) true n t cs = some x → Rows.uptoBulk x.1 ≤ 1048576 →
    ∃ a, B a ∧ cs.length = k ∧ (f a).length = k ∧ ∀ (i : Nat) (u : Value) (v : AV), cs[i]? = some u → (f a)[i]? = some v → Rel noB W nob u v
theorem one_rel {W : World} {c : Value} {z : AV} (h : Rel noB W nob c z) : ∀ (i : Nat) (u : Value) (v : AV), [c][i]? = some u → [z][i]? = some v → Rel noB W nob u v := by
  intro i u v h1 h2
  cases i with
  | zero => cases h1; cases h2; exact h
  | succ i => cases h1
theorem int_range {m : Int} (h : (Lit.int .i64 m).wf = true) : -9223372036854775808 ≤ m ∧ m ≤ 9223372036854775807 := by
  simp only [Lit.wf, Bool.and_eq_true, decide_eq_true_eq] at h
  have h1 : IntKind.i64.min = -9223372036854775808 := by kernel_rfl
  have h2 : IntKind.i64.max = 9223372036854775807 := by kernel_rfl
  rw [h1, h2] at h; exact h
theorem opens_int (n : Nat) : Opens 3 1 (fun m : Int => [.sc (.int .i64 m)]) (fun m => -9223372036854775808 ≤ m ∧ m ≤ 9223372036854775807) n := by
  intro H enc W cs x h hb
  obtain ⟨m, rfl, rfl, hw⟩ := DataW.trod_int Tryz.underlying3 h
  exact ⟨m, int_range hw, rfl, rfl, one_rel (.sc _)⟩
theorem opens_bool (n : Nat) : Opens 4 1 (fun m : Bool => [.sc (.bool m)]) (fun _ => True) n := by
  intro H enc W cs x h hb
  obtain ⟨m, rfl, rfl⟩ := DataW.trod_bool Tryz.underlying4 h
  exact ⟨m, trivial, rfl, rfl, one_rel (.sc _)⟩
theorem opens_str (n : Nat) : Opens 9 1 (fun m : Tx => [.s m]) (fun m => m.length ≤ 1048576) n := by
  intro H enc W cs x h hb
  obtain ⟨m, rfl, rfl, _⟩ := DataW.trod_string Tryz.underlying9 h
  simp only [Rows.uptoBulk] at hb
  have hl : m.data.toList.length ≤ 1048576 := by omega
  exact ⟨m.data.toList, hl, rfl, rfl, one_rel (.s m _ rfl (by omega))⟩
theorem opens_slice {α : Type} [Inhabited α] {t e : TypeId} {k : Nat} {f : α → List AV} {B : α → Prop} (ht : Tryz.prog.underlying t = some (.slice e)) (hc : Tryz.prog.cellsOf e = k) (hk : 0 < k) (n : Nat) (ho : ∀ m, m < n → Opens e k f B m) :
    Opens t 1 (fun l : List α => [.tr (l.map f)]) (fun l => l.length ≤ 1048576 ∧ ∀ a ∈ l, B a) n := by
  intro H enc W cs x h hb
  rcases DataW.trod_slice ht h with ⟨rfl, rfl⟩ | ⟨ad, len, cap, elems, rest, m, rfl, rfl, rfl, hbase, hl, hm, hlen, hel, _⟩
  · refine ⟨[], ⟨by simp, fun a ha => by cases ha⟩, rfl, rfl, one_rel ?_⟩
    exact .tr none 0 1 [] (fun _ _ => undef) (by omega) (by simp) (by simp) (fun r hr => by cases hr) (fun h => absurd rfl h) (fun ad i j h => by cases h) (fun i j r a h => by simp at h)
  · simp only [Rows.uptoBulk] at hb
    have hbe : Rows.uptoBulkAll (elems.map (·.1)) ≤ 1048576 := by omega
    have hle : elems.length ≤ 1048576 := by
      have := bulk_length (elems.map (·.1))
      rw [List.length_map] at this; omega
    have hx : ∀ i, i < len → ∃ q : List Value × α, W.cells? 0 (ad.add (i * k)) k = some q.1 ∧ B q.2 ∧ q.1.length = k ∧ (f q.2).length = k ∧ ∀ (j : Nat) (u : Value) (v : AV), q.1[j]? = some u → (f q.2)[j]? = some v → Rel noB W nob u v := by
      intro i hi
      have h1 := hel i hi
      rw [hc, List.getElem?_eq_getElem (by omega)] at h1
      obtain ⟨cs', h2, h3⟩ := Option.bind_eq_some_iff.1 h1
      obtain ⟨a, g1, g2, g3, g4⟩ := ho m (by omega) enc W cs' _ h3 (Nat.le_trans (bulk_part (List.mem_map.2 ⟨_, List.getElem_mem _, rfl⟩)) hbe)
      exact ⟨(cs', a), h2, g1, g2, g3, g4⟩
    obtain ⟨q, hq⟩ := _root_.Go.Deep.choose_lt hx
    have hrl : (((List.range len).map fun i => (q i).2).map f).length = len := by simp
    have hrow : ∀ i, i < len → (((List.range len).map fun i => (q i).2).map f)[i]? = some (f (q i).2) := by
      intro i hi
      simp [hi]
    refine ⟨(List.range len).map fun i => (q i).2, ⟨by simp; omega, fun a ha => ?_⟩, rfl, rfl, one_rel ?_⟩
    · obtain ⟨i, hi, rfl⟩ := List.mem_map.1 ha
      exact (hq i (List.mem_range.1 hi)).2.1
    · have := Rel.tr (M := noB) (w := W) (β := nob) (some ad) cap k (((List.range len).map fun i => (q i).2).map f) (fun i j => ((q i).1)[j]?.getD undef) hk (by rw [hrl]; exact hl) (by rw [hrl]; omega)
        (fun r hr => by
          obtain ⟨a, ha, rfl⟩ := List.mem_map.1 hr
          obtain ⟨i, hi, rfl⟩ := List.mem_map.1 ha
          exact (hq i (List.mem_range.1 hi)).2.2.2.1)
        (fun _ => ⟨ad, rfl, fun h => h⟩)
        (fun ad' i j he hi hj => by
          cases he
          rw [hrl] at hi
          obtain ⟨c1, c2, c3, _⟩ := hq i hi
          obtain ⟨_, _, d3⟩ := World.cells?_some c1
          have := d3 j hj
          rw [show (ad.add (i * k + j)) = (ad.add (i * k)).add j by rw [Addr.add_add]]
          rw [this, List.getElem?_eq_getElem (by omega)]; rfl)
        (fun i j r a h1 h2 => by
          have hi : i < len := by have := (List.getElem?_eq_some_iff.1 h1).1; rw [hrl] at this; exact this
          rw [hrow i hi] at h1
          cases h1
          obtain ⟨_, _, c3, c4, c5⟩ := hq i hi
          have hj : j < k := by have := (List.getElem?_eq_some_iff.1 h2).1; omega
          refine c5 j _ a ?_ h2
          rw [List.getElem?_eq_getElem (by omega)]; rfl)
      rw [hrl] at this
      exact this
def encV (v : Vl) : List AV := [.sc (.int .i64 v.kind), .sc (.int .i64 v.n), .s v.text]
instance : Inhabited Vl := ⟨⟨0, 0, []⟩⟩
instance : Inhabited Cl := ⟨⟨[], 0, false⟩⟩
instance : Inhabited Ix := ⟨⟨[], 0⟩⟩
instance : Inhabited Tb := ⟨⟨[], [], 0, []⟩⟩
instance : Inhabited Ep := ⟨.zero⟩
theorem opens_Value (n : Nat) : Opens 44 3 encV (fun v => v.text.length ≤ 1048576 ∧ rng v.n) n := by
  intro H enc W cs x h hb
  obtain ⟨xs, m, rfl, rfl, hl, hlen, hf⟩ := DataW.trod_struct Tryz.underlying44 h
  have hc : Tryz.prog.cellsOf 44 = 3 := by kernel_rfl
  rw [hc] at hl
  simp only [Rows.uptoBulk] at hb
  match cs, hl, xs, hlen, hf, hb with
  | [c0, c1, c2], _, [y0, y1, y2], _, hf, hb =>
    simp only [List.map_cons, List.map_nil, Rows.uptoBulkAll] at hb
    have z0 : Tryz.prog.cellsOf 3 = 1 := by kernel_rfl
    have f0 : DataW.trod enc Tryz.prog W 0 (fun _ => true) true m 3 [c0] = some y0 := by have this : DataW.trod enc Tryz.prog W 0 (fun _ => true) true m 3 (([c0, c1, c2].drop 0).take (Tryz.prog.cellsOf 3)) = some y0 := hf 0 _ rfl; rw [z0] at this; exact this
    obtain ⟨a0, b0, _, _, r0⟩ := opens_int m enc W _ _ f0 (by omega)
    have z1 : Tryz.prog.cellsOf 3 = 1 := by kernel_rfl
    have f1 : DataW.trod enc Tryz.prog W 0 (fun _ => true) true m 3 [c1] = some y1 := by have this : DataW.trod enc Tryz.prog W 0 (fun _ => true) true m 3 (([c0, c1, c2].drop 1).take (Tryz.prog.cellsOf 3)) = some y1 := hf 1 _ rfl; rw [z1] at this; exact this
    obtain ⟨a1, b1, _, _, r1⟩ := opens_int m enc W _ _ f1 (by omega)
    have z2 : Tryz.prog.cellsOf 9 = 1 := by kernel_rfl
    have f2 : DataW.trod enc Tryz.prog W 0 (fun _ => true) true m 9 [c2] = some y2 := by have this : DataW.trod enc Tryz.prog W 0 (fun _ => true) true m 9 (([c0, c1, c2].drop 2).take (Tryz.prog.cellsOf 9)) = some y2 := hf 2 _ rfl; rw [z2] at this; exact this
    obtain ⟨a2, b2, _, _, r2⟩ := opens_str m enc W _ _ f2 (by omega)
    refine ⟨⟨a0, a1, a2⟩, ⟨b2, b1⟩, rfl, rfl, ?_⟩
    intro i u v h1 h2
    match i, h1, h2 with
    | 0, h1, h2 => exact r0 0 u v h1 h2
    | 1, h1, h2 => exact r1 0 u v h1 h2
    | 2, h1, h2 => exact r2 0 u v h1 h2
    | i + 3, h1, h2 => cases h1
theorem opens_Column (n : Nat) : Opens 73 3 encC (fun v => v.name.length ≤ 1048576) n := by
  intro H enc W cs x h hb
  obtain ⟨xs, m, rfl, rfl, hl, hlen, hf⟩ := DataW.trod_struct Tryz.underlying73 h
  have hc : Tryz.prog.cellsOf 73 = 3 := by kernel_rfl
  rw [hc] at hl
  simp only [Rows.uptoBulk] at hb
  match cs, hl, xs, hlen, hf, hb with
  | [c0, c1, c2], _, [y0, y1, y2], _, hf, hb =>
    simp only [List.map_cons, List.map_nil, Rows.uptoBulkAll] at hb
    have z0 : Tryz.prog.cellsOf 9 = 1 := by kernel_rfl
    have f0 : DataW.trod enc Tryz.prog W 0 (fun _ => true) true m 9 [c0] = some y0 := by have this : DataW.trod enc Tryz.prog W 0 (fun _ => true) true m 9 (([c0, c1, c2].drop 0).take (Tryz.prog.cellsOf 9)) = some y0 := hf 0 _ rfl; rw [z0] at this; exact this
    obtain ⟨a0, b0, _, _, r0⟩ := opens_str m enc W _ _ f0 (by omega)
    have z1 : Tryz.prog.cellsOf 3 = 1 := by kernel_rfl
    have f1 : DataW.trod enc Tryz.prog W 0 (fun _ => true) true m 3 [c1] = some y1 := by have this : DataW.trod enc Tryz.prog W 0 (fun _ => true) true m 3 (([c0, c1, c2].drop 1).take (Tryz.prog.cellsOf 3)) = some y1 := hf 1 _ rfl; rw [z1] at this; exact this
    obtain ⟨a1, b1, _, _, r1⟩ := opens_int m enc W _ _ f1 (by omega)
    have z2 : Tryz.prog.cellsOf 4 = 1 := by kernel_rfl
    have f2 : DataW.trod enc Tryz.prog W 0 (fun _ => true) true m 4 [c2] = some y2 := by have this : DataW.trod enc Tryz.prog W 0 (fun _ => true) true m 4 (([c0, c1, c2].drop 2).take (Tryz.prog.cellsOf 4)) = some y2 := hf 2 _ rfl; rw [z2] at this; exact this
    obtain ⟨a2, b2, _, _, r2⟩ := opens_bool m enc W _ _ f2 (by omega)
    refine ⟨⟨a0, a1, a2⟩, b0, rfl, rfl, ?_⟩
    intro i u v h1 h2
    match i, h1, h2 with
    | 0, h1, h2 => exact r0 0 u v h1 h2
    | 1, h1, h2 => exact r1 0 u v h1 h2
    | 2, h1, h2 => exact r2 0 u v h1 h2
    | i + 3, h1, h2 => cases h1
structure TBd0 (t : Tb) : Prop where
  name : t.name.length ≤ 1048576
  col : t.columns.length ≤ 1048576 ∧ ∀ c ∈ t.columns, c.name.length ≤ 1048576
  ind : t.indexes.length ≤ 1048576 ∧ ∀ c ∈ t.indexes, c.name.length ≤ 1048576
theorem cols_C : Tryz.prog.cellsOf 73 = 3 := by kernel_rfl
def BdRg (e : Ep) : Prop := Bd e ∧ Rg e
theorem cols_E : Tryz.prog.cellsOf 46 = 7 := by kernel_rfl
theorem opens_Expr_ (n : Nat) (ih : ∀ q, q < n → Opens 46 7 encE BdRg q) : Opens 46 7 encE BdRg n := by
  intro H enc W cs x h hb
  obtain ⟨xs, m, rfl, rfl, hl, hlen, hf⟩ := DataW.trod_struct Tryz.underlying46 h
  have hc : Tryz.prog.cellsOf 46 = 7 := by kernel_rfl
  rw [hc] at hl
  simp only [Rows.uptoBulk] at hb
  match cs, hl, xs, hlen, hf, hb with
  | [c0, c1, c2, c3, c4, c5, c6], _, [y0, y1, y2, y3, y4], _, hf, hb =>
    simp only [List.map_cons, List.map_nil, Rows.uptoBulkAll] at hb
    have z0 : Tryz.prog.cellsOf 3 = 1 := by kernel_rfl
    have f0 : DataW.trod enc Tryz.prog W 0 (fun _ => true) true m 3 [c0] = some y0 := by have this : DataW.trod enc Tryz.prog W 0 (fun _ => true) true m 3 (([c0, c1, c2, c3, c4, c5, c6].drop 0).take (Tryz.prog.cellsOf 3)) = some y0 := hf 0 _ rfl; rw [z0] at this; exact this
    obtain ⟨a0, b0, _, _, r0⟩ := opens_int m enc W _ _ f0 (by omega)
    have z1 : Tryz.prog.cellsOf 44 = 3 := by kernel_rfl
    have f1 : DataW.trod enc Tryz.prog W 0 (fun _ => true) true m 44 [c1, c2, c3] = some y1 := by have this : DataW.trod enc Tryz.prog W 0 (fun _ => true) true m 44 (([c0, c1, c2, c3, c4, c5, c6].drop 1).take (Tryz.prog.cellsOf 44)) = some y1 := hf 1 _ rfl; rw [z1] at this; exact this
    obtain ⟨a1, b1, _, _, r1⟩ := opens_Value m enc W _ _ f1 (by omega)
    have z2 : Tryz.prog.cellsOf 9 = 1 := by kernel_rfl
    have f2 : DataW.trod enc Tryz.prog W 0 (fun _ => true) true m 9 [c4] = some y2 := by have this : DataW.trod enc Tryz.prog W 0 (fun _ => true) true m 9 (([c0, c1, c2, c3, c4, c5, c6].drop 4).take (Tryz.prog.cellsOf 9)) = some y2 := hf 2 _ rfl; rw [z2] at this; exact this
    obtain ⟨a2, b2, _, _, r2⟩ := opens_str m enc W _ _ f2 (by omega)
    have z3 : Tryz.prog.cellsOf 9 = 1 := by kernel_rfl
    have f3 : DataW.trod enc Tryz.prog W 0 (fun _ => true) true m 9 [c5] = some y3 := by have this : DataW.trod enc Tryz.prog W 0 (fun _ => true) true m 9 (([c0, c1, c2, c3, c4, c5, c6].drop 5).take (Tryz.prog.cellsOf 9)) = some y3 := hf 3 _ rfl; rw [z3] at this; exact this
    obtain ⟨a3, b3, _, _, r3⟩ := opens_str m enc W _ _ f3 (by omega)
    have z4 : Tryz.prog.cellsOf 25 = 1 := by kernel_rfl
    have f4 : DataW.trod enc Tryz.prog W 0 (fun _ => true) true m 25 [c6] = some y4 := by have this : DataW.trod enc Tryz.prog W 0 (fun _ => true) true m 25 (([c0, c1, c2, c3, c4, c5, c6].drop 6).take (Tryz.prog.cellsOf 25)) = some y4 := hf 4 _ rfl; rw [z4] at this; exact this
    obtain ⟨a4, b4, _, _, r4⟩ := opens_slice Tryz.underlying25 cols_E (by omega) m (fun q hq => ih q (by omega)) enc W _ _ f4 (by omega)
    refine ⟨.mk a0 a1.kind a1.n a1.text a2 a3 a4, ⟨.mk _ _ _ _ _ _ _ b1.1 b2 b3 b4.1 (fun a ha => (b4.2 a ha).1), .mk _ b1.2 (fun a ha => (b4.2 a ha).2)⟩, rfl, encE_len _, ?_⟩
    rw [encE_eq]
    intro i u v h1 h2
    match i, h1, h2 with
    | 0, h1, h2 => exact r0 0 u v h1 h2
    | 1, h1, h2 => exact r1 0 u v h1 h2
    | 2, h1, h2 => exact r1 1 u v h1 h2
    | 3, h1, h2 => exact r1 2 u v h1 h2
    | 4, h1, h2 => exact r2 0 u v h1 h2
    | 5, h1, h2 => exact r3 0 u v h1 h2
    | 6, h1, h2 => exact r4 0 u v h1 h2
    | i + 7, h1, h2 => cases h1
theorem opens_Expr (n : Nat) : Opens 46 7 encE BdRg n := by
  induction n using Nat.strongRecOn with
  | _ n ih => exact opens_Expr_ n ih
end Go.Proofs.YtodoejfkjimeaaaGreatDoor

set_option linter.unusedSimpArgs false
set_option linter.unusedVariables false
set_option maxRecDepth 100000
namespace Go.Proofs.YtodoejfkjimeaaaGreatDoor
open Go Go.RowKit Am Go.ChangeShapes Go.WideShapes Go.ChangeAt

theorem laid_out : laidOutB Tryz.prog = true := by kernel_rfl
theorem Fr.below {w w' : World} (h : Fr w (fun _ => False) w') : Below w.heap.size w w' := ⟨h.os, h.tape, h.output, h.size, fun k hk => h.block k hk (fun h => h)⟩
theorem trodAll_below {H : Type} {enc : TypeId × Value → H} {W W' : World} (hb : Below W.heap.size W W') : ∀ {ts : List TypeId} {vs : List Value} {ds : List (DataW H)} {ps : List MemPlace}, (∀ t ∈ ts, Tryz.prog.readableRec t = true ∧ t < Tryz.prog.types.size) →
    DataW.TrodAll enc Tryz.prog W 0 (fun _ => true) true ts vs ds ps → DataW.TrodAll enc Tryz.prog W' 0 (fun b => decide (b < W.heap.size)) true ts vs ds ps
  | [], vs, ds, ps, _, h => by
    obtain ⟨rfl, rfl, rfl⟩ := trodAll_nil h
    exact trodAll_mk0
  | t :: ts, vs, ds, ps, hr, h => by
    obtain ⟨v, vs, d, ds, p, q, rfl, rfl, rfl, h0, r0⟩ := trodAll_cons h
    refine trodAll_cons_mk (Below.trod laid_out (hr t (List.mem_cons_self ..)).1 (hr t (List.mem_cons_self ..)).2 h0 hb (fun x hx => ?_)) (trodAll_below hb (fun t ht => hr t (List.mem_cons_of_mem _ ht)) r0)
    obtain ⟨m, hm⟩ := h0
    exact DataW.trod_lt m _ _ _ hm x hx
theorem post_true {H : Type} {enc : TypeId × Value → H} {f : Func} {s : ChangeSpec} {W W' : World} {args : Array Value} {ds gs : List (DataW H)} {before : List MemPlace} (hv : s.vars = []) (hr : f.resultTypes = #[4])
    (hp : ∀ t ∈ f.params.toList, Tryz.prog.readableRec t = true ∧ t < Tryz.prog.types.size) (hW : DataW.Whole enc Tryz.prog f.params.toList s.vars false W args.toList ds gs before)
    (hs : s.fn H (ds ++ gs) = { results := [.lit (.bool true)], args := ds }) (hb : Below W.heap.size W W') : s.post enc Tryz.prog f false true false false W args (.bool true) W' := by
  have hW' := hW
  rw [hv] at hW
  obtain ⟨p, q, hA, hV, rfl, hfz, hnd⟩ := hW
  obtain ⟨rfl, rfl⟩ := trodVars_none hV
  refine ⟨ds, [], p ++ [], [], p, [], hW', ?_, ?_, ?_, hb.frame _, fun h => by cases h⟩
  · rw [hs, hr]; exact trodAll_cons_mk (shut_bool Tryz.underlying4 _) trodAll_mk0
  · rw [hs]; exact trodAll_below hb hp hA
  · rw [hs, hv]; rfl
theorem agg_of_cells {v : Value} {cs : List Value} (h : v.cells.toList = cs) (h2 : 2 ≤ cs.length) : v = .agg cs.toArray := by
  cases v <;> simp [Value.cells] at h <;> subst h <;> simp at h2 ⊢
theorem rel_one {α : Type} {t : TypeId} {f : α → List AV} {B : α → Prop} (ho : ∀ n, Opens t 1 f B n) {H : Type} {enc : TypeId × Value → H} {W : World} {v : Value} {d : DataW H} {ps : List MemPlace} (h : DataW.Trod enc Tryz.prog W 0 (fun _ => true) true t v d ps) (hv : v.cells = #[v]) (hb : Rows.uptoBulk d ≤ 1048576) :
    ∃ a z, B a ∧ f a = [z] ∧ Rel noB W nob v z := by
  obtain ⟨n, hn⟩ := h
  obtain ⟨a, h1, h2, h3, h4⟩ := ho n enc W _ _ hn hb
  rw [hv] at h2 h4
  match hf : f a, h3 with
  | [z], _ => exact ⟨a, z, h1, hf, h4 0 v z rfl (by rw [hf]; rfl)⟩
theorem rel_agg {α : Type} {t : TypeId} {k : Nat} {f : α → List AV} {B : α → Prop} (hk : 2 ≤ k) (ho : ∀ n, Opens t k f B n) {H : Type} {enc : TypeId × Value → H} {W : World} {v : Value} {d : DataW H} {ps : List MemPlace} (h : DataW.Trod enc Tryz.prog W 0 (fun _ => true) true t v d ps) (hb : Rows.uptoBulk d ≤ 1048576) :
    ∃ a, B a ∧ Rel noB W nob v (.ag (f a)) := by
  obtain ⟨n, hn⟩ := h
  obtain ⟨a, h1, h2, h3, h4⟩ := ho n enc W _ _ hn hb
  refine ⟨a, h1, ?_⟩
  rw [agg_of_cells rfl (by omega : 2 ≤ v.cells.toList.length)]
  refine .ag _ _ (by simp at h2 ⊢; omega) (fun i u z hu hz => h4 i u z ?_ hz)
  simpa using hu
theorem away_of {W : World} (h : W.ShapedOpen Tryz.prog) : Aw noB noB W := by
  obtain ⟨m, hm⟩ := sh_MaxLen h
  exact ⟨fun b hb => hb.elim, fun h => h, fun h => h, m, hm⟩
end Go.Proofs.YtodoejfkjimeaaaGreatDoor

set_option linter.unusedSimpArgs false
set_option linter.unusedVariables false
set_option maxRecDepth 100000
namespace Go.Proofs.YtodoejfkjimeaaaGreatDoor
open Go Go.RowKit Am
attribute [-go_sem] guardP_if guardK_if guardD_if COND_bool
attribute [local go_sem low] guardP_if guardK_if guardD_if COND_bool
attribute [local go_sem] wrapI wrapB upd_is upd_not Nat.zero_add Nat.add_zero
attribute [local go_sem_proc] Nat.reduceAdd Nat.reduceSub Nat.reduceMul Nat.reduceLeDiff Nat.reduceEqDiff Int.reduceAdd Int.reduceSub Int.reduceMul Int.reduceNeg Int.reduceLT Int.reduceLE Int.reduceEq Int.reduceToNat reduceCtorEq reduceIte

def ppF (e : Ep) : Tx × Int := if (walkF 12 e 0).1 = 0 then (printF e, 0) else ([], (walkF 12 e 0).1)
theorem printExpr_con (e : Ep) (he : BdRg e) : Con Tryz.prog 38 [.ag (encE e)] (.ret (.tp [.s (ppF e).1, .sc (.int .i64 (ppF e).2)])) := by
  refine con_of (by_syntax_PrintExpr ?_)
  generalize hR : RC _ = R
  have HR := Lib.hid hR; clear hR
  have HC := Lib.hid (checkExpr_con e he.1)
  have HP := Lib.hid (fun h => printed_con 12 e (by omega) (walk_ok 12 e 0 h) he.1 he.2)
  have hp : ppF e = if (walkF 12 e 0).1 = 0 then (printF e, 0) else ([], (walkF 12 e 0).1) := rfl
  have HPP := Lib.hid hp; clear hp he
  simp (maxSteps:=1000000) (disch:=omega) only [sh_syntax_PrintExpr,go_sem, *]
  refine CALL_con0 HC.out (by simp only [List.append_nil, brwL_cons, brwL_nil, brw_ag, encE_brw, Option.map_some]) ?_
  generalize (walkF 12 e 0).1 = m at *
  by_cases h : m = 0
  · have HP' := Lib.hid (HP.out h); clear HP
    simp (maxSteps:=1000000) (disch:=omega) only [decide_true,decide_false,go_sem, *]
    refine CALL_con0 HP'.out (by simp only [List.append_nil, brwL_cons, brwL_nil, brw_ag, encE_brw, Option.map_some]) ?_
    simp (maxSteps:=1000000) (disch:=omega) only [go_sem, *]
    rw [← HR.out]; exact RC_ret rfl (by rw [HPP.out, if_pos h])
  · clear HP
    simp (maxSteps:=1000000) (disch:=omega) only [decide_true,decide_false,go_sem, *]
    rw [← HR.out]; exact RC_ret rfl (by rw [HPP.out, if_neg h])
theorem num4_con (n : Int) : Con Tryz.prog 7 [.sc (.int .i64 n)] (.ret (.sc (.int .i64 n))) := by
  refine con_of (by_law04_num ?_)
  exact RC_ret rfl rfl
def ea : Ep := .mk 1 0 0 [] [] [97] []
def e1 : Ep := .mk 0 1 1 [] [] [] []
def e4 : Ep := .mk 4 0 0 [] [] [] [ea, e1]
def sm8 : Sm := ⟨8, [], [], [], [], [], [], [], [], [], [], [], [], 0⟩
theorem pp4 : ppF e4 = ([40, 97, 32, 43, 32, 49, 41], 0) := by kernel_rfl
theorem ch8 : checkF sm8 = 0 := by kernel_rfl
theorem e4_bd : BdRg e4 := by
  have ha : BdRg ea := ⟨.mk _ _ _ _ _ _ _ (by decide) (by decide) (by decide) (by decide) (fun a h => by cases h), .mk _ (by unfold rng; decide) (fun a h => by cases h)⟩
  have h1 : BdRg e1 := ⟨.mk _ _ _ _ _ _ _ (by decide) (by decide) (by decide) (by decide) (fun a h => by cases h), .mk _ (by unfold rng; decide) (fun a h => by cases h)⟩
  refine ⟨.mk _ _ _ _ _ _ _ (by decide) (by decide) (by decide) (by simp) ?_, .mk _ (by unfold rng; decide) ?_⟩
  · intro a h
    rcases List.mem_cons.1 h with rfl | h
    · exact ha.1
    · rcases List.mem_cons.1 h with rfl | h
      · exact h1.1
      · cases h
  · intro a h
    rcases List.mem_cons.1 h with rfl | h
    · exact ha.2
    · rcases List.mem_cons.1 h with rfl | h
      · exact h1.2
      · cases h
theorem sm8_bd : SBd sm8 := by
  refine ⟨by decide, by decide, by decide, by decide, by decide, ?_, by decide, ?_, by decide, ?_, ⟨by decide, ?_⟩, ⟨by decide, ?_⟩, ⟨by decide, ?_⟩, ⟨by decide, ?_⟩, by decide⟩
  all_goals intro c hc; cases hc
theorem alive4_con : Con Tryz.prog 13 [] (.ret (.sc (.bool true))) := by
  refine con_of (by_law04_alive ?_)
  have HP := Lib.hid (printExpr_con e4 e4_bd)
  rw [pp4] at HP
  have HC := Lib.hid (check_con sm8 sm8_bd)
  rw [ch8] at HC
  simp (maxSteps:=1000000) (disch:=omega) only [sh_law04_alive,go_sem, *]
  refine CALL_con (I := [0]) HP.out (by simp (disch := omega) only [List.append_nil, brw_ag, Option.map_some, brwL_cons, brwL_nil, brw_s, brw_em, brw_ow', upd_is, upd_not, brw_sc]; rfl) ?_
  simp (maxSteps:=1000000) (disch:=omega) only [go_sem, *]
  refine CALL_con0 (num4_con 0) rfl ?_
  simp (maxSteps:=1000000) (disch:=omega) only [decide_true,decide_false,go_sem, *]
  refine CALL_con0 HC.out rfl ?_
  simp (maxSteps:=1000000) (disch:=omega) only [decide_true,decide_false,go_sem, *]
  exact RC_ret rfl rfl
end Go.Proofs.YtodoejfkjimeaaaGreatDoor

set_option linter.unusedSimpArgs false
set_option linter.unusedVariables false
set_option maxRecDepth 100000
namespace Go.Proofs.YtodoejfkjimeaaaGreatDoor
open Go Go.RowKit Am
attribute [-go_sem] guardP_if guardK_if guardD_if COND_bool
attribute [local go_sem low] guardP_if guardK_if guardD_if COND_bool
attribute [local go_sem] wrapI wrapB upd_is upd_not Nat.zero_add Nat.add_zero
attribute [local go_sem_proc] Nat.reduceAdd Nat.reduceSub Nat.reduceMul Nat.reduceLeDiff Nat.reduceEqDiff Int.reduceAdd Int.reduceSub Int.reduceMul Int.reduceNeg Int.reduceLT Int.reduceLE Int.reduceEq Int.reduceToNat reduceCtorEq reduceIte
def colT (c : Cl) : Tx := c.name ++ (([[32, 73, 78, 84], [32, 66, 79, 79, 76], [32, 84, 69, 88, 84]] : List Tx).getD (c.kind - 1).toNat []) ++ (if c.notNull = true then [32, 78, 79, 84, 32, 78, 85, 76, 76] else [])
def ordT (o : Od) : Tx := decF 40 o.n ++ (if o.desc = true then [32, 68, 69, 83, 67] else [])
def setT (s : Se) : Tx := s.name ++ [32, 61, 32] ++ printF s.ex
def rowT (l : List Ep) : Tx := joinT [40] (l.map printF) ++ [41]
def whereT (x : Sm) : Tx := joinT [32, 87, 72, 69, 82, 69, 32] (x.where_.map printF)
def queryT (x : Sm) : Tx :=
  joinT [83, 69, 76, 69, 67, 84, 32] (x.items.map printF) ++ ([32, 70, 82, 79, 77, 32] ++ x.table) ++ (if x.join = [] then [] else [32, 74, 79, 73, 78, 32] ++ x.join) ++ joinT [32, 79, 78, 32] (x.on.map printF) ++ whereT x
    ++ joinT [32, 71, 82, 79, 85, 80, 32, 66, 89, 32] (x.group.map printF) ++ joinT [32, 79, 82, 68, 69, 82, 32, 66, 89, 32] (x.order.map ordT) ++ (if 0 ≤ x.limit then [32, 76, 73, 77, 73, 84, 32] ++ decF 40 x.limit else [])
def createT (x : Sm) : Tx :=
  [67, 82, 69, 65, 84, 69, 32, 84, 65, 66, 76, 69, 32] ++ x.table ++ joinT [32, 40] (x.columns.map colT) ++ ([44, 32, 80, 82, 73, 77, 65, 82, 89, 32, 75, 69, 89, 32, 40] ++ x.key ++ [41, 41])
def stmtT (x : Sm) : Tx :=
  if x.kind = 1 then createT x
  else if x.kind = 2 then [67, 82, 69, 65, 84, 69, 32, 73, 78, 68, 69, 88, 32] ++ x.index ++ [32, 79, 78, 32] ++ x.table ++ [32, 40] ++ x.key ++ [41]
  else if x.kind = 3 then [68, 82, 79, 80, 32, 84, 65, 66, 76, 69, 32] ++ x.table
  else if x.kind = 4 then [73, 78, 83, 69, 82, 84, 32, 73, 78, 84, 79, 32] ++ x.table ++ joinT [32, 86, 65, 76, 85, 69, 83, 32] (x.rows.map rowT)
  else if x.kind = 5 then [85, 80, 68, 65, 84, 69, 32] ++ x.table ++ joinT [32, 83, 69, 84, 32] (x.sets.map setT) ++ whereT x
  else if x.kind = 6 then [68, 69, 76, 69, 84, 69, 32, 70, 82, 79, 77, 32] ++ x.table ++ whereT x
  else if x.kind = 7 then queryT x
  else ([[66, 69, 71, 73, 78], [67, 79, 77, 77, 73, 84], [82, 79, 76, 76, 66, 65, 67, 75]] : List Tx).getD (x.kind - 8).toNat []
structure SOk (x : Sm) : Prop where
  kind1 : 1 ≤ x.kind
  kind10 : x.kind ≤ 10
  cols : x.columns.length ≤ 8
  col : ∀ c ∈ x.columns, 1 ≤ c.kind ∧ c.kind ≤ 3
  rows : x.rows.length ≤ 16
  row : ∀ l ∈ x.rows, 1 ≤ l.length ∧ l.length ≤ 8
  sets : x.sets.length ≤ 8
  items : x.items.length ≤ 16
  on : x.on.length ≤ 1
  where_ : x.where_.length ≤ 1
  group : x.group.length ≤ 1
  order : x.order.length ≤ 8
  ord : ∀ o ∈ x.order, 1 ≤ o.n ∧ o.n ≤ 16
  limit : -1 ≤ x.limit ∧ x.limit ≤ 2147483648
  ok : ∀ l ∈ listsF x, ∀ e ∈ l, OKk 12 e
theorem firstBad_all : ∀ {l : List Ep}, firstBad l = 0 → ∀ e ∈ l, exErr e = 0
  | [], _, e, he => by cases he
  | a :: l, h, e, he => by
    by_cases ha : exErr a = 0
    · rw [firstBad, if_pos ha] at h
      rcases List.mem_cons.1 he with rfl | he
      · exact ha
      · exact firstBad_all h e he
    · rw [firstBad, if_neg ha] at h; exact absurd h ha
theorem countF_le {n m l : Int} {a : Bool} (h : countF n m a l = true) (hm : 0 ≤ m) : n ≤ m := by
  cases a <;> simp [countF] at h <;> omega
theorem any_not {α : Type} {f : α → Bool} {l : List α} (h : (!l.any f) = true) : ∀ x ∈ l, f x = false := by
  intro x hx
  simp only [Bool.not_eq_true', List.any_eq_false] at h
  exact Bool.not_eq_true _ ▸ h x hx
theorem checkF_ok (x : Sm) (h : checkF x = 0) : SOk x := by
  have h' := h
  unfold checkF at h'
  by_cases h1 : x.kind < 1 ∨ 10 < x.kind
  · rw [if_pos h1] at h'; cases h'
  · rw [if_neg h1] at h'
    by_cases h2 : shapeF x = false
    · rw [if_pos h2] at h'; cases h'
    · rw [if_neg h2] at h'
      by_cases h3 : firstBad (listsF x).flatten ≠ 0
      · rw [if_pos h3] at h'; exact absurd h' h3
      · have h3' : firstBad (listsF x).flatten = 0 := Classical.byContradiction h3
        have h2' : shapeF x = true := by simpa using h2
        unfold shapeF at h2'
        simp only [Bool.and_eq_true] at h2'
        obtain ⟨⟨⟨⟨⟨⟨⟨⟨⟨⟨⟨⟨⟨⟨⟨⟨a1, a2⟩, a3⟩, a4⟩, a5⟩, a6⟩, a7⟩, a8⟩, a9⟩, a10⟩, a11⟩, a12⟩, a13⟩, a14⟩, a15⟩, a16⟩, a17⟩ := h2'
        have c5 := countF_le a5 (by omega); have c6 := countF_le a6 (by omega); have c7 := countF_le a7 (by omega); have c8 := countF_le a8 (by omega)
        have c9 := countF_le a9 (by omega); have c10 := countF_le a10 (by omega); have c11 := countF_le a11 (by omega); have c12 := countF_le a12 (by omega)
        refine ⟨by omega, by omega, by omega, fun c hc => ?_, by omega, fun l hl => ?_, by omega, by omega, by omega, by omega, by omega, by omega, fun o ho => ?_, ?_, fun l hl e he => ?_⟩
        · have := any_not a14 c hc
          simp [colBad] at this
          omega
        · have := any_not a15 l hl
          simp [rowBad] at this
          omega
        · have := any_not a17 o ho
          simp [ordBad] at this
          omega
        · split at a13 <;> simp at a13 <;> omega
        · exact walk_ok 12 e 0 (firstBad_all h3' e (List.mem_flatten.2 ⟨l, hl, he⟩))
theorem pf_len {e : Ep} (h : OKk 12 e) (hb : Bd e) : (printF e).length ≤ 16383999900 := by
  have := print_len 12 e h hb
  omega
theorem joinT_len {M : Nat} : ∀ (ps : List Tx) (head : Tx), (∀ p ∈ ps, p.length ≤ M) → (joinT head ps).length ≤ head.length + ps.length * (M + 2)
  | [], head, _ => by simp [joinT]
  | p :: ps, head, h => by
    have h1 := joinT_len ps [44, 32] (fun q hq => h q (List.mem_cons_of_mem _ hq))
    have h2 := h p List.mem_cons_self
    simp only [joinT, List.length_append, List.length_cons, List.length_nil, Nat.add_mul] at h1 ⊢
    omega
theorem joinT_le2 {α : Type} (f : α → Tx) (xs : List α) (head : Tx) (M k : Nat) (h : ∀ x ∈ xs, (f x).length ≤ M) (hk : xs.length ≤ k) : (joinT head (xs.map f)).length ≤ head.length + k * (M + 2) := by
  have h1 := joinT_len (M := M) (xs.map f) head (fun p hp => by obtain ⟨x, hx, rfl⟩ := List.mem_map.1 hp; exact h x hx)
  rw [List.length_map] at h1
  have : xs.length * (M + 2) ≤ k * (M + 2) := Nat.mul_le_mul_right _ hk
  omega
set_option maxHeartbeats 2000000 in
theorem setT_con (s : Se) (hk : OKk 12 s.ex) (hb : Bd s.ex) (hr : Rg s.ex) (hn : s.name.length ≤ 1048576) : Con Tryz.prog 46 [.ag (encS s)] (.ret (.s (setT s))) := by
  refine con_of (by_psyntax_printer_stmt_c2 ?_)
  generalize hR : RC _ = R
  have HR := Lib.hid hR; clear hR
  have HP := Lib.hid (printed_con 12 s.ex (by omega) hk hb hr)
  have hl := pf_len hk hb
  have hT : setT s = s.name ++ [32, 61, 32] ++ printF s.ex := rfl
  have HT := Lib.hid hT; clear hT
  clear hk hb hr
  obtain ⟨nm, ex⟩ := s
  generalize printF ex = t at *
  simp only at hl hn
  simp (maxSteps:=1000000) (disch:=omega) only [sh_psyntax_printer_stmt_c2,encS,go_sem, *]
  rw [if_pos (by omega), bindP_some]
  refine callD_con0 HP.out (by simp only [brwL_cons, brwL_nil, brw_ag, encE_brw, List.append_nil, Option.map_some]) ?_
  rw [kd_psyntax_printer_stmt_c21, onEnd_ret, bindP_add (by simp only [List.length_append, List.length_cons, List.length_nil]; omega)]
  refine ⟨by simp [Apt, names], by simp [Apt, names], fun n_ hn_ => ?_⟩
  rw [← HR.out, HT.out]; exact RC_ret rfl rfl
set_option maxHeartbeats 2000000 in
theorem ordT_con (o : Od) (h : 1 ≤ o.n ∧ o.n ≤ 16) : Con Tryz.prog 76 [.ag (encO o)] (.ret (.s (ordT o))) := by
  refine con_of (by_psyntax_printer_query_c1 ?_)
  generalize hR : RC _ = R
  have HR := Lib.hid hR; clear hR
  have HD := Lib.hid (decimal_con 40 19 o.n (by omega) (by omega) (by split <;> omega) (by omega) (by unfold rng; omega))
  have hl := decF_len 40 o.n
  have hT : ordT o = decF 40 o.n ++ (if o.desc = true then [32, 68, 69, 83, 67] else []) := rfl
  have HT := Lib.hid hT; clear hT
  obtain ⟨n, desc⟩ := o
  generalize decF 40 n = t at *
  cases desc
  · simp (maxSteps:=1000000) (disch:=omega) only [sh_psyntax_printer_query_c1,encO,go_sem, *]
    refine CALL_con0 HD.out rfl ?_
    simp (maxSteps:=1000000) (disch:=omega) only [go_sem, *]
    rw [← HR.out]; exact RC_ret rfl (by rw [HT.out]; simp)
  · simp (maxSteps:=1000000) (disch:=omega) only [sh_psyntax_printer_query_c1,encO,go_sem, *]
    refine CALL_con0 HD.out rfl ?_
    rw [kc_psyntax_printer_query_c11, onEnd_ret, bindP_add (by simp only [List.length_cons, List.length_nil]; omega)]
    rw [← HR.out]; exact RC_ret rfl (by rw [HT.out]; rfl)
set_option maxHeartbeats 2000000 in
theorem colT_con (c : Cl) (h : 1 ≤ c.kind ∧ c.kind ≤ 3) (hn : c.name.length ≤ 1048576) : Con Tryz.prog 71 [.ag (encC c)] (.ret (.s (colT c))) := by
  refine con_of (by_psyntax_printer_create_c1 ?_)
  generalize hR : RC _ = R
  have HR := Lib.hid hR; clear hR
  obtain ⟨nm, k, nn⟩ := c
  simp only at h hn
  have hk : k = 1 ∨ k = 2 ∨ k = 3 := by omega
  rcases hk with rfl | rfl | rfl
  all_goals
    cases nn
    all_goals
      simp (maxSteps:=1000000) (disch:=omega) only [sh_psyntax_printer_create_c1,encC,go_sem, *]
      rw [if_pos (by decide), bindP_some, bindP_add (by simp only [List.length_cons, List.length_nil]; omega)]
      intro n_ hn_
      try rw [bindP_add (by simp only [List.length_append, List.length_cons, List.length_nil]; omega)]
      rw [← HR.out]; exact RC_ret rfl (by simp [colT])
theorem CALL_str {τ : Hp} {n i j : Nat} {l : Tx} (h : BldS τ n i j l) (h0 : l ≠ []) (hl : l.length ≤ 140737488355328) {K : AEnd → Hp → Nat → Prop} (hk : ∀ ρ n', n + 16 ≤ n' → (∀ k, k ≠ j → ρ k = τ k) → K (.ret (.s l)) ρ n') :
    CALL Tryz.prog (.fn 17 []) [.rt i 2 PRT] τ n K := by
  rcases h.here with ⟨e, _⟩ | ⟨e, _⟩ | ⟨_, h2, h3, h4⟩
  · exact absurd e h0
  · exact absurd e h0
  · refine CALL_conW (caps := []) (args := [.rt i 2 PRT]) (bstr i j PRT (.rt i 2 PRT) l h0 (by omega) n) ?_ (fun n' hn' => hk _ n' hn' (fun k hk => ?_))
    · intro p hp
      simp only [List.mem_cons, List.not_mem_nil, or_false] at hp
      rcases hp with rfl | rfl
      · exact h3
      · exact h4
    · simp only [applyW_cons, applyW_nil]
      exact upd_not hk
theorem bld_new (σ : Hp) (n : Nat) : BldS (upd σ n (some (.c ⟨2, [[.sc (.pointer none), .em]], true, false⟩))) (n + 16) n n [] := ⟨by omega, by omega, .inl ⟨rfl, upd_is rfl⟩⟩
set_option maxHeartbeats 2000000 in
theorem rowT_con (l : List Ep) (hl : 1 ≤ l.length ∧ l.length ≤ 8) (hb : LBd l) (hr : ∀ e ∈ l, Rg e) (hk : ∀ e ∈ l, OKk 12 e) : Con Tryz.prog 42 [.tr (l.map encE)] (.ret (.s (rowT l))) := by
  refine con_of (by_psyntax_printer_stmt_c1 ?_)
  generalize hR : RC _ = R
  have HR := Lib.hid hR; clear hR
  have hlen := joinT_le2 printF l [40] 16383999900 8 (fun e he => pf_len (hk e he) (hb.bd e he)) hl.2
  simp only [List.length_cons, List.length_nil] at hlen
  have hne : joinT [40] (l.map printF) ≠ [] := by
    cases l with
    | nil => simp at hl
    | cons e l => simp [joinT]
  rw [sh_psyntax_printer_stmt_c1]
  change bindS (some (.rt 0 2 PRT, [(0, some (Ob.c ⟨2, [[.sc (.pointer none), .em]], true, false⟩))])) _ _ _
  rw [bindS_some]
  simp only [applyW_cons, applyW_nil]
  refine CALL_conH (caps := []) (listE_conH 44 printF 0 0 [] [40] l _ _ (bld_new _ 0) (fun e he => printed_con 12 e (by omega) (hk e he) (hb.bd e he) (hr e he)) (by simpa using (by omega : (joinT [40] (l.map printF)).length ≤ 140737488355328)) hb.len) ?_
  rintro r τ n' ⟨rfl, j', hj', hbl, hfr⟩ hn'
  rw [List.nil_append] at hbl
  rw [kc_psyntax_printer_stmt_c12, onEnd_ret, aFad_rt, if_pos rfl, bindP_some]
  refine CALL_str hbl hne (by omega) (fun ρ n2 hn2 hρ => ?_)
  rw [kc_psyntax_printer_stmt_c11, onEnd_ret, bindP_add (by simp only [List.length_cons, List.length_nil]; omega), ← HR.out]
  exact RC_ret rfl rfl
end Go.Proofs.YtodoejfkjimeaaaGreatDoor

set_option linter.unusedSimpArgs false
set_option linter.unusedVariables false
set_option maxRecDepth 100000
namespace Go.Proofs.YtodoejfkjimeaaaGreatDoor
open Go Go.RowKit Am
def esc (b : UInt8) : Tx := if b = 39 then [39, 39] else [b]
theorem replaceK_esc : ∀ (s : List UInt8) (k : Nat), k = Lib.count s [39] → Lib.replaceK [39] [39, 39] k s = s.flatMap esc
  | [], k, h => by
    have h0 : Lib.count ([] : List UInt8) [39] = 0 := rfl
    rw [h0] at h; subst h; rfl
  | b :: l, k, h => by
    by_cases hb : b = 39
    · subst hb
      rw [Lib.count_cons_eq, Nat.add_comm] at h
      subst h
      have hix : Lib.index (39 :: l) [39] = ((0 : Nat) : Int) := by rw [Lib.index]; simp [List.isPrefixOf]
      rw [Lib.replaceK_hit _ _ _ _ 0 hix]
      simp only [List.take_zero, List.nil_append, Nat.zero_add, List.length_cons, List.length_nil, List.drop_succ_cons, List.drop_zero]
      rw [replaceK_esc l _ rfl]; rfl
    · rw [Lib.count_cons_ne _ _ _ hb] at h
      have he : (b :: l).flatMap esc = b :: l.flatMap esc := by rw [List.flatMap_cons, esc, if_neg hb]; rfl
      rw [he, ← replaceK_esc l k h]
      cases k with
      | zero => rfl
      | succ k =>
        obtain ⟨i, hi⟩ := Lib.index_of_count (s := l) (old := [39]) (by omega)
        have hp : ([39] : List UInt8).isPrefixOf (b :: l) = false := by simp [List.isPrefixOf, Ne.symm hb]
        have hix : Lib.index (b :: l) [39] = ((i + 1 : Nat) : Int) := by
          rw [Lib.index, hp, hi]
          have : ((i : Int) == -1) = false := by rw [beq_eq_false_iff_ne]; omega
          simp [this]
        rw [Lib.replaceK_hit _ _ _ _ _ hix, Lib.replaceK_hit _ _ _ _ _ hi]
        rfl
theorem replaceAll_esc (s : List UInt8) : Lib.replaceAll s [39] [39, 39] = s.flatMap esc := by
  unfold Lib.replaceAll Lib.replace
  rw [if_neg (by decide)]
  exact replaceK_esc s _ (by simp [Lib.replaceNum])
theorem esc_take {s : List UInt8} {i : Nat} {x : UInt8} (hx : s[i]? = some x) : (s.take (i + 1)).flatMap esc = (s.take i).flatMap esc ++ esc x := by
  rw [List.take_add_one, hx, List.flatMap_append]; simp
theorem esc_len (s : List UInt8) : (s.flatMap esc).length ≤ 2 * s.length := by
  induction s with
  | nil => simp
  | cons b l ih => rw [List.flatMap_cons, List.length_append]; have : (esc b).length ≤ 2 := by unfold esc; split <;> simp
                   simp only [List.length_cons]; omega
def digF : Nat → Int → Tx
  | 0, _ => []
  | k + 1, m => (if m.tdiv 10 ≠ 0 then digF k (m.tdiv 10) else []) ++ [UInt8.ofNat (48 + (m.tmod 10).natAbs)]
theorem tdiv_lt {m : Int} {k : Nat} (h : m.natAbs < 10 ^ (k + 1)) : (m.tdiv 10).natAbs < 10 ^ k := by
  rw [Nat.pow_succ] at h
  rw [Int.natAbs_tdiv]
  exact Nat.div_lt_of_lt_mul (by rw [Nat.mul_comm]; exact h)
theorem dec_dig : ∀ (k : Nat) (n : Int), n.natAbs < 10 ^ (k + 1) → decF (k + 2) n = (if n < 0 then [45] else []) ++ digF (k + 1) n := by
  intro k
  induction k with
  | zero =>
    intro n h
    have hq := tdiv_lt (k := 0) (m := n) (by simpa using h)
    have hq0 : n.tdiv 10 = 0 := Int.natAbs_eq_zero.1 (by rw [Nat.pow_zero] at hq; omega)
    have hqn : (-n).tdiv 10 = 0 := by rw [Int.neg_tdiv, hq0]; rfl
    simp only [decF, digF, hq0, hqn, Int.tmod_neg, Int.neg_tmod, Int.natAbs_neg]
    by_cases hn : n < 0
    · simp [hn, show ¬ (0 < n) by omega]
    · simp [hn]
  | succ k ih =>
    intro n h
    by_cases hq0 : n.tdiv 10 = 0
    · have hqn : (-n).tdiv 10 = 0 := by rw [Int.neg_tdiv, hq0]; rfl
      rw [decF, digF, decF]
      simp only [hq0, hqn, Int.neg_tmod, Int.natAbs_neg]
      by_cases hn : n < 0
      · simp [hn, show ¬ (0 < n) by omega]
      · simp [hn]
    · have hq := tdiv_lt h
      have hs : n.tdiv 10 < 0 ↔ n < 0 := by
        have := Int.mul_tdiv_add_tmod n 10
        constructor
        · intro h1
          rcases Int.lt_or_le n 0 with h2 | h2
          · exact h2
          · have := Int.tdiv_nonneg h2 (show (0 : Int) ≤ 10 by decide); omega
        · intro h1
          have h3 : 0 ≤ (-n).tdiv 10 := Int.tdiv_nonneg (by omega) (by decide)
          rw [Int.neg_tdiv] at h3
          omega
      rw [decF, digF, if_neg (by simp [hq0]), if_pos hq0, if_pos hq0, ih _ hq]
      by_cases hn : n < 0
      · rw [if_pos hn, if_pos (hs.2 hn)]; rfl
      · rw [if_neg hn, if_neg (fun h => hn (hs.1 h))]; rfl
theorem dec40 {n : Int} (h : rng n) : decF 40 n = (if n < 0 then [45] else []) ++ digF 39 n := dec_dig 38 n (by
  unfold rng at h
  have : (10 : Nat) ^ (38 + 1) = 1000000000000000000000000000000000000000 := by decide
  rw [this]; omega)
def contF (k : Nat) (m : Int) (t : Tx) : Tx := if m = 0 ∧ t ≠ [] then t else digF k m ++ t
theorem cont_step {k : Nat} {m : Int} {t : Tx} (h : ¬ (m = 0 ∧ t ≠ [])) : contF (k + 1) m t = contF k (m.tdiv 10) (UInt8.ofNat (48 + (m.tmod 10).natAbs) :: t) := by
  unfold contF
  rw [if_neg h, digF]
  by_cases hq : m.tdiv 10 = 0
  · simp only [hq, ne_eq, not_true_eq_false, if_false, reduceCtorEq, not_false_eq_true, and_self, if_true, List.nil_append, List.singleton_append]
  · simp only [hq, ne_eq, not_false_eq_true, if_true, false_and, if_false, List.append_assoc, List.singleton_append]
theorem trim_dot {table name : Tx} (h : ∀ b, table.head? = some b → b ≠ 46) : Lib.trimPrefix (table ++ [46] ++ name) [46] = if table = [] then name else table ++ [46] ++ name := by
  unfold Lib.trimPrefix Lib.hasPrefix
  cases table with
  | nil => simp
  | cons b l =>
    have := h b rfl
    simp [List.isPrefixOf, Ne.symm this]
end Go.Proofs.YtodoejfkjimeaaaGreatDoor
