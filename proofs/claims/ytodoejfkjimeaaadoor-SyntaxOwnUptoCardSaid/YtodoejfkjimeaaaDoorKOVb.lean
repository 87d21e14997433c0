/- Packed by a program of this repo: Vb Vc Vd Ve. -/
import Derived.Test.YtodoejfkjimeaaaDoorKOSs
import Derived.Test.YtodoejfkjimeaaaDoorKOSh4c
import Derived.Test.YtodoejfkjimeaaaDoorKOSq
import Derived.Test.YtodoejfkjimeaaaDoorKOQf
import Derived.Test.YtodoejfkjimeaaaDoorKOUe
set_option linter.unusedSimpArgs false
set_option linter.unusedVariables false
set_option maxRecDepth 100000
namespace Go.Proofs.YtodoejfkjimeaaaDoor
open Go Go.RowKit Am
attribute [-go_sem] guardP_if guardK_if guardD_if COND_bool
attribute [local go_sem low] guardP_if guardK_if guardD_if COND_bool
abbrev PRT : Nat := 84
theorem prt_lies : liesAt Tryd.prog Tryd.prog.depth PRT (2 / Tryd.prog.cellsOf PRT) 0 82 1 = true := by kernel_rfl
structure BldS (σ : Hp) (n i j : Nat) (l : Tx) : Prop where
  lt : i < n
  jlt : j < n
  here : (l = [] ∧ σ i = some (.c ⟨2, [[.sc (.pointer none), .em]], true, false⟩)) ∨ (l = [] ∧ σ i = some (.c ⟨2, [[.rt i 2 PRT, .em]], true, false⟩)) ∨
    (l ≠ [] ∧ j ≠ i ∧ σ i = some (.c ⟨2, [[.rt i 2 PRT, .ob j l.length]], true, false⟩) ∧ σ j = some (.c ⟨1, byteRows l, true, true⟩))
def BPost (σ : Hp) (n i j : Nat) (l : Tx) (r0 : AEnd) : AEnd → Hp → Nat → Prop := fun r σ' n' => r = r0 ∧ ∃ j', (j' = j ∨ n ≤ j') ∧ BldS σ' n' i j' l ∧ ∀ k, k < n → k ≠ i → k ≠ j → σ' k = σ k
theorem byteRows_append (l m : Tx) : byteRows (l ++ m) = byteRows l ++ byteRows m := List.map_append
theorem hAps_fst (σ : Hp) (n : Nat) (l : Tx) (hl : l ≠ []) (hb : l.length ≤ 140737488355328) : hAps σ n 1 .em (.s l) = some (.ob n l.length, [(n, some (.c ⟨1, byteRows l, true, true⟩))]) := by
  rw [hAps_em, if_pos (by omega)]
  cases l with
  | nil => exact absurd rfl hl
  | cons b l => rfl
theorem hAps_nil (σ : Hp) (n : Nat) : hAps σ n 1 .em (.s []) = some (.em, []) := by
  rw [hAps_em, if_pos (by simp)]
theorem hAps_snd (σ : Hp) (n j : Nat) (l m : Tx) (hj : σ j = some (.c ⟨1, byteRows l, true, true⟩)) (hn : j ≠ n) (h0 : l ≠ []) (hb : (l ++ m).length ≤ 140737488355328) :
    hAps σ n 1 (.ob j l.length) (.s m) = some (.ob n (l ++ m).length, [(j, none), (n, some (.c ⟨1, byteRows (l ++ m), true, true⟩))]) := by
  have hp : 0 < l.length := List.length_pos_iff.2 h0
  rw [List.length_append] at hb
  rw [hAps_ob, hj]
  simp only
  rw [if_pos ⟨by trivial, by trivial, by trivial, byteRows_len l, by omega, hn, by omega⟩, byteRows_append, List.length_append]
set_option maxHeartbeats 2000000 in
theorem writeString_conH (i j : Nat) (l m : Tx) (σ : Hp) (n : Nat) (hb : BldS σ n i j l) (hlen : (l ++ m).length ≤ 140737488355328) :
    ConH Tryd.prog 111 [.rt i 2 PRT, .s m] σ n (BPost σ n i j (l ++ m) (.ret (.tp [.sc (.int .i64 m.length), .sc .nilIface]))) := by
  refine ConH.fresh (by kernel_rfl) fun hfresh => ?_
  refine by_pstrings_Builder_WriteString ?_
  have hi := hb.lt
  have hj1 := hb.jlt
  rw [sh_pstrings_Builder_WriteString]
  have rest : ∀ (τ : Hp) (v : AV) (n' : Nat), n + 16 ≤ n' → τ i = some (.c ⟨2, [[.rt i 2 PRT, v]], true, false⟩) → (∀ k, k ≠ i → τ k = σ k) → ((l = [] ∧ v = .em) ∨ (l ≠ [] ∧ j ≠ i ∧ v = .ob j l.length ∧ τ j = some (.c ⟨1, byteRows l, true, true⟩))) →
      kc_pstrings_Builder_WriteString1 (.rt i 2 PRT) (.s m) (BPost σ n i j (l ++ m) (.ret (.tp [.sc (.int .i64 m.length), .sc .nilIface]))) (.ret (.tp [])) τ n' := by
    intro τ v n' hn' hi0 hk hv
    rw [kc_pstrings_Builder_WriteString1, onEnd_ret, aNck_rt, bindP_some, aFad_rt, if_neg (by omega), bindP_some, aLd_rf, hi0]
    simp only [if_true, List.getElem?_cons_zero, part_none, List.getElem?_cons_succ, bindP_some]
    have fin : ∀ (v' : AV) (wr : Wr), hAps τ n' 1 v (.s m) = some (v', wr) → leafok v' = true → v'.cells = some [v'] → applyW τ wr i = some (.c ⟨2, [[.rt i 2 PRT, v]], true, false⟩) →
        (∀ (ρ : Hp), ρ i = some (.c ⟨2, [[.rt i 2 PRT, v']], true, false⟩) → (∀ k, k ≠ i → ρ k = applyW τ wr k) → ∃ j', (j' = j ∨ n ≤ j') ∧ BldS ρ (n' + 16 + 16) i j' (l ++ m) ∧ ∀ k, k < n → k ≠ i → k ≠ j → ρ k = σ k) →
        bindS (hAps τ n' 1 v (.s m)) τ n' fun v6 σ_1 n_1 => bindP (aNck (.rt i 2 PRT)) fun v7 => bindP (aFad 1 v7) fun v8 => bindS (hSt σ_1 1 v8 v6) σ_1 n_1 fun v9 σ_2 n_2 => bindP (aLen true (.s m)) fun v10 => bnd σ_2 (.s m) →
          BPost σ n i j (l ++ m) (.ret (.tp [.sc (.int .i64 m.length), .sc .nilIface])) (.ret (.tp [v10, .sc .nilIface])) σ_2 n_2 := by
      intro v' wr h1 h2 h3 h4 h5
      rw [h1, bindS_some, aNck_rt, bindP_some, aFad_rt, if_neg (by omega), bindP_some, hSt_rf, h4]
      have hcl : (AV.rt i 2 PRT).cells = some [.rt i 2 PRT] := rfl
      simp only [h3, List.getElem?_cons_zero, and_self, if_true, List.length_cons, List.length_nil, List.all_cons, List.all_nil, h2, Bool.and_self]
      rw [if_pos ⟨by trivial, by omega, trivial⟩, bindS_some, aLen_s, bindP_some]
      intro _
      refine ⟨rfl, h5 _ ?_ (fun k hk => ?_)⟩
      · simp only [applyW_cons, applyW_nil]
        exact upd_is rfl
      · simp only [applyW_cons, applyW_nil]
        exact upd_not hk
    rcases hv with ⟨rfl, rfl⟩ | ⟨h0, hj2, rfl, hj3⟩
    · by_cases hm : m = []
      · subst hm
        exact fin _ _ (hAps_nil τ n') rfl rfl hi0 (fun ρ h1 h2 => ⟨j, .inl rfl, ⟨by omega, by omega, .inr (.inl ⟨rfl, h1⟩)⟩, fun k hk2 hki _ => (h2 k hki).trans (hk k hki)⟩)
      · refine fin _ _ (hAps_fst τ n' m hm (by simpa using hlen)) rfl rfl ?_ (fun ρ h1 h2 => ⟨n', .inr (by omega), ⟨by omega, by omega, .inr (.inr ⟨hm, by omega, h1, ?_⟩)⟩, fun k hk2 hki _ => (h2 k hki).trans ?_⟩)
        · simp only [applyW_cons, applyW_nil]
          rw [upd_not (by omega)]; exact hi0
        · rw [h2 n' (by omega)]
          simp only [applyW_cons, applyW_nil]
          exact upd_is rfl
        · simp only [applyW_cons, applyW_nil]
          rw [upd_not (by omega)]; exact hk k hki
    · refine fin _ _ (hAps_snd τ n' j l m hj3 (by omega) h0 hlen) rfl rfl ?_ (fun ρ h1 h2 => ⟨n', .inr (by omega), ⟨by omega, by omega, .inr (.inr ⟨by simp [h0], by omega, h1, ?_⟩)⟩, fun k hk2 hki hkj => (h2 k hki).trans ?_⟩)
      · simp only [applyW_cons, applyW_nil]
        rw [upd_not (by omega), upd_not (Ne.symm hj2)]; exact hi0
      · rw [h2 n' (by omega)]
        simp only [applyW_cons, applyW_nil]
        exact upd_is rfl
      · simp only [applyW_cons, applyW_nil]
        rw [upd_not (by omega), upd_not hkj]; exact hk k hki
  rcases hb.here with ⟨h1, h2⟩ | ⟨h1, h2⟩ | ⟨h0, h2, h3, h4⟩
  · refine CALL_conW (caps := []) (args := [.rt i 2 PRT]) (cc_fresh PRT prt_lies i .em n) (by simpa using h2) (fun n' hn' => rest _ .em n' hn' ?_ (fun k hk => ?_) (.inl ⟨h1, rfl⟩))
    · simp only [applyW_cons, applyW_nil]; exact upd_is rfl
    · simp only [applyW_cons, applyW_nil]; exact upd_not hk
  · exact CALL_conW (caps := []) (args := [.rt i 2 PRT]) (cc_used i PRT .em n) (by simpa using h2) (fun n' hn' => rest _ .em n' hn' h2 (fun k hk => rfl) (.inl ⟨h1, rfl⟩))
  · exact CALL_conW (caps := []) (args := [.rt i 2 PRT]) (cc_used i PRT (.ob j l.length) n) (by simpa using h3) (fun n' hn' => rest _ _ n' hn' h3 (fun k hk => rfl) (.inr ⟨h0, h2, rfl, h4⟩))
theorem CALL_conH {P : Program} {g : FuncId} {caps args : List AV} {σ : Hp} {n : Nat} {R K : AEnd → Hp → Nat → Prop} (h : ConH P g (args ++ caps) σ n R) (hk : ∀ r σ' n', R r σ' n' → n ≤ n' → K r σ' n') : CALL P (.fn g caps) args σ n K := .h ⟨R, h, hk⟩
def txRows (ts : List Tx) : List (List AV) := ts.map fun t => [.s t]
set_option maxHeartbeats 1000000 in
theorem put_conH (i j q : Nat) (l : Tx) (ts : List Tx) (σ : Hp) (n : Nat) (hb : BldS σ n i j l) (hq : σ q = some (.c ⟨1, txRows ts, true, true⟩)) (hqn : q < n) (hqi : q ≠ i) (hqj : q ≠ j) (hlen : (l ++ ts.flatten).length ≤ 140737488355328) (hts : ts.length ≤ 1000) :
    ConH Tryd.prog 70 [.rt i 2 PRT, .ow q 1 0 ts.length] σ n (BPost σ n i j (l ++ ts.flatten) (.ret (.tp []))) := by
  refine by_psyntax_printer_put ?_
  generalize hR : BPost σ n i j (l ++ ts.flatten) (.ret (.tp [])) = R
  have HR := Lib.hid hR; clear hR
  rw [sh_psyntax_printer_put, aLen_ow, bindP_some]
  intro _
  refine LOOP_listM ts (fun k s τ n' => (∃ a b, s = [a, b, .sc (.int .i64 k)]) ∧ ∃ j', (j' = j ∨ n ≤ j') ∧ BldS τ n' i j' (l ++ (ts.take k).flatten) ∧ ∀ k, k < n → k ≠ i → k ≠ j → τ k = σ k) (.refl ⟨⟨_, _, rfl⟩, j, .inl rfl, by simpa using hb, fun _ _ _ _ => rfl⟩) ?_ ?_
  · rintro k t K s' τ n2 hx hk hk' hn ⟨⟨a, b, rfl⟩, j', hj', hbl, hfr⟩ hK
    have ht : (ts.take (k + 1)).flatten = (ts.take k).flatten ++ t := by rw [List.take_add_one, hx, List.flatten_append]; simp
    have hlt : (l ++ (ts.take k).flatten ++ t).length ≤ 140737488355328 := by
      have h2 : ts.flatten = (ts.take (k + 1)).flatten ++ (ts.drop (k + 1)).flatten := by rw [← List.flatten_append, List.take_append_drop]
      rw [h2, ht] at hlen
      simp only [List.length_append] at hlen ⊢
      omega
    have hq2 : τ q = some (.c ⟨1, txRows ts, true, true⟩) := (hfr q hqn hqi hqj).trans hq
    rw [lb_psyntax_printer_put2]
    simp only [List.getD_cons_succ, List.getD_cons_zero]
    rw [bindP_ltI, COND_yes hk', aIad_ow, if_pos ⟨rfl, by omega, by omega⟩, bindP_some, aLd_rf, hq2]
    have hrow : (txRows ts)[0 + (k : Int).toNat]? = some [.s t] := by unfold txRows; rw [Nat.zero_add, Int.toNat_natCast, List.getElem?_map, hx]; rfl
    simp only [if_true, hrow, part_none, List.getElem?_cons_zero, bindP_some]
    rw [aNck_rt, bindP_some, aFad_rt, if_pos rfl, bindP_some]
    refine CALL_conH (caps := []) (writeString_conH i j' _ t τ n2 hbl hlt) ?_
    rintro r τ' n3 ⟨rfl, j2, hj2, hb2, hf2⟩ hn3
    rw [kc_psyntax_printer_put1, onEnd_ret]
    simp (maxSteps:=1000000) (disch:=omega) only [List.getD_cons_succ,List.getD_cons_zero,go_sem,wrapI,wrapB,upd_is,upd_not,Nat.reduceAdd,Nat.reduceSub,Nat.reduceMul,Nat.reduceLeDiff,Nat.reduceEqDiff,Int.reduceAdd,Int.reduceSub,Int.reduceMul,Int.reduceNeg,Int.reduceLT,Int.reduceLE,Int.reduceEq,Int.reduceToNat,reduceCtorEq,reduceIte,Nat.zero_add,Nat.add_zero, *]
    refine hK _ _ _ (.refl ⟨⟨_, _, rfl⟩, j2, ?_, by rw [ht, ← List.append_assoc]; exact hb2, fun k h1 h2 h3 => (hf2 k (by omega) h2 ?_).trans (hfr k h1 h2 h3)⟩)
    · rcases hj2 with rfl | h
      · exact hj'
      · exact .inr (by omega)
    · rcases hj' with rfl | h
      · exact h3
      · omega
  · rintro K s' τ n2 hn ⟨⟨a, b, rfl⟩, j', hj', hbl, hfr⟩
    rw [List.take_length] at hbl
    rw [lb_psyntax_printer_put2]
    simp only [List.getD_cons_succ, List.getD_cons_zero]
    rw [bindP_ltI, COND_no (Int.lt_irrefl _), ← HR.out]
    exact ⟨rfl, j', hj', hbl, hfr⟩
end Go.Proofs.YtodoejfkjimeaaaDoor

set_option linter.unusedSimpArgs false
set_option linter.unusedVariables false
set_option maxRecDepth 100000
namespace Go.Proofs.YtodoejfkjimeaaaDoor
open Go Go.RowKit Am
attribute [-go_sem] guardP_if guardK_if guardD_if COND_bool
attribute [local go_sem low] guardP_if guardK_if guardD_if COND_bool
def joinT (head : Tx) : List Tx → Tx
  | [] => []
  | p :: ps => head ++ p ++ joinT [44, 32] ps
theorem joinT_snoc : ∀ (ps : List Tx) (head p : Tx), joinT head (ps ++ [p]) = joinT head ps ++ ((if ps = [] then head else [44, 32]) ++ p)
  | [], head, p => by simp [joinT]
  | q :: ps, head, p => by
    rw [List.cons_append, joinT, joinT_snoc ps, joinT]
    by_cases h : ps = [] <;> simp [h, List.append_assoc]
theorem joinT_take {α : Type} (f : α → Tx) {xs : List α} {k : Nat} {x : α} (head : Tx) (h : xs[k]? = some x) : joinT head ((xs.take (k + 1)).map f) = joinT head ((xs.take k).map f) ++ ((if k = 0 then head else [44, 32]) ++ f x) := by
  have hk : k < xs.length := (List.getElem?_eq_some_iff.1 h).1
  rw [List.take_add_one, h, List.map_append, Option.toList, List.map_cons, List.map_nil, joinT_snoc]
  by_cases hz : k = 0
  · subst hz; simp
  · rw [if_neg hz, if_neg]
    intro he
    have := congrArg List.length he
    rw [List.length_map, List.length_take, List.length_nil] at this
    omega
theorem joinT_le : ∀ (ps : List Tx) (head : Tx) (k : Nat), (joinT head (ps.take k)).length ≤ (joinT head ps).length
  | [], head, k => by simp
  | p :: ps, head, 0 => by simp [joinT]
  | p :: ps, head, k + 1 => by
    have := joinT_le ps [44, 32] k
    simp only [List.take_succ_cons, joinT, List.length_append]; omega
theorem BldS.up {σ τ : Hp} {n n' i j : Nat} {l : Tx} (h : BldS σ n i j l) (hn : n ≤ n') (hk : ∀ k, k < n → τ k = σ k) : BldS τ n' i j l := by
  obtain ⟨h1, h2, h3⟩ := h
  refine ⟨by omega, by omega, ?_⟩
  rw [hk i h1, hk j h2]; exact h3
set_option maxHeartbeats 2000000 in
theorem listE_conH (g : FuncId) (f : Ep → Tx) (i j : Nat) (l head : Tx) (xs : List Ep) (σ : Hp) (n : Nat) (hb : BldS σ n i j l) (hp : ∀ x ∈ xs, Con Tryd.prog g [.ag (encE x)] (.ret (.s (f x)))) (hlen : (l ++ joinT head (xs.map f)).length ≤ 140737488355328) (hxs : xs.length ≤ 1048576) :
    ConH Tryd.prog 73 [.rt i 2 PRT, .s head, .tr (xs.map encE), .fn g []] σ n (BPost σ n i j (l ++ joinT head (xs.map f)) (.ret (.tp []))) := by
  refine by_syntax_list_api_Expr ?_
  generalize hR : BPost σ n i j (l ++ joinT head (xs.map f)) (.ret (.tp [])) = R
  have HR := Lib.hid hR; clear hR
  have HP := Lib.hid hp; clear hp
  have HB := Lib.hid hb; clear hb
  rw [sh_syntax_list_api_Expr, aLen_tr, bindP_some]
  intro _
  rw [List.length_map]
  refine LOOP_listM xs (fun k s τ n' => (∃ a b, s = [a, b, .s (if k = 0 then head else [44, 32]), .sc (.int .i64 k)]) ∧ ∃ j', (j' = j ∨ n ≤ j') ∧ BldS τ n' i j' (l ++ joinT head ((xs.take k).map f)) ∧ ∀ k, k < n → k ≠ i → k ≠ j → τ k = σ k) (.refl ⟨⟨_, _, rfl⟩, j, .inl rfl, by simpa [joinT] using HB.out, fun _ _ _ _ => rfl⟩) ?_ ?_
  · rintro k x K s' τ n2 hx hk hk' hn ⟨⟨a, b, rfl⟩, j', hj', hbl, hfr⟩ hK
    have ht := joinT_take f head hx
    have hlt : (l ++ joinT head ((xs.take k).map f) ++ [(if k = 0 then head else [44, 32]), f x].flatten).length ≤ 140737488355328 := by
      have h2 := joinT_le (xs.map f) head (k + 1)
      rw [← List.map_take, ht] at h2
      simp only [List.length_append, List.flatten_cons, List.flatten_nil, List.append_nil] at hlen h2 ⊢
      omega
    have HC := Lib.hid (HP.out x (List.mem_of_getElem? hx))
    have HT := Lib.hid ht; clear ht
    have HJ := Lib.hid hj'; clear hj'
    have HF := Lib.hid hfr; clear hfr
    have HBL := Lib.hid hbl; clear hbl
    have HK := Lib.hid hK; clear hK
    have HL := Lib.hid hlt; clear hlt hlen
    generalize (if k = 0 then head else [44, 32]) = hd at *
    simp (maxSteps:=1000000) (disch:=omega) only [lb_syntax_list_api_Expr3,List.getD_cons_succ,List.getD_cons_zero,go_sem,wrapI,wrapB,upd_is,upd_not,Nat.reduceAdd,Nat.reduceSub,Nat.reduceMul,Nat.reduceLeDiff,Nat.reduceEqDiff,Int.reduceAdd,Int.reduceSub,Int.reduceMul,Int.reduceNeg,Int.reduceLT,Int.reduceLE,Int.reduceEq,Int.reduceToNat,reduceCtorEq,reduceIte,Nat.zero_add,Nat.add_zero, *]
    refine CALL_con0 HC.out (by simp only [brwL_cons, brwL_nil, brw_ag, encE_brw, List.append_nil, Option.map_some]) ?_
    rw [kc_syntax_list_api_Expr2, onEnd_ret]
    change bindS (some (.ow _ 1 0 2, [(_, some (Ob.c ⟨1, txRows [hd, f x], true, true⟩))])) _ _ _
    rw [bindS_some]
    generalize hρ : applyW _ _ = ρ
    have h0 : ρ (n2 + 16 + 16) = some (.c ⟨1, txRows [hd, f x], true, true⟩) := by rw [← hρ]; simp only [applyW_cons, applyW_nil]; exact upd_is rfl
    have h1 : ∀ k, k < n2 → ρ k = τ k := by
      intro k hk
      rw [← hρ]; simp only [applyW_cons, applyW_nil]
      rw [upd_not (by omega), upd_not (by omega), upd_not (by omega)]
    clear hρ
    have hi := HB.out.lt
    have hj := HBL.out.jlt
    have hi2 := HBL.out.lt
    refine CALL_conH (caps := []) (put_conH i j' (n2 + 16 + 16) _ [hd, f x] ρ (n2 + 16 + 16 + 16) (HBL.out.up (by omega) h1) h0 (by omega) (by omega) (by omega) HL.out (by simp)) ?_
    rintro r τ' n3 ⟨rfl, j2, hj2, hb2, hf2⟩ hn3
    rw [kc_syntax_list_api_Expr1, onEnd_ret]
    simp (maxSteps:=1000000) (disch:=omega) only [List.getD_cons_succ,List.getD_cons_zero,go_sem,wrapI,wrapB,upd_is,upd_not,Nat.reduceAdd,Nat.reduceSub,Nat.reduceMul,Nat.reduceLeDiff,Nat.reduceEqDiff,Int.reduceAdd,Int.reduceSub,Int.reduceMul,Int.reduceNeg,Int.reduceLT,Int.reduceLE,Int.reduceEq,Int.reduceToNat,reduceCtorEq,reduceIte,Nat.zero_add,Nat.add_zero, *]
    refine HK.out _ _ _ (.refl ⟨⟨_, _, rfl⟩, j2, ?_, by rw [HT.out, ← List.append_assoc]; simpa using hb2, fun k h2 h3 h4 => ((hf2 k (by omega) h3 ?_).trans (h1 k (by omega))).trans (HF.out k h2 h3 h4)⟩)
    · rcases hj2 with rfl | h
      · exact HJ.out
      · exact .inr (by omega)
    · rcases HJ.out with rfl | h
      · exact h4
      · omega
  · rintro K s' τ n2 hn ⟨⟨a, b, rfl⟩, j', hj', hbl, hfr⟩
    rw [List.take_length] at hbl
    rw [lb_syntax_list_api_Expr3]
    simp only [List.getD_cons_succ, List.getD_cons_zero]
    rw [bindP_ltI, COND_no (Int.lt_irrefl _), ← HR.out]
    exact ⟨rfl, j', hj', hbl, hfr⟩
end Go.Proofs.YtodoejfkjimeaaaDoor

set_option linter.unusedSimpArgs false
set_option linter.unusedVariables false
set_option maxRecDepth 100000
namespace Go.Proofs.YtodoejfkjimeaaaDoor
open Go Go.RowKit Am
attribute [-go_sem] guardP_if guardK_if guardD_if COND_bool
attribute [local go_sem low] guardP_if guardK_if guardD_if COND_bool
set_option maxHeartbeats 2000000 in
theorem listR_conH (g : FuncId) (f : (List Ep) → Tx) (i j : Nat) (l head : Tx) (xs : List (List Ep)) (σ : Hp) (n : Nat) (hb : BldS σ n i j l) (hp : ∀ x ∈ xs, Con Tryd.prog g [.tr (x.map encE)] (.ret (.s (f x)))) (hlen : (l ++ joinT head (xs.map f)).length ≤ 140737488355328) (hxs : xs.length ≤ 1048576) :
    ConH Tryd.prog 71 [.rt i 2 PRT, .s head, .tr (xs.map encRx), .fn g []] σ n (BPost σ n i j (l ++ joinT head (xs.map f)) (.ret (.tp []))) := by
  refine by_syntax_list_lapi_Expr ?_
  generalize hR : BPost σ n i j (l ++ joinT head (xs.map f)) (.ret (.tp [])) = R
  have HR := Lib.hid hR; clear hR
  have HP := Lib.hid hp; clear hp
  have HB := Lib.hid hb; clear hb
  rw [sh_syntax_list_lapi_Expr, aLen_tr, bindP_some]
  intro _
  rw [List.length_map]
  refine LOOP_listM xs (fun k s τ n' => (∃ a b, s = [a, b, .s (if k = 0 then head else [44, 32]), .sc (.int .i64 k)]) ∧ ∃ j', (j' = j ∨ n ≤ j') ∧ BldS τ n' i j' (l ++ joinT head ((xs.take k).map f)) ∧ ∀ k, k < n → k ≠ i → k ≠ j → τ k = σ k) (.refl ⟨⟨_, _, rfl⟩, j, .inl rfl, by simpa [joinT] using HB.out, fun _ _ _ _ => rfl⟩) ?_ ?_
  · rintro k x K s' τ n2 hx hk hk' hn ⟨⟨a, b, rfl⟩, j', hj', hbl, hfr⟩ hK
    have ht := joinT_take f head hx
    have hlt : (l ++ joinT head ((xs.take k).map f) ++ [(if k = 0 then head else [44, 32]), f x].flatten).length ≤ 140737488355328 := by
      have h2 := joinT_le (xs.map f) head (k + 1)
      rw [← List.map_take, ht] at h2
      simp only [List.length_append, List.flatten_cons, List.flatten_nil, List.append_nil] at hlen h2 ⊢
      omega
    have HC := Lib.hid (HP.out x (List.mem_of_getElem? hx))
    have HT := Lib.hid ht; clear ht
    have HJ := Lib.hid hj'; clear hj'
    have HF := Lib.hid hfr; clear hfr
    have HBL := Lib.hid hbl; clear hbl
    have HK := Lib.hid hK; clear hK
    have HL := Lib.hid hlt; clear hlt hlen
    generalize (if k = 0 then head else [44, 32]) = hd at *
    simp (maxSteps:=1000000) (disch:=omega) only [lb_syntax_list_lapi_Expr3,List.getD_cons_succ,List.getD_cons_zero,encRx,go_sem,wrapI,wrapB,upd_is,upd_not,Nat.reduceAdd,Nat.reduceSub,Nat.reduceMul,Nat.reduceLeDiff,Nat.reduceEqDiff,Int.reduceAdd,Int.reduceSub,Int.reduceMul,Int.reduceNeg,Int.reduceLT,Int.reduceLE,Int.reduceEq,Int.reduceToNat,reduceCtorEq,reduceIte,Nat.zero_add,Nat.add_zero, *]
    refine CALL_con0 HC.out (by simp only [brwL_cons, brwL_nil, brw_tr, List.append_nil, Option.map_some]) ?_
    rw [kc_syntax_list_lapi_Expr2, onEnd_ret]
    change bindS (some (.ow _ 1 0 2, [(_, some (Ob.c ⟨1, txRows [hd, f x], true, true⟩))])) _ _ _
    rw [bindS_some]
    generalize hρ : applyW _ _ = ρ
    have h0 : ρ (n2) = some (.c ⟨1, txRows [hd, f x], true, true⟩) := by rw [← hρ]; simp only [applyW_cons, applyW_nil]; exact upd_is rfl
    have h1 : ∀ k, k < n2 → ρ k = τ k := by
      intro k hk
      rw [← hρ]; simp only [applyW_cons, applyW_nil]
      rw [upd_not (by omega)]
    clear hρ
    have hi := HB.out.lt
    have hj := HBL.out.jlt
    have hi2 := HBL.out.lt
    refine CALL_conH (caps := []) (put_conH i j' (n2) _ [hd, f x] ρ (n2 + 16) (HBL.out.up (by omega) h1) h0 (by omega) (by omega) (by omega) HL.out (by simp)) ?_
    rintro r τ' n3 ⟨rfl, j2, hj2, hb2, hf2⟩ hn3
    rw [kc_syntax_list_lapi_Expr1, onEnd_ret]
    simp (maxSteps:=1000000) (disch:=omega) only [List.getD_cons_succ,List.getD_cons_zero,go_sem,wrapI,wrapB,upd_is,upd_not,Nat.reduceAdd,Nat.reduceSub,Nat.reduceMul,Nat.reduceLeDiff,Nat.reduceEqDiff,Int.reduceAdd,Int.reduceSub,Int.reduceMul,Int.reduceNeg,Int.reduceLT,Int.reduceLE,Int.reduceEq,Int.reduceToNat,reduceCtorEq,reduceIte,Nat.zero_add,Nat.add_zero, *]
    refine HK.out _ _ _ (.refl ⟨⟨_, _, rfl⟩, j2, ?_, by rw [HT.out, ← List.append_assoc]; simpa using hb2, fun k h2 h3 h4 => ((hf2 k (by omega) h3 ?_).trans (h1 k (by omega))).trans (HF.out k h2 h3 h4)⟩)
    · rcases hj2 with rfl | h
      · exact HJ.out
      · exact .inr (by omega)
    · rcases HJ.out with rfl | h
      · exact h4
      · omega
  · rintro K s' τ n2 hn ⟨⟨a, b, rfl⟩, j', hj', hbl, hfr⟩
    rw [List.take_length] at hbl
    rw [lb_syntax_list_lapi_Expr3]
    simp only [List.getD_cons_succ, List.getD_cons_zero]
    rw [bindP_ltI, COND_no (Int.lt_irrefl _), ← HR.out]
    exact ⟨rfl, j', hj', hbl, hfr⟩
set_option maxHeartbeats 2000000 in
theorem listS_conH (g : FuncId) (f : Se → Tx) (i j : Nat) (l head : Tx) (xs : List Se) (σ : Hp) (n : Nat) (hb : BldS σ n i j l) (hp : ∀ x ∈ xs, Con Tryd.prog g [.ag (encS x)] (.ret (.s (f x)))) (hlen : (l ++ joinT head (xs.map f)).length ≤ 140737488355328) (hxs : xs.length ≤ 1048576) :
    ConH Tryd.prog 74 [.rt i 2 PRT, .s head, .tr (xs.map encS), .fn g []] σ n (BPost σ n i j (l ++ joinT head (xs.map f)) (.ret (.tp []))) := by
  refine by_syntax_list_api_Set ?_
  generalize hR : BPost σ n i j (l ++ joinT head (xs.map f)) (.ret (.tp [])) = R
  have HR := Lib.hid hR; clear hR
  have HP := Lib.hid hp; clear hp
  have HB := Lib.hid hb; clear hb
  rw [sh_syntax_list_api_Set, aLen_tr, bindP_some]
  intro _
  rw [List.length_map]
  refine LOOP_listM xs (fun k s τ n' => (∃ a b, s = [a, b, .s (if k = 0 then head else [44, 32]), .sc (.int .i64 k)]) ∧ ∃ j', (j' = j ∨ n ≤ j') ∧ BldS τ n' i j' (l ++ joinT head ((xs.take k).map f)) ∧ ∀ k, k < n → k ≠ i → k ≠ j → τ k = σ k) (.refl ⟨⟨_, _, rfl⟩, j, .inl rfl, by simpa [joinT] using HB.out, fun _ _ _ _ => rfl⟩) ?_ ?_
  · rintro k x K s' τ n2 hx hk hk' hn ⟨⟨a, b, rfl⟩, j', hj', hbl, hfr⟩ hK
    have ht := joinT_take f head hx
    have hlt : (l ++ joinT head ((xs.take k).map f) ++ [(if k = 0 then head else [44, 32]), f x].flatten).length ≤ 140737488355328 := by
      have h2 := joinT_le (xs.map f) head (k + 1)
      rw [← List.map_take, ht] at h2
      simp only [List.length_append, List.flatten_cons, List.flatten_nil, List.append_nil] at hlen h2 ⊢
      omega
    have HC := Lib.hid (HP.out x (List.mem_of_getElem? hx))
    have HT := Lib.hid ht; clear ht
    have HJ := Lib.hid hj'; clear hj'
    have HF := Lib.hid hfr; clear hfr
    have HBL := Lib.hid hbl; clear hbl
    have HK := Lib.hid hK; clear hK
    have HL := Lib.hid hlt; clear hlt hlen
    generalize (if k = 0 then head else [44, 32]) = hd at *
    simp (maxSteps:=1000000) (disch:=omega) only [lb_syntax_list_api_Set3,List.getD_cons_succ,List.getD_cons_zero,go_sem,wrapI,wrapB,upd_is,upd_not,Nat.reduceAdd,Nat.reduceSub,Nat.reduceMul,Nat.reduceLeDiff,Nat.reduceEqDiff,Int.reduceAdd,Int.reduceSub,Int.reduceMul,Int.reduceNeg,Int.reduceLT,Int.reduceLE,Int.reduceEq,Int.reduceToNat,reduceCtorEq,reduceIte,Nat.zero_add,Nat.add_zero, *]
    refine CALL_con0 HC.out (by simp only [brwL_cons, brwL_nil, brw_ag, encS_brw, List.append_nil, Option.map_some]) ?_
    rw [kc_syntax_list_api_Set2, onEnd_ret]
    change bindS (some (.ow _ 1 0 2, [(_, some (Ob.c ⟨1, txRows [hd, f x], true, true⟩))])) _ _ _
    rw [bindS_some]
    generalize hρ : applyW _ _ = ρ
    have h0 : ρ (n2 + 16 + 16) = some (.c ⟨1, txRows [hd, f x], true, true⟩) := by rw [← hρ]; simp only [applyW_cons, applyW_nil]; exact upd_is rfl
    have h1 : ∀ k, k < n2 → ρ k = τ k := by
      intro k hk
      rw [← hρ]; simp only [applyW_cons, applyW_nil]
      rw [upd_not (by omega), upd_not (by omega), upd_not (by omega)]
    clear hρ
    have hi := HB.out.lt
    have hj := HBL.out.jlt
    have hi2 := HBL.out.lt
    refine CALL_conH (caps := []) (put_conH i j' (n2 + 16 + 16) _ [hd, f x] ρ (n2 + 16 + 16 + 16) (HBL.out.up (by omega) h1) h0 (by omega) (by omega) (by omega) HL.out (by simp)) ?_
    rintro r τ' n3 ⟨rfl, j2, hj2, hb2, hf2⟩ hn3
    rw [kc_syntax_list_api_Set1, onEnd_ret]
    simp (maxSteps:=1000000) (disch:=omega) only [List.getD_cons_succ,List.getD_cons_zero,go_sem,wrapI,wrapB,upd_is,upd_not,Nat.reduceAdd,Nat.reduceSub,Nat.reduceMul,Nat.reduceLeDiff,Nat.reduceEqDiff,Int.reduceAdd,Int.reduceSub,Int.reduceMul,Int.reduceNeg,Int.reduceLT,Int.reduceLE,Int.reduceEq,Int.reduceToNat,reduceCtorEq,reduceIte,Nat.zero_add,Nat.add_zero, *]
    refine HK.out _ _ _ (.refl ⟨⟨_, _, rfl⟩, j2, ?_, by rw [HT.out, ← List.append_assoc]; simpa using hb2, fun k h2 h3 h4 => ((hf2 k (by omega) h3 ?_).trans (h1 k (by omega))).trans (HF.out k h2 h3 h4)⟩)
    · rcases hj2 with rfl | h
      · exact HJ.out
      · exact .inr (by omega)
    · rcases HJ.out with rfl | h
      · exact h4
      · omega
  · rintro K s' τ n2 hn ⟨⟨a, b, rfl⟩, j', hj', hbl, hfr⟩
    rw [List.take_length] at hbl
    rw [lb_syntax_list_api_Set3]
    simp only [List.getD_cons_succ, List.getD_cons_zero]
    rw [bindP_ltI, COND_no (Int.lt_irrefl _), ← HR.out]
    exact ⟨rfl, j', hj', hbl, hfr⟩
set_option maxHeartbeats 2000000 in
theorem listC_conH (g : FuncId) (f : Cl → Tx) (i j : Nat) (l head : Tx) (xs : List Cl) (σ : Hp) (n : Nat) (hb : BldS σ n i j l) (hp : ∀ x ∈ xs, Con Tryd.prog g [.ag (encC x)] (.ret (.s (f x)))) (hlen : (l ++ joinT head (xs.map f)).length ≤ 140737488355328) (hxs : xs.length ≤ 1048576) :
    ConH Tryd.prog 109 [.rt i 2 PRT, .s head, .tr (xs.map encC), .fn g []] σ n (BPost σ n i j (l ++ joinT head (xs.map f)) (.ret (.tp []))) := by
  refine by_syntax_list_api_Column ?_
  generalize hR : BPost σ n i j (l ++ joinT head (xs.map f)) (.ret (.tp [])) = R
  have HR := Lib.hid hR; clear hR
  have HP := Lib.hid hp; clear hp
  have HB := Lib.hid hb; clear hb
  rw [sh_syntax_list_api_Column, aLen_tr, bindP_some]
  intro _
  rw [List.length_map]
  refine LOOP_listM xs (fun k s τ n' => (∃ a b, s = [a, b, .s (if k = 0 then head else [44, 32]), .sc (.int .i64 k)]) ∧ ∃ j', (j' = j ∨ n ≤ j') ∧ BldS τ n' i j' (l ++ joinT head ((xs.take k).map f)) ∧ ∀ k, k < n → k ≠ i → k ≠ j → τ k = σ k) (.refl ⟨⟨_, _, rfl⟩, j, .inl rfl, by simpa [joinT] using HB.out, fun _ _ _ _ => rfl⟩) ?_ ?_
  · rintro k x K s' τ n2 hx hk hk' hn ⟨⟨a, b, rfl⟩, j', hj', hbl, hfr⟩ hK
    have ht := joinT_take f head hx
    have hlt : (l ++ joinT head ((xs.take k).map f) ++ [(if k = 0 then head else [44, 32]), f x].flatten).length ≤ 140737488355328 := by
      have h2 := joinT_le (xs.map f) head (k + 1)
      rw [← List.map_take, ht] at h2
      simp only [List.length_append, List.flatten_cons, List.flatten_nil, List.append_nil] at hlen h2 ⊢
      omega
    have HC := Lib.hid (HP.out x (List.mem_of_getElem? hx))
    have HT := Lib.hid ht; clear ht
    have HJ := Lib.hid hj'; clear hj'
    have HF := Lib.hid hfr; clear hfr
    have HBL := Lib.hid hbl; clear hbl
    have HK := Lib.hid hK; clear hK
    have HL := Lib.hid hlt; clear hlt hlen
    generalize (if k = 0 then head else [44, 32]) = hd at *
    simp (maxSteps:=1000000) (disch:=omega) only [lb_syntax_list_api_Column3,List.getD_cons_succ,List.getD_cons_zero,encC,go_sem,wrapI,wrapB,upd_is,upd_not,Nat.reduceAdd,Nat.reduceSub,Nat.reduceMul,Nat.reduceLeDiff,Nat.reduceEqDiff,Int.reduceAdd,Int.reduceSub,Int.reduceMul,Int.reduceNeg,Int.reduceLT,Int.reduceLE,Int.reduceEq,Int.reduceToNat,reduceCtorEq,reduceIte,Nat.zero_add,Nat.add_zero, *]
    refine CALL_con0 HC.out (by simp only [brwL_cons, brwL_nil, brw_ag, encC, brw_s, brw_sc, List.append_nil, Option.map_some]) ?_
    rw [kc_syntax_list_api_Column2, onEnd_ret]
    change bindS (some (.ow _ 1 0 2, [(_, some (Ob.c ⟨1, txRows [hd, f x], true, true⟩))])) _ _ _
    rw [bindS_some]
    generalize hρ : applyW _ _ = ρ
    have h0 : ρ (n2 + 16 + 16) = some (.c ⟨1, txRows [hd, f x], true, true⟩) := by rw [← hρ]; simp only [applyW_cons, applyW_nil]; exact upd_is rfl
    have h1 : ∀ k, k < n2 → ρ k = τ k := by
      intro k hk
      rw [← hρ]; simp only [applyW_cons, applyW_nil]
      rw [upd_not (by omega), upd_not (by omega), upd_not (by omega)]
    clear hρ
    have hi := HB.out.lt
    have hj := HBL.out.jlt
    have hi2 := HBL.out.lt
    refine CALL_conH (caps := []) (put_conH i j' (n2 + 16 + 16) _ [hd, f x] ρ (n2 + 16 + 16 + 16) (HBL.out.up (by omega) h1) h0 (by omega) (by omega) (by omega) HL.out (by simp)) ?_
    rintro r τ' n3 ⟨rfl, j2, hj2, hb2, hf2⟩ hn3
    rw [kc_syntax_list_api_Column1, onEnd_ret]
    simp (maxSteps:=1000000) (disch:=omega) only [List.getD_cons_succ,List.getD_cons_zero,go_sem,wrapI,wrapB,upd_is,upd_not,Nat.reduceAdd,Nat.reduceSub,Nat.reduceMul,Nat.reduceLeDiff,Nat.reduceEqDiff,Int.reduceAdd,Int.reduceSub,Int.reduceMul,Int.reduceNeg,Int.reduceLT,Int.reduceLE,Int.reduceEq,Int.reduceToNat,reduceCtorEq,reduceIte,Nat.zero_add,Nat.add_zero, *]
    refine HK.out _ _ _ (.refl ⟨⟨_, _, rfl⟩, j2, ?_, by rw [HT.out, ← List.append_assoc]; simpa using hb2, fun k h2 h3 h4 => ((hf2 k (by omega) h3 ?_).trans (h1 k (by omega))).trans (HF.out k h2 h3 h4)⟩)
    · rcases hj2 with rfl | h
      · exact HJ.out
      · exact .inr (by omega)
    · rcases HJ.out with rfl | h
      · exact h4
      · omega
  · rintro K s' τ n2 hn ⟨⟨a, b, rfl⟩, j', hj', hbl, hfr⟩
    rw [List.take_length] at hbl
    rw [lb_syntax_list_api_Column3]
    simp only [List.getD_cons_succ, List.getD_cons_zero]
    rw [bindP_ltI, COND_no (Int.lt_irrefl _), ← HR.out]
    exact ⟨rfl, j', hj', hbl, hfr⟩
set_option maxHeartbeats 2000000 in
theorem listO_conH (g : FuncId) (f : Od → Tx) (i j : Nat) (l head : Tx) (xs : List Od) (σ : Hp) (n : Nat) (hb : BldS σ n i j l) (hp : ∀ x ∈ xs, Con Tryd.prog g [.ag (encO x)] (.ret (.s (f x)))) (hlen : (l ++ joinT head (xs.map f)).length ≤ 140737488355328) (hxs : xs.length ≤ 1048576) :
    ConH Tryd.prog 112 [.rt i 2 PRT, .s head, .tr (xs.map encO), .fn g []] σ n (BPost σ n i j (l ++ joinT head (xs.map f)) (.ret (.tp []))) := by
  refine by_syntax_list_api_Order ?_
  generalize hR : BPost σ n i j (l ++ joinT head (xs.map f)) (.ret (.tp [])) = R
  have HR := Lib.hid hR; clear hR
  have HP := Lib.hid hp; clear hp
  have HB := Lib.hid hb; clear hb
  rw [sh_syntax_list_api_Order, aLen_tr, bindP_some]
  intro _
  rw [List.length_map]
  refine LOOP_listM xs (fun k s τ n' => (∃ a b, s = [a, b, .s (if k = 0 then head else [44, 32]), .sc (.int .i64 k)]) ∧ ∃ j', (j' = j ∨ n ≤ j') ∧ BldS τ n' i j' (l ++ joinT head ((xs.take k).map f)) ∧ ∀ k, k < n → k ≠ i → k ≠ j → τ k = σ k) (.refl ⟨⟨_, _, rfl⟩, j, .inl rfl, by simpa [joinT] using HB.out, fun _ _ _ _ => rfl⟩) ?_ ?_
  · rintro k x K s' τ n2 hx hk hk' hn ⟨⟨a, b, rfl⟩, j', hj', hbl, hfr⟩ hK
    have ht := joinT_take f head hx
    have hlt : (l ++ joinT head ((xs.take k).map f) ++ [(if k = 0 then head else [44, 32]), f x].flatten).length ≤ 140737488355328 := by
      have h2 := joinT_le (xs.map f) head (k + 1)
      rw [← List.map_take, ht] at h2
      simp only [List.length_append, List.flatten_cons, List.flatten_nil, List.append_nil] at hlen h2 ⊢
      omega
    have HC := Lib.hid (HP.out x (List.mem_of_getElem? hx))
    have HT := Lib.hid ht; clear ht
    have HJ := Lib.hid hj'; clear hj'
    have HF := Lib.hid hfr; clear hfr
    have HBL := Lib.hid hbl; clear hbl
    have HK := Lib.hid hK; clear hK
    have HL := Lib.hid hlt; clear hlt hlen
    generalize (if k = 0 then head else [44, 32]) = hd at *
    simp (maxSteps:=1000000) (disch:=omega) only [lb_syntax_list_api_Order3,List.getD_cons_succ,List.getD_cons_zero,encO,go_sem,wrapI,wrapB,upd_is,upd_not,Nat.reduceAdd,Nat.reduceSub,Nat.reduceMul,Nat.reduceLeDiff,Nat.reduceEqDiff,Int.reduceAdd,Int.reduceSub,Int.reduceMul,Int.reduceNeg,Int.reduceLT,Int.reduceLE,Int.reduceEq,Int.reduceToNat,reduceCtorEq,reduceIte,Nat.zero_add,Nat.add_zero, *]
    refine CALL_con0 HC.out (by simp only [brwL_cons, brwL_nil, brw_ag, encO, brw_sc, List.append_nil, Option.map_some]) ?_
    rw [kc_syntax_list_api_Order2, onEnd_ret]
    change bindS (some (.ow _ 1 0 2, [(_, some (Ob.c ⟨1, txRows [hd, f x], true, true⟩))])) _ _ _
    rw [bindS_some]
    generalize hρ : applyW _ _ = ρ
    have h0 : ρ (n2 + 16 + 16) = some (.c ⟨1, txRows [hd, f x], true, true⟩) := by rw [← hρ]; simp only [applyW_cons, applyW_nil]; exact upd_is rfl
    have h1 : ∀ k, k < n2 → ρ k = τ k := by
      intro k hk
      rw [← hρ]; simp only [applyW_cons, applyW_nil]
      rw [upd_not (by omega), upd_not (by omega), upd_not (by omega)]
    clear hρ
    have hi := HB.out.lt
    have hj := HBL.out.jlt
    have hi2 := HBL.out.lt
    refine CALL_conH (caps := []) (put_conH i j' (n2 + 16 + 16) _ [hd, f x] ρ (n2 + 16 + 16 + 16) (HBL.out.up (by omega) h1) h0 (by omega) (by omega) (by omega) HL.out (by simp)) ?_
    rintro r τ' n3 ⟨rfl, j2, hj2, hb2, hf2⟩ hn3
    rw [kc_syntax_list_api_Order1, onEnd_ret]
    simp (maxSteps:=1000000) (disch:=omega) only [List.getD_cons_succ,List.getD_cons_zero,go_sem,wrapI,wrapB,upd_is,upd_not,Nat.reduceAdd,Nat.reduceSub,Nat.reduceMul,Nat.reduceLeDiff,Nat.reduceEqDiff,Int.reduceAdd,Int.reduceSub,Int.reduceMul,Int.reduceNeg,Int.reduceLT,Int.reduceLE,Int.reduceEq,Int.reduceToNat,reduceCtorEq,reduceIte,Nat.zero_add,Nat.add_zero, *]
    refine HK.out _ _ _ (.refl ⟨⟨_, _, rfl⟩, j2, ?_, by rw [HT.out, ← List.append_assoc]; simpa using hb2, fun k h2 h3 h4 => ((hf2 k (by omega) h3 ?_).trans (h1 k (by omega))).trans (HF.out k h2 h3 h4)⟩)
    · rcases hj2 with rfl | h
      · exact HJ.out
      · exact .inr (by omega)
    · rcases HJ.out with rfl | h
      · exact h4
      · omega
  · rintro K s' τ n2 hn ⟨⟨a, b, rfl⟩, j', hj', hbl, hfr⟩
    rw [List.take_length] at hbl
    rw [lb_syntax_list_api_Order3]
    simp only [List.getD_cons_succ, List.getD_cons_zero]
    rw [bindP_ltI, COND_no (Int.lt_irrefl _), ← HR.out]
    exact ⟨rfl, j', hj', hbl, hfr⟩
end Go.Proofs.YtodoejfkjimeaaaDoor

set_option linter.unusedSimpArgs false
set_option linter.unusedVariables false
set_option maxRecDepth 100000
namespace Go.Proofs.YtodoejfkjimeaaaDoor
open Go Go.RowKit Am
attribute [-go_sem] guardP_if guardK_if guardD_if COND_bool
attribute [local go_sem low] guardP_if guardK_if guardD_if COND_bool
def colT (c : Cl) : Tx := c.name ++ (([[32, 73, 78, 84], [32, 66, 79, 79, 76], [32, 84, 69, 88, 84]] : List Tx).getD (c.kind - 1).toNat []) ++ (if c.notNull = true then [32, 78, 79, 84, 32, 78, 85, 76, 76] else [])
def ordT (o : Od) : Tx := decF 40 o.n ++ (if o.desc = true then [32, 68, 69, 83, 67] else [])
def setT (s : Se) : Tx := s.name ++ [32, 61, 32] ++ printF s.ex
def rowT (l : List Ep) : Tx := joinT [40] (l.map printF) ++ [41]
def whereT (x : Sm) : Tx := joinT [32, 87, 72, 69, 82, 69, 32] (x.where_.map printF)
def queryT (x : Sm) : Tx :=
  joinT [83, 69, 76, 69, 67, 84, 32] (x.items.map printF) ++ ([32, 70, 82, 79, 77, 32] ++ x.table) ++ (if x.join = [] then [] else [32, 74, 79, 73, 78, 32] ++ x.join) ++ joinT [32, 79, 78, 32] (x.on.map printF) ++ whereT x
    ++ joinT [32, 71, 82, 79, 85, 80, 32, 66, 89, 32] (x.group.map printF) ++ joinT [32, 79, 82, 68, 69, 82, 32, 66, 89, 32] (x.order.map ordT) ++ (if 0 ≤ x.limit then [32, 76, 73, 77, 73, 84, 32] ++ decF 40 x.limit else [])
def createT (x : Sm) : Tx :=
  [67, 82, 69, 65, 84, 69, 32, 84, 65, 66, 76, 69, 32] ++ x.table ++ joinT [32, 40] (x.columns.map colT) ++ ([44, 32, 80, 82, 73, 77, 65, 82, 89, 32, 75, 69, 89, 32, 40] ++ x.key ++ [41, 41])
def stmtT (x : Sm) : Tx :=
  if x.kind = 1 then createT x
  else if x.kind = 2 then [67, 82, 69, 65, 84, 69, 32, 73, 78, 68, 69, 88, 32] ++ x.index ++ [32, 79, 78, 32] ++ x.table ++ [32, 40] ++ x.key ++ [41]
  else if x.kind = 3 then [68, 82, 79, 80, 32, 84, 65, 66, 76, 69, 32] ++ x.table
  else if x.kind = 4 then [73, 78, 83, 69, 82, 84, 32, 73, 78, 84, 79, 32] ++ x.table ++ joinT [32, 86, 65, 76, 85, 69, 83, 32] (x.rows.map rowT)
  else if x.kind = 5 then [85, 80, 68, 65, 84, 69, 32] ++ x.table ++ joinT [32, 83, 69, 84, 32] (x.sets.map setT) ++ whereT x
  else if x.kind = 6 then [68, 69, 76, 69, 84, 69, 32, 70, 82, 79, 77, 32] ++ x.table ++ whereT x
  else if x.kind = 7 then queryT x
  else ([[66, 69, 71, 73, 78], [67, 79, 77, 77, 73, 84], [82, 79, 76, 76, 66, 65, 67, 75]] : List Tx).getD (x.kind - 8).toNat []
structure SOk (x : Sm) : Prop where
  kind1 : 1 ≤ x.kind
  kind10 : x.kind ≤ 10
  cols : x.columns.length ≤ 8
  col : ∀ c ∈ x.columns, 1 ≤ c.kind ∧ c.kind ≤ 3
  rows : x.rows.length ≤ 16
  row : ∀ l ∈ x.rows, 1 ≤ l.length ∧ l.length ≤ 8
  sets : x.sets.length ≤ 8
  items : x.items.length ≤ 16
  on : x.on.length ≤ 1
  where_ : x.where_.length ≤ 1
  group : x.group.length ≤ 1
  order : x.order.length ≤ 8
  ord : ∀ o ∈ x.order, 1 ≤ o.n ∧ o.n ≤ 16
  limit : -1 ≤ x.limit ∧ x.limit ≤ 2147483648
  ok : ∀ l ∈ listsF x, ∀ e ∈ l, OKk 12 e
theorem firstBad_all : ∀ {l : List Ep}, firstBad l = 0 → ∀ e ∈ l, exErr e = 0
  | [], _, e, he => by cases he
  | a :: l, h, e, he => by
    by_cases ha : exErr a = 0
    · rw [firstBad, if_pos ha] at h
      rcases List.mem_cons.1 he with rfl | he
      · exact ha
      · exact firstBad_all h e he
    · rw [firstBad, if_neg ha] at h; exact absurd h ha
theorem countF_le {n m l : Int} {a : Bool} (h : countF n m a l = true) (hm : 0 ≤ m) : n ≤ m := by
  cases a <;> simp [countF] at h <;> omega
theorem any_not {α : Type} {f : α → Bool} {l : List α} (h : (!l.any f) = true) : ∀ x ∈ l, f x = false := by
  intro x hx
  simp only [Bool.not_eq_true', List.any_eq_false] at h
  exact Bool.not_eq_true _ ▸ h x hx
theorem checkF_ok (x : Sm) (h : checkF x = 0) : SOk x := by
  have h' := h
  unfold checkF at h'
  by_cases h1 : x.kind < 1 ∨ 10 < x.kind
  · rw [if_pos h1] at h'; cases h'
  · rw [if_neg h1] at h'
    by_cases h2 : shapeF x = false
    · rw [if_pos h2] at h'; cases h'
    · rw [if_neg h2] at h'
      by_cases h3 : firstBad (listsF x).flatten ≠ 0
      · rw [if_pos h3] at h'; exact absurd h' h3
      · have h3' : firstBad (listsF x).flatten = 0 := Classical.byContradiction h3
        have h2' : shapeF x = true := by simpa using h2
        unfold shapeF at h2'
        simp only [Bool.and_eq_true] at h2'
        obtain ⟨⟨⟨⟨⟨⟨⟨⟨⟨⟨⟨⟨⟨⟨⟨⟨a1, a2⟩, a3⟩, a4⟩, a5⟩, a6⟩, a7⟩, a8⟩, a9⟩, a10⟩, a11⟩, a12⟩, a13⟩, a14⟩, a15⟩, a16⟩, a17⟩ := h2'
        have c5 := countF_le a5 (by omega); have c6 := countF_le a6 (by omega); have c7 := countF_le a7 (by omega); have c8 := countF_le a8 (by omega)
        have c9 := countF_le a9 (by omega); have c10 := countF_le a10 (by omega); have c11 := countF_le a11 (by omega); have c12 := countF_le a12 (by omega)
        refine ⟨by omega, by omega, by omega, fun c hc => ?_, by omega, fun l hl => ?_, by omega, by omega, by omega, by omega, by omega, by omega, fun o ho => ?_, ?_, fun l hl e he => ?_⟩
        · have := any_not a14 c hc
          simp [colBad] at this
          omega
        · have := any_not a15 l hl
          simp [rowBad] at this
          omega
        · have := any_not a17 o ho
          simp [ordBad] at this
          omega
        · split at a13 <;> simp at a13 <;> omega
        · exact walk_ok 12 e 0 (firstBad_all h3' e (List.mem_flatten.2 ⟨l, hl, he⟩))
theorem pf_len {e : Ep} (h : OKk 12 e) (hb : Bd e) : (printF e).length ≤ 16383999900 := by
  have := print_len 12 e h hb
  omega
theorem joinT_len {M : Nat} : ∀ (ps : List Tx) (head : Tx), (∀ p ∈ ps, p.length ≤ M) → (joinT head ps).length ≤ head.length + ps.length * (M + 2)
  | [], head, _ => by simp [joinT]
  | p :: ps, head, h => by
    have h1 := joinT_len ps [44, 32] (fun q hq => h q (List.mem_cons_of_mem _ hq))
    have h2 := h p List.mem_cons_self
    simp only [joinT, List.length_append, List.length_cons, List.length_nil, Nat.add_mul] at h1 ⊢
    omega
theorem joinT_le2 {α : Type} (f : α → Tx) (xs : List α) (head : Tx) (M k : Nat) (h : ∀ x ∈ xs, (f x).length ≤ M) (hk : xs.length ≤ k) : (joinT head (xs.map f)).length ≤ head.length + k * (M + 2) := by
  have h1 := joinT_len (M := M) (xs.map f) head (fun p hp => by obtain ⟨x, hx, rfl⟩ := List.mem_map.1 hp; exact h x hx)
  rw [List.length_map] at h1
  have : xs.length * (M + 2) ≤ k * (M + 2) := Nat.mul_le_mul_right _ hk
  omega
set_option maxHeartbeats 2000000 in
theorem setT_con (s : Se) (hk : OKk 12 s.ex) (hb : Bd s.ex) (hr : Rg s.ex) (hn : s.name.length ≤ 1048576) : Con Tryd.prog 75 [.ag (encS s)] (.ret (.s (setT s))) := by
  refine con_of (by_psyntax_printer_stmt_c2 ?_)
  generalize hR : RC _ = R
  have HR := Lib.hid hR; clear hR
  have HP := Lib.hid (printed_con 12 s.ex (by omega) hk hb hr)
  have hl := pf_len hk hb
  have hT : setT s = s.name ++ [32, 61, 32] ++ printF s.ex := rfl
  have HT := Lib.hid hT; clear hT
  clear hk hb hr
  obtain ⟨nm, ex⟩ := s
  generalize printF ex = t at *
  simp only at hl hn
  simp (maxSteps:=1000000) (disch:=omega) only [sh_psyntax_printer_stmt_c2,encS,go_sem,wrapI,wrapB,upd_is,upd_not,Nat.reduceAdd,Nat.reduceSub,Nat.reduceMul,Nat.reduceLeDiff,Nat.reduceEqDiff,Int.reduceAdd,Int.reduceSub,Int.reduceMul,Int.reduceNeg,Int.reduceLT,Int.reduceLE,Int.reduceEq,Int.reduceToNat,reduceCtorEq,reduceIte,Nat.zero_add,Nat.add_zero, *]
  rw [if_pos (by omega), bindP_some]
  refine callD_con0 HP.out (by simp only [brwL_cons, brwL_nil, brw_ag, encE_brw, List.append_nil, Option.map_some]) ?_
  rw [kd_psyntax_printer_stmt_c21, onEnd_ret, bindP_add (by simp only [List.length_append, List.length_cons, List.length_nil]; omega)]
  refine ⟨by simp [Apt, names], by simp [Apt, names], fun n_ hn_ => ?_⟩
  rw [← HR.out, HT.out]; exact RC_ret rfl rfl
set_option maxHeartbeats 2000000 in
theorem ordT_con (o : Od) (h : 1 ≤ o.n ∧ o.n ≤ 16) : Con Tryd.prog 113 [.ag (encO o)] (.ret (.s (ordT o))) := by
  refine con_of (by_psyntax_printer_query_c1 ?_)
  generalize hR : RC _ = R
  have HR := Lib.hid hR; clear hR
  have HD := Lib.hid (decimal_con 40 19 o.n (by omega) (by omega) (by split <;> omega) (by omega) (by unfold rng; omega))
  have hl := decF_len 40 o.n
  have hT : ordT o = decF 40 o.n ++ (if o.desc = true then [32, 68, 69, 83, 67] else []) := rfl
  have HT := Lib.hid hT; clear hT
  obtain ⟨n, desc⟩ := o
  generalize decF 40 n = t at *
  cases desc
  · simp (maxSteps:=1000000) (disch:=omega) only [sh_psyntax_printer_query_c1,encO,go_sem,wrapI,wrapB,upd_is,upd_not,Nat.reduceAdd,Nat.reduceSub,Nat.reduceMul,Nat.reduceLeDiff,Nat.reduceEqDiff,Int.reduceAdd,Int.reduceSub,Int.reduceMul,Int.reduceNeg,Int.reduceLT,Int.reduceLE,Int.reduceEq,Int.reduceToNat,reduceCtorEq,reduceIte,Nat.zero_add,Nat.add_zero, *]
    refine CALL_con0 HD.out rfl ?_
    simp (maxSteps:=1000000) (disch:=omega) only [go_sem,wrapI,wrapB,upd_is,upd_not,Nat.reduceAdd,Nat.reduceSub,Nat.reduceMul,Nat.reduceLeDiff,Nat.reduceEqDiff,Int.reduceAdd,Int.reduceSub,Int.reduceMul,Int.reduceNeg,Int.reduceLT,Int.reduceLE,Int.reduceEq,Int.reduceToNat,reduceCtorEq,reduceIte,Nat.zero_add,Nat.add_zero, *]
    rw [← HR.out]; exact RC_ret rfl (by rw [HT.out]; simp)
  · simp (maxSteps:=1000000) (disch:=omega) only [sh_psyntax_printer_query_c1,encO,go_sem,wrapI,wrapB,upd_is,upd_not,Nat.reduceAdd,Nat.reduceSub,Nat.reduceMul,Nat.reduceLeDiff,Nat.reduceEqDiff,Int.reduceAdd,Int.reduceSub,Int.reduceMul,Int.reduceNeg,Int.reduceLT,Int.reduceLE,Int.reduceEq,Int.reduceToNat,reduceCtorEq,reduceIte,Nat.zero_add,Nat.add_zero, *]
    refine CALL_con0 HD.out rfl ?_
    rw [kc_psyntax_printer_query_c11, onEnd_ret, bindP_add (by simp only [List.length_cons, List.length_nil]; omega)]
    rw [← HR.out]; exact RC_ret rfl (by rw [HT.out]; rfl)
set_option maxHeartbeats 2000000 in
theorem colT_con (c : Cl) (h : 1 ≤ c.kind ∧ c.kind ≤ 3) (hn : c.name.length ≤ 1048576) : Con Tryd.prog 110 [.ag (encC c)] (.ret (.s (colT c))) := by
  refine con_of (by_psyntax_printer_create_c1 ?_)
  generalize hR : RC _ = R
  have HR := Lib.hid hR; clear hR
  obtain ⟨nm, k, nn⟩ := c
  simp only at h hn
  have hk : k = 1 ∨ k = 2 ∨ k = 3 := by omega
  rcases hk with rfl | rfl | rfl
  all_goals
    cases nn
    all_goals
      simp (maxSteps:=1000000) (disch:=omega) only [sh_psyntax_printer_create_c1,encC,go_sem,wrapI,wrapB,upd_is,upd_not,Nat.reduceAdd,Nat.reduceSub,Nat.reduceMul,Nat.reduceLeDiff,Nat.reduceEqDiff,Int.reduceAdd,Int.reduceSub,Int.reduceMul,Int.reduceNeg,Int.reduceLT,Int.reduceLE,Int.reduceEq,Int.reduceToNat,reduceCtorEq,reduceIte,Nat.zero_add,Nat.add_zero, *]
      rw [if_pos (by decide), bindP_some, bindP_add (by simp only [List.length_cons, List.length_nil]; omega)]
      intro n_ hn_
      try rw [bindP_add (by simp only [List.length_append, List.length_cons, List.length_nil]; omega)]
      rw [← HR.out]; exact RC_ret rfl (by simp [colT])
theorem CALL_str {τ : Hp} {n i j : Nat} {l : Tx} (h : BldS τ n i j l) (h0 : l ≠ []) (hl : l.length ≤ 140737488355328) {K : AEnd → Hp → Nat → Prop} (hk : ∀ ρ n', n + 16 ≤ n' → (∀ k, k ≠ j → ρ k = τ k) → K (.ret (.s l)) ρ n') :
    CALL Tryd.prog (.fn 49 []) [.rt i 2 PRT] τ n K := by
  rcases h.here with ⟨e, _⟩ | ⟨e, _⟩ | ⟨_, h2, h3, h4⟩
  · exact absurd e h0
  · exact absurd e h0
  · refine CALL_conW (caps := []) (args := [.rt i 2 PRT]) (bstr i j PRT (.rt i 2 PRT) l h0 (by omega) n) ?_ (fun n' hn' => hk _ n' hn' (fun k hk => ?_))
    · intro p hp
      simp only [List.mem_cons, List.not_mem_nil, or_false] at hp
      rcases hp with rfl | rfl
      · exact h3
      · exact h4
    · simp only [applyW_cons, applyW_nil]
      exact upd_not hk
theorem bld_new (σ : Hp) (n : Nat) : BldS (upd σ n (some (.c ⟨2, [[.sc (.pointer none), .em]], true, false⟩))) (n + 16) n n [] := ⟨by omega, by omega, .inl ⟨rfl, upd_is rfl⟩⟩
set_option maxHeartbeats 2000000 in
theorem rowT_con (l : List Ep) (hl : 1 ≤ l.length ∧ l.length ≤ 8) (hb : LBd l) (hr : ∀ e ∈ l, Rg e) (hk : ∀ e ∈ l, OKk 12 e) : Con Tryd.prog 72 [.tr (l.map encE)] (.ret (.s (rowT l))) := by
  refine con_of (by_psyntax_printer_stmt_c1 ?_)
  generalize hR : RC _ = R
  have HR := Lib.hid hR; clear hR
  have hlen := joinT_le2 printF l [40] 16383999900 8 (fun e he => pf_len (hk e he) (hb.bd e he)) hl.2
  simp only [List.length_cons, List.length_nil] at hlen
  have hne : joinT [40] (l.map printF) ≠ [] := by
    cases l with
    | nil => simp at hl
    | cons e l => simp [joinT]
  rw [sh_psyntax_printer_stmt_c1]
  change bindS (some (.rt 0 2 PRT, [(0, some (Ob.c ⟨2, [[.sc (.pointer none), .em]], true, false⟩))])) _ _ _
  rw [bindS_some]
  simp only [applyW_cons, applyW_nil]
  refine CALL_conH (caps := []) (listE_conH 27 printF 0 0 [] [40] l _ _ (bld_new _ 0) (fun e he => printed_con 12 e (by omega) (hk e he) (hb.bd e he) (hr e he)) (by simpa using (by omega : (joinT [40] (l.map printF)).length ≤ 140737488355328)) hb.len) ?_
  rintro r τ n' ⟨rfl, j', hj', hbl, hfr⟩ hn'
  rw [List.nil_append] at hbl
  rw [kc_psyntax_printer_stmt_c12, onEnd_ret, aFad_rt, if_pos rfl, bindP_some]
  refine CALL_str hbl hne (by omega) (fun ρ n2 hn2 hρ => ?_)
  rw [kc_psyntax_printer_stmt_c11, onEnd_ret, bindP_add (by simp only [List.length_cons, List.length_nil]; omega), ← HR.out]
  exact RC_ret rfl rfl
end Go.Proofs.YtodoejfkjimeaaaDoor
