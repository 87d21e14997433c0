/- Packed by a program of this repo: Vb Dc Dd De. -/
import Derived.Test.YtodoejfkjimeaaaDoorKRCa
import Derived.Test.YtodoejfkjimeaaaDoorKRSh4c
import Derived.Test.YtodoejfkjimeaaaDoorKRCx
set_option linter.unusedSimpArgs false
set_option linter.unusedVariables false
set_option maxRecDepth 100000
namespace Go.Proofs.YtodoejfkjimeaaaDoor
open Go Go.RowKit Am
attribute [-go_sem] guardP_if guardK_if guardD_if COND_bool
attribute [local go_sem low] guardP_if guardK_if guardD_if COND_bool
abbrev PRT : Nat := 84
theorem prt_lies : liesAt Tryd.prog Tryd.prog.depth PRT (2 / Tryd.prog.cellsOf PRT) 0 82 1 = true := by kernel_rfl
structure BldS (σ : Hp) (n i j : Nat) (l : Tx) : Prop where
  lt : i < n
  jlt : j < n
  here : (l = [] ∧ σ i = some (.c ⟨2, [[.sc (.pointer none), .em]], true, false⟩)) ∨ (l = [] ∧ σ i = some (.c ⟨2, [[.rt i 2 PRT, .em]], true, false⟩)) ∨
    (l ≠ [] ∧ j ≠ i ∧ σ i = some (.c ⟨2, [[.rt i 2 PRT, .ob j l.length]], true, false⟩) ∧ σ j = some (.c ⟨1, byteRows l, true, true⟩))
def BPost (σ : Hp) (n i j : Nat) (l : Tx) (r0 : AEnd) : AEnd → Hp → Nat → Prop := fun r σ' n' => r = r0 ∧ ∃ j', (j' = j ∨ n ≤ j') ∧ BldS σ' n' i j' l ∧ ∀ k, k < n → k ≠ i → k ≠ j → σ' k = σ k
theorem byteRows_append (l m : Tx) : byteRows (l ++ m) = byteRows l ++ byteRows m := List.map_append
theorem hAps_fst (σ : Hp) (n : Nat) (l : Tx) (hl : l ≠ []) (hb : l.length ≤ 140737488355328) : hAps σ n 1 .em (.s l) = some (.ob n l.length, [(n, some (.c ⟨1, byteRows l, true, true⟩))]) := by
  rw [hAps_em, if_pos (by omega)]
  cases l with
  | nil => exact absurd rfl hl
  | cons b l => rfl
theorem hAps_nil (σ : Hp) (n : Nat) : hAps σ n 1 .em (.s []) = some (.em, []) := by
  rw [hAps_em, if_pos (by simp)]
theorem hAps_snd (σ : Hp) (n j : Nat) (l m : Tx) (hj : σ j = some (.c ⟨1, byteRows l, true, true⟩)) (hn : j ≠ n) (h0 : l ≠ []) (hb : (l ++ m).length ≤ 140737488355328) :
    hAps σ n 1 (.ob j l.length) (.s m) = some (.ob n (l ++ m).length, [(j, none), (n, some (.c ⟨1, byteRows (l ++ m), true, true⟩))]) := by
  have hp : 0 < l.length := List.length_pos_iff.2 h0
  rw [List.length_append] at hb
  rw [hAps_ob, hj]
  simp only
  rw [if_pos ⟨by trivial, by trivial, by trivial, byteRows_len l, by omega, hn, by omega⟩, byteRows_append, List.length_append]
set_option maxHeartbeats 2000000 in
theorem writeString_conH (i j : Nat) (l m : Tx) (σ : Hp) (n : Nat) (hb : BldS σ n i j l) (hlen : (l ++ m).length ≤ 140737488355328) :
    ConH Tryd.prog 111 [.rt i 2 PRT, .s m] σ n (BPost σ n i j (l ++ m) (.ret (.tp [.sc (.int .i64 m.length), .sc .nilIface]))) := by
  refine ConH.fresh (by kernel_rfl) fun hfresh => ?_
  refine by_pstrings_Builder_WriteString ?_
  have hi := hb.lt
  have hj1 := hb.jlt
  rw [sh_pstrings_Builder_WriteString]
  have rest : ∀ (τ : Hp) (v : AV) (n' : Nat), n + 16 ≤ n' → τ i = some (.c ⟨2, [[.rt i 2 PRT, v]], true, false⟩) → (∀ k, k ≠ i → τ k = σ k) → ((l = [] ∧ v = .em) ∨ (l ≠ [] ∧ j ≠ i ∧ v = .ob j l.length ∧ τ j = some (.c ⟨1, byteRows l, true, true⟩))) →
      kc_pstrings_Builder_WriteString1 (.rt i 2 PRT) (.s m) (BPost σ n i j (l ++ m) (.ret (.tp [.sc (.int .i64 m.length), .sc .nilIface]))) (.ret (.tp [])) τ n' := by
    intro τ v n' hn' hi0 hk hv
    rw [kc_pstrings_Builder_WriteString1, onEnd_ret, aNck_rt, bindP_some, aFad_rt, if_neg (by omega), bindP_some, aLd_rf, hi0]
    simp only [if_true, List.getElem?_cons_zero, part_none, List.getElem?_cons_succ, bindP_some]
    have fin : ∀ (v' : AV) (wr : Wr), hAps τ n' 1 v (.s m) = some (v', wr) → leafok v' = true → v'.cells = some [v'] → applyW τ wr i = some (.c ⟨2, [[.rt i 2 PRT, v]], true, false⟩) →
        (∀ (ρ : Hp), ρ i = some (.c ⟨2, [[.rt i 2 PRT, v']], true, false⟩) → (∀ k, k ≠ i → ρ k = applyW τ wr k) → ∃ j', (j' = j ∨ n ≤ j') ∧ BldS ρ (n' + 16 + 16) i j' (l ++ m) ∧ ∀ k, k < n → k ≠ i → k ≠ j → ρ k = σ k) →
        bindS (hAps τ n' 1 v (.s m)) τ n' fun v6 σ_1 n_1 => bindP (aNck (.rt i 2 PRT)) fun v7 => bindP (aFad 1 v7) fun v8 => bindS (hSt σ_1 1 v8 v6) σ_1 n_1 fun v9 σ_2 n_2 => bindP (aLen true (.s m)) fun v10 => bnd σ_2 (.s m) →
          BPost σ n i j (l ++ m) (.ret (.tp [.sc (.int .i64 m.length), .sc .nilIface])) (.ret (.tp [v10, .sc .nilIface])) σ_2 n_2 := by
      intro v' wr h1 h2 h3 h4 h5
      rw [h1, bindS_some, aNck_rt, bindP_some, aFad_rt, if_neg (by omega), bindP_some, hSt_rf, h4]
      have hcl : (AV.rt i 2 PRT).cells = some [.rt i 2 PRT] := rfl
      simp only [h3, List.getElem?_cons_zero, and_self, if_true, List.length_cons, List.length_nil, List.all_cons, List.all_nil, h2, Bool.and_self]
      rw [if_pos ⟨by trivial, by omega, trivial⟩, bindS_some, aLen_s, bindP_some]
      intro _
      refine ⟨rfl, h5 _ ?_ (fun k hk => ?_)⟩
      · simp only [applyW_cons, applyW_nil]
        exact upd_is rfl
      · simp only [applyW_cons, applyW_nil]
        exact upd_not hk
    rcases hv with ⟨rfl, rfl⟩ | ⟨h0, hj2, rfl, hj3⟩
    · by_cases hm : m = []
      · subst hm
        exact fin _ _ (hAps_nil τ n') rfl rfl hi0 (fun ρ h1 h2 => ⟨j, .inl rfl, ⟨by omega, by omega, .inr (.inl ⟨rfl, h1⟩)⟩, fun k hk2 hki _ => (h2 k hki).trans (hk k hki)⟩)
      · refine fin _ _ (hAps_fst τ n' m hm (by simpa using hlen)) rfl rfl ?_ (fun ρ h1 h2 => ⟨n', .inr (by omega), ⟨by omega, by omega, .inr (.inr ⟨hm, by omega, h1, ?_⟩)⟩, fun k hk2 hki _ => (h2 k hki).trans ?_⟩)
        · simp only [applyW_cons, applyW_nil]
          rw [upd_not (by omega)]; exact hi0
        · rw [h2 n' (by omega)]
          simp only [applyW_cons, applyW_nil]
          exact upd_is rfl
        · simp only [applyW_cons, applyW_nil]
          rw [upd_not (by omega)]; exact hk k hki
    · refine fin _ _ (hAps_snd τ n' j l m hj3 (by omega) h0 hlen) rfl rfl ?_ (fun ρ h1 h2 => ⟨n', .inr (by omega), ⟨by omega, by omega, .inr (.inr ⟨by simp [h0], by omega, h1, ?_⟩)⟩, fun k hk2 hki hkj => (h2 k hki).trans ?_⟩)
      · simp only [applyW_cons, applyW_nil]
        rw [upd_not (by omega), upd_not (Ne.symm hj2)]; exact hi0
      · rw [h2 n' (by omega)]
        simp only [applyW_cons, applyW_nil]
        exact upd_is rfl
      · simp only [applyW_cons, applyW_nil]
        rw [upd_not (by omega), upd_not hkj]; exact hk k hki
  rcases hb.here with ⟨h1, h2⟩ | ⟨h1, h2⟩ | ⟨h0, h2, h3, h4⟩
  · refine CALL_conW (caps := []) (args := [.rt i 2 PRT]) (cc_fresh PRT prt_lies i .em n) (by simpa using h2) (fun n' hn' => rest _ .em n' hn' ?_ (fun k hk => ?_) (.inl ⟨h1, rfl⟩))
    · simp only [applyW_cons, applyW_nil]; exact upd_is rfl
    · simp only [applyW_cons, applyW_nil]; exact upd_not hk
  · exact CALL_conW (caps := []) (args := [.rt i 2 PRT]) (cc_used i PRT .em n) (by simpa using h2) (fun n' hn' => rest _ .em n' hn' h2 (fun k hk => rfl) (.inl ⟨h1, rfl⟩))
  · exact CALL_conW (caps := []) (args := [.rt i 2 PRT]) (cc_used i PRT (.ob j l.length) n) (by simpa using h3) (fun n' hn' => rest _ _ n' hn' h3 (fun k hk => rfl) (.inr ⟨h0, h2, rfl, h4⟩))
theorem CALL_conH {P : Program} {g : FuncId} {caps args : List AV} {σ : Hp} {n : Nat} {R K : AEnd → Hp → Nat → Prop} (h : ConH P g (args ++ caps) σ n R) (hk : ∀ r σ' n', R r σ' n' → n ≤ n' → K r σ' n') : CALL P (.fn g caps) args σ n K := .h ⟨R, h, hk⟩
def txRows (ts : List Tx) : List (List AV) := ts.map fun t => [.s t]
set_option maxHeartbeats 1000000 in
theorem put_conH (i j q : Nat) (l : Tx) (ts : List Tx) (σ : Hp) (n : Nat) (hb : BldS σ n i j l) (hq : σ q = some (.c ⟨1, txRows ts, true, true⟩)) (hqn : q < n) (hqi : q ≠ i) (hqj : q ≠ j) (hlen : (l ++ ts.flatten).length ≤ 140737488355328) (hts : ts.length ≤ 1000) :
    ConH Tryd.prog 70 [.rt i 2 PRT, .ow q 1 0 ts.length] σ n (BPost σ n i j (l ++ ts.flatten) (.ret (.tp []))) := by
  refine by_psyntax_printer_put ?_
  generalize hR : BPost σ n i j (l ++ ts.flatten) (.ret (.tp [])) = R
  have HR := Lib.hid hR; clear hR
  rw [sh_psyntax_printer_put, aLen_ow, bindP_some]
  intro _
  refine LOOP_listM ts (fun k s τ n' => (∃ a b, s = [a, b, .sc (.int .i64 k)]) ∧ ∃ j', (j' = j ∨ n ≤ j') ∧ BldS τ n' i j' (l ++ (ts.take k).flatten) ∧ ∀ k, k < n → k ≠ i → k ≠ j → τ k = σ k) (.refl ⟨⟨_, _, rfl⟩, j, .inl rfl, by simpa using hb, fun _ _ _ _ => rfl⟩) ?_ ?_
  · rintro k t K s' τ n2 hx hk hk' hn ⟨⟨a, b, rfl⟩, j', hj', hbl, hfr⟩ hK
    have ht : (ts.take (k + 1)).flatten = (ts.take k).flatten ++ t := by rw [List.take_add_one, hx, List.flatten_append]; simp
    have hlt : (l ++ (ts.take k).flatten ++ t).length ≤ 140737488355328 := by
      have h2 : ts.flatten = (ts.take (k + 1)).flatten ++ (ts.drop (k + 1)).flatten := by rw [← List.flatten_append, List.take_append_drop]
      rw [h2, ht] at hlen
      simp only [List.length_append] at hlen ⊢
      omega
    have hq2 : τ q = some (.c ⟨1, txRows ts, true, true⟩) := (hfr q hqn hqi hqj).trans hq
    rw [lb_psyntax_printer_put2]
    simp only [List.getD_cons_succ, List.getD_cons_zero]
    rw [bindP_ltI, COND_yes hk', aIad_ow, if_pos ⟨rfl, by omega, by omega⟩, bindP_some, aLd_rf, hq2]
    have hrow : (txRows ts)[0 + (k : Int).toNat]? = some [.s t] := by unfold txRows; rw [Nat.zero_add, Int.toNat_natCast, List.getElem?_map, hx]; rfl
    simp only [if_true, hrow, part_none, List.getElem?_cons_zero, bindP_some]
    rw [aNck_rt, bindP_some, aFad_rt, if_pos rfl, bindP_some]
    refine CALL_conH (caps := []) (writeString_conH i j' _ t τ n2 hbl hlt) ?_
    rintro r τ' n3 ⟨rfl, j2, hj2, hb2, hf2⟩ hn3
    rw [kc_psyntax_printer_put1, onEnd_ret]
    simp (maxSteps:=1000000) (disch:=omega) only [List.getD_cons_succ,List.getD_cons_zero,go_sem,wrapI,wrapB,upd_is,upd_not,Nat.reduceAdd,Nat.reduceSub,Nat.reduceMul,Nat.reduceLeDiff,Nat.reduceEqDiff,Int.reduceAdd,Int.reduceSub,Int.reduceMul,Int.reduceNeg,Int.reduceLT,Int.reduceLE,Int.reduceEq,Int.reduceToNat,reduceCtorEq,reduceIte,Nat.zero_add,Nat.add_zero, *]
    refine hK _ _ _ (.refl ⟨⟨_, _, rfl⟩, j2, ?_, by rw [ht, ← List.append_assoc]; exact hb2, fun k h1 h2 h3 => (hf2 k (by omega) h2 ?_).trans (hfr k h1 h2 h3)⟩)
    · rcases hj2 with rfl | h
      · exact hj'
      · exact .inr (by omega)
    · rcases hj' with rfl | h
      · exact h3
      · omega
  · rintro K s' τ n2 hn ⟨⟨a, b, rfl⟩, j', hj', hbl, hfr⟩
    rw [List.take_length] at hbl
    rw [lb_psyntax_printer_put2]
    simp only [List.getD_cons_succ, List.getD_cons_zero]
    rw [bindP_ltI, COND_no (Int.lt_irrefl _), ← HR.out]
    exact ⟨rfl, j', hj', hbl, hfr⟩
end Go.Proofs.YtodoejfkjimeaaaDoor

set_option linter.unusedSimpArgs false
set_option linter.unusedVariables false
set_option maxRecDepth 100000
namespace Go.Proofs.YtodoejfkjimeaaaDoor
open Go Go.RowKit Am

theorem encE_drop (e : Ep) : (encE e).drop 7 = [] := by rw [encE_eq]; rfl
attribute [go_sem] encE_drop
end Go.Proofs.YtodoejfkjimeaaaDoor

set_option linter.unusedSimpArgs false
set_option linter.unusedVariables false
set_option maxRecDepth 100000
namespace Go.Proofs.YtodoejfkjimeaaaDoor
open Go Go.RowKit Am

theorem callD_con {P : Program} {g : FuncId} {caps args cs : List AV} {I : List Nat} {r : AEnd} {σ : Hp} {id : Nat} {K : AEnd → Wr → List Nat → Prop} (h : Con P g cs r) (hb : brwL σ 6 (args ++ caps) = some (cs, I))
    (hk : K r (wrOf r σ I) I) : callD P (.fn g caps) args σ id K := .c ⟨cs, I, r, hb, h, by cases r <;> exact hk⟩
theorem callD_con0 {P : Program} {g : FuncId} {caps args cs : List AV} {r : AEnd} {σ : Hp} {id : Nat} {K : AEnd → Wr → List Nat → Prop} (h : Con P g cs r) (hb : brwL σ 6 (args ++ caps) = some (cs, []))
    (hk : K r [] []) : callD P (.fn g caps) args σ id K := by
  refine callD_con h hb ?_
  cases r with
  | ret v => by_cases hs : scal v = true <;> simpa [wrOf, hs, frz] using hk
  | pan x => exact hk
inductive Tr : Ep → Prop
  | mk (e : Ep) (h : ∀ a ∈ e.args, Tr a) : Tr e
theorem tr_all (e : Ep) : Tr e := by
  refine Ep.rec (motive_1 := Tr) (motive_2 := fun l => ∀ a ∈ l, Tr a) ?_ ?_ ?_ e
  · intro op kind n text table name args h; exact .mk _ h
  · intro a h; cases h
  · intro a l ha hl b hb
    rcases List.mem_cons.1 hb with rfl | hb
    · exact ha
    · exact hl b hb
mutual
def sameF : Ep → Ep → Bool
  | .mk op kind n text table name args, b => (decide (op = b.op) && (decide (kind = b.kind) && decide (n = b.n) && decide (text = b.text))) && decide (table = b.table) && decide (name = b.name) && sameL args b.args
def sameL : List Ep → List Ep → Bool
  | [], [] => true
  | a :: l, b :: m => sameF a b && sameL l m
  | _, _ => false
end
theorem sameF_eq (a b : Ep) : sameF a b = ((decide (a.op = b.op) && (decide (a.kind = b.kind) && decide (a.n = b.n) && decide (a.text = b.text))) && decide (a.table = b.table) && decide (a.name = b.name) && sameL a.args b.args) := by
  cases a; rw [sameF]; rfl
theorem sameF_iff (a : Ep) : ∀ b, sameF a b = true ↔ a = b := by
  refine Ep.rec (motive_1 := fun a => ∀ b, sameF a b = true ↔ a = b) (motive_2 := fun l => ∀ m, sameL l m = true ↔ l = m) ?_ ?_ ?_ a
  · intro op kind n text table name args ih b
    obtain ⟨op', kind', n', text', table', name', args'⟩ := b
    rw [sameF_eq]
    simp only [Ep.op, Ep.kind, Ep.n, Ep.text, Ep.table, Ep.name, Ep.args, Bool.and_eq_true, decide_eq_true_eq, ih, Ep.mk.injEq]
    constructor
    · rintro ⟨⟨⟨⟨a, ⟨b, c⟩, d⟩, e⟩, f⟩, g⟩; exact ⟨of_decide_eq_true a, of_decide_eq_true b, of_decide_eq_true c, of_decide_eq_true d, of_decide_eq_true e, of_decide_eq_true f, g⟩
    · rintro ⟨a, b, c, d, e, f, g⟩; exact ⟨⟨⟨⟨decide_eq_true a, ⟨decide_eq_true b, decide_eq_true c⟩, decide_eq_true d⟩, decide_eq_true e⟩, decide_eq_true f⟩, g⟩
  · intro m; cases m <;> simp [sameL]
  · intro a l iha ihl m
    cases m with
    | nil => simp [sameL]
    | cons b m => simp [sameL, iha, ihl]
theorem sameL_len : ∀ {l m : List Ep}, l.length ≠ m.length → sameL l m = false
  | [], [], h => absurd rfl h
  | [], _ :: _, _ => rfl
  | _ :: _, [], _ => rfl
  | a :: l, b :: m, h => by
    simp only [sameL]
    rw [sameL_len (l := l) (m := m) (by simpa using h), Bool.and_false]
theorem sameL_take {l m : List Ep} {i : Nat} {a b : Ep} (ha : l[i]? = some a) (hb : m[i]? = some b) : sameL (l.take (i + 1)) (m.take (i + 1)) = (sameL (l.take i) (m.take i) && sameF a b) := by
  induction i generalizing l m with
  | zero =>
    cases l with
    | nil => cases ha
    | cons x l => cases m with
      | nil => cases hb
      | cons y m => cases ha; cases hb; simp [sameL]
  | succ i ih =>
    cases l with
    | nil => cases ha
    | cons x l => cases m with
      | nil => cases hb
      | cons y m =>
        simp only [List.take_succ_cons, sameL]
        rw [ih (by simpa using ha) (by simpa using hb), Bool.and_assoc]
theorem sameL_no {i : Nat} : ∀ {l m : List Ep}, sameL (l.take i) (m.take i) = false → sameL l m = false := by
  induction i with
  | zero => intro l m h; simp [sameL] at h
  | succ i ih =>
    intro l m h
    cases l with
    | nil => cases m with
      | nil => simp [sameL] at h
      | cons y m => rfl
    | cons x l => cases m with
      | nil => rfl
      | cons y m =>
        simp only [List.take_succ_cons, sameL] at h ⊢
        cases hx : sameF x y with
        | false => rfl
        | true => rw [hx, Bool.true_and] at h; rw [ih h, Bool.and_false]
set_option maxHeartbeats 4000000 in
theorem sameL_con (l m : List Ep) (h : ∀ a ∈ l, ∀ b, Con Tryd.prog 16 [.ag (encE a), .ag (encE b)] (.ret (.sc (.bool (sameF a b))))) :
    Con Tryd.prog 34 [.tr (l.map encE), .tr (m.map encE)] (.ret (.sc (.bool (sameL l m)))) := by
  refine con_of (by_plain_SameExprs ?_)
  generalize hR : RC _ = R
  have HR := Lib.hid hR; clear hR
  have IH := Lib.hid h; clear h
  by_cases h1 : (l.length : Int) = m.length
  · simp (maxSteps:=1000000) (disch:=omega) only [sh_plain_SameExprs,go_sem,wrapI,wrapB,upd_is,upd_not,Nat.reduceAdd,Nat.reduceSub,Nat.reduceMul,Nat.reduceLeDiff,Nat.reduceEqDiff,Int.reduceAdd,Int.reduceSub,Int.reduceMul,Int.reduceNeg,Int.reduceLT,Int.reduceLE,Int.reduceEq,Int.reduceToNat,reduceCtorEq,reduceIte,Nat.zero_add,Nat.add_zero, *]
    intro _ _
    refine LOOP_listM l (fun i s σ' n' => (∃ a b c, s = [a, b, c, .sc (.int .i64 i)]) ∧ sameL (l.take i) (m.take i) = true) (.refl ⟨⟨_, _, _, rfl⟩, rfl⟩) ?_ ?_
    · rintro i x K s' σ' n2 hx hi hi' hn ⟨⟨a, b, c, rfl⟩, hal⟩ hK
      have HK := Lib.hid hK; clear hK
      have HA := Lib.hid hal; clear hal
      obtain ⟨y, hy⟩ : ∃ y, m[i]? = some y := ⟨m[i]'(by omega), List.getElem?_eq_getElem _⟩
      have HI := IH.out x (List.mem_of_getElem? hx) y
      have hi2 : (i : Int) < m.length := by omega
      have HT := Lib.hid (sameL_take hx hy)
      have HN := Lib.hid (sameL_no (i := i + 1) (l := l) (m := m))
      simp (maxSteps:=1000000) (disch:=omega) only [lb_plain_SameExprs2,go_sem,wrapI,wrapB,upd_is,upd_not,Nat.reduceAdd,Nat.reduceSub,Nat.reduceMul,Nat.reduceLeDiff,Nat.reduceEqDiff,Int.reduceAdd,Int.reduceSub,Int.reduceMul,Int.reduceNeg,Int.reduceLT,Int.reduceLE,Int.reduceEq,Int.reduceToNat,reduceCtorEq,reduceIte,Nat.zero_add,Nat.add_zero, *]
      refine callD_conS (I := []) HI (by simp only [brwL_cons, brwL_nil, brw_ag, brw_tr, brw_sc, encE_brw, List.append_nil, Option.map_some]) rfl ?_
      cases hq : sameF x y with
      | true =>
        have HQ := Lib.hid hq; clear hq
        simp (maxSteps:=1000000) (disch:=omega) only [go_sem,wrapI,wrapB,upd_is,upd_not,Nat.reduceAdd,Nat.reduceSub,Nat.reduceMul,Nat.reduceLeDiff,Nat.reduceEqDiff,Int.reduceAdd,Int.reduceSub,Int.reduceMul,Int.reduceNeg,Int.reduceLT,Int.reduceLE,Int.reduceEq,Int.reduceToNat,reduceCtorEq,reduceIte,Nat.zero_add,Nat.add_zero, *]
        refine fun n_ hn_ => HK.out _ _ _ (.refl ⟨⟨_, _, _, rfl⟩, by rw [HT.out, HA.out, HQ.out]; rfl⟩)
      | false =>
        have HQ := Lib.hid hq; clear hq
        simp (maxSteps:=1000000) (disch:=omega) only [go_sem,wrapI,wrapB,upd_is,upd_not,Nat.reduceAdd,Nat.reduceSub,Nat.reduceMul,Nat.reduceLeDiff,Nat.reduceEqDiff,Int.reduceAdd,Int.reduceSub,Int.reduceMul,Int.reduceNeg,Int.reduceLT,Int.reduceLE,Int.reduceEq,Int.reduceToNat,reduceCtorEq,reduceIte,Nat.zero_add,Nat.add_zero, *]
        intro n_ hn_
        rw [← HR.out, HN.out (by rw [HT.out, HQ.out, Bool.and_false])]; exact RC_ret rfl rfl
    · rintro K s' σ' n2 hn ⟨⟨a, b, c, rfl⟩, hal⟩
      have hlm : l.length = m.length := by omega
      rw [List.take_length, List.take_of_length_le (by omega)] at hal
      have HA := Lib.hid hal; clear hal hlm
      simp (maxSteps:=1000000) (disch:=omega) only [lb_plain_SameExprs2,Int.lt_irrefl,go_sem,wrapI,wrapB,upd_is,upd_not,Nat.reduceAdd,Nat.reduceSub,Nat.reduceMul,Nat.reduceLeDiff,Nat.reduceEqDiff,Int.reduceAdd,Int.reduceSub,Int.reduceMul,Int.reduceNeg,Int.reduceLT,Int.reduceLE,Int.reduceEq,Int.reduceToNat,reduceCtorEq,reduceIte,Nat.zero_add,Nat.add_zero, *]
      rw [← HR.out, HA.out]; exact RC_ret rfl rfl
  · have hf := Lib.hid (sameL_len (l := l) (m := m) (by omega))
    simp (maxSteps:=1000000) (disch:=omega) only [sh_plain_SameExprs,go_sem,wrapI,wrapB,upd_is,upd_not,Nat.reduceAdd,Nat.reduceSub,Nat.reduceMul,Nat.reduceLeDiff,Nat.reduceEqDiff,Int.reduceAdd,Int.reduceSub,Int.reduceMul,Int.reduceNeg,Int.reduceLT,Int.reduceLE,Int.reduceEq,Int.reduceToNat,reduceCtorEq,reduceIte,Nat.zero_add,Nat.add_zero, *]
    intro _ _
    rw [← HR.out, hf.out]; exact RC_ret rfl rfl
set_option maxHeartbeats 4000000 in
theorem same_con (a b : Ep) : Con Tryd.prog 16 [.ag (encE a), .ag (encE b)] (.ret (.sc (.bool (sameF a b)))) := by
  have htr := tr_all a
  induction htr generalizing b with
  | mk a h ih =>
    refine con_of (by_plain_SameExpr ?_)
    generalize hR : RC _ = R
    have HR := Lib.hid hR; clear hR
    have HL := Lib.hid (sameL_con a.args b.args ih); clear ih h
    have HF := Lib.hid (sameF_eq a b)
    by_cases h1 : a.op = b.op
    · skip
      by_cases h2 : a.kind = b.kind
      · skip
        by_cases h3 : a.n = b.n
        · skip
          by_cases h4 : a.text = b.text
          · skip
            by_cases h5 : a.table = b.table
            · skip
              by_cases h6 : a.name = b.name
              · skip
                have hf : sameF a b = sameL a.args b.args := by rw [HF.out]; simp [h1, h2, h3, h4, h5, h6]
                have HF' := Lib.hid hf; clear hf HF
                simp (maxSteps:=1000000) (disch:=omega) only [sh_plain_SameExpr,encE_eq,Bool.and_false,Bool.false_and,Bool.and_true,Bool.true_and,Bool.and_self,go_sem,wrapI,wrapB,upd_is,upd_not,Nat.reduceAdd,Nat.reduceSub,Nat.reduceMul,Nat.reduceLeDiff,Nat.reduceEqDiff,Int.reduceAdd,Int.reduceSub,Int.reduceMul,Int.reduceNeg,Int.reduceLT,Int.reduceLE,Int.reduceEq,Int.reduceToNat,reduceCtorEq,reduceIte,Nat.zero_add,Nat.add_zero, *]
                refine CALL_con0 HL.out rfl ?_
                simp (maxSteps:=1000000) (disch:=omega) only [go_sem,wrapI,wrapB,upd_is,upd_not,Nat.reduceAdd,Nat.reduceSub,Nat.reduceMul,Nat.reduceLeDiff,Nat.reduceEqDiff,Int.reduceAdd,Int.reduceSub,Int.reduceMul,Int.reduceNeg,Int.reduceLT,Int.reduceLE,Int.reduceEq,Int.reduceToNat,reduceCtorEq,reduceIte,Nat.zero_add,Nat.add_zero, *]
                rw [← HR.out, HF'.out]; exact RC_ret rfl rfl
              · have hf : sameF a b = false := by rw [HF.out]; simp [h6]
                have HF' := Lib.hid hf; clear hf HF
                simp (maxSteps:=1000000) (disch:=omega) only [sh_plain_SameExpr,encE_eq,Bool.and_false,Bool.false_and,Bool.and_true,Bool.true_and,Bool.and_self,go_sem,wrapI,wrapB,upd_is,upd_not,Nat.reduceAdd,Nat.reduceSub,Nat.reduceMul,Nat.reduceLeDiff,Nat.reduceEqDiff,Int.reduceAdd,Int.reduceSub,Int.reduceMul,Int.reduceNeg,Int.reduceLT,Int.reduceLE,Int.reduceEq,Int.reduceToNat,reduceCtorEq,reduceIte,Nat.zero_add,Nat.add_zero, *]
                rw [← HR.out, HF'.out]; exact RC_ret rfl rfl
            · have hf : sameF a b = false := by rw [HF.out]; simp [h5]
              have HF' := Lib.hid hf; clear hf HF
              simp (maxSteps:=1000000) (disch:=omega) only [sh_plain_SameExpr,encE_eq,Bool.and_false,Bool.false_and,Bool.and_true,Bool.true_and,Bool.and_self,go_sem,wrapI,wrapB,upd_is,upd_not,Nat.reduceAdd,Nat.reduceSub,Nat.reduceMul,Nat.reduceLeDiff,Nat.reduceEqDiff,Int.reduceAdd,Int.reduceSub,Int.reduceMul,Int.reduceNeg,Int.reduceLT,Int.reduceLE,Int.reduceEq,Int.reduceToNat,reduceCtorEq,reduceIte,Nat.zero_add,Nat.add_zero, *]
              rw [← HR.out, HF'.out]; exact RC_ret rfl rfl
          · have hf : sameF a b = false := by rw [HF.out]; simp [h4]
            have HF' := Lib.hid hf; clear hf HF
            simp (maxSteps:=1000000) (disch:=omega) only [sh_plain_SameExpr,encE_eq,Bool.and_false,Bool.false_and,Bool.and_true,Bool.true_and,Bool.and_self,go_sem,wrapI,wrapB,upd_is,upd_not,Nat.reduceAdd,Nat.reduceSub,Nat.reduceMul,Nat.reduceLeDiff,Nat.reduceEqDiff,Int.reduceAdd,Int.reduceSub,Int.reduceMul,Int.reduceNeg,Int.reduceLT,Int.reduceLE,Int.reduceEq,Int.reduceToNat,reduceCtorEq,reduceIte,Nat.zero_add,Nat.add_zero, *]
            rw [← HR.out, HF'.out]; exact RC_ret rfl rfl
        · have hf : sameF a b = false := by rw [HF.out]; simp [h3]
          have HF' := Lib.hid hf; clear hf HF
          simp (maxSteps:=1000000) (disch:=omega) only [sh_plain_SameExpr,encE_eq,Bool.and_false,Bool.false_and,Bool.and_true,Bool.true_and,Bool.and_self,go_sem,wrapI,wrapB,upd_is,upd_not,Nat.reduceAdd,Nat.reduceSub,Nat.reduceMul,Nat.reduceLeDiff,Nat.reduceEqDiff,Int.reduceAdd,Int.reduceSub,Int.reduceMul,Int.reduceNeg,Int.reduceLT,Int.reduceLE,Int.reduceEq,Int.reduceToNat,reduceCtorEq,reduceIte,Nat.zero_add,Nat.add_zero, *]
          rw [← HR.out, HF'.out]; exact RC_ret rfl rfl
      · have hf : sameF a b = false := by rw [HF.out]; simp [h2]
        have HF' := Lib.hid hf; clear hf HF
        simp (maxSteps:=1000000) (disch:=omega) only [sh_plain_SameExpr,encE_eq,Bool.and_false,Bool.false_and,Bool.and_true,Bool.true_and,Bool.and_self,go_sem,wrapI,wrapB,upd_is,upd_not,Nat.reduceAdd,Nat.reduceSub,Nat.reduceMul,Nat.reduceLeDiff,Nat.reduceEqDiff,Int.reduceAdd,Int.reduceSub,Int.reduceMul,Int.reduceNeg,Int.reduceLT,Int.reduceLE,Int.reduceEq,Int.reduceToNat,reduceCtorEq,reduceIte,Nat.zero_add,Nat.add_zero, *]
        rw [← HR.out, HF'.out]; exact RC_ret rfl rfl
    · have hf : sameF a b = false := by rw [HF.out]; simp [h1]
      have HF' := Lib.hid hf; clear hf HF
      have hd : decide (a.op = b.op) = false := decide_eq_false h1
      clear h1 HL
      simp only [sh_plain_SameExpr, encE_eq, go_sem, upd_is, upd_not, hd, reduceCtorEq, reduceIte, Nat.reduceAdd, Nat.reduceEqDiff]
      rw [← HR.out, HF'.out]; exact RC_ret rfl rfl
end Go.Proofs.YtodoejfkjimeaaaDoor

set_option linter.unusedSimpArgs false
set_option linter.unusedVariables false
set_option maxRecDepth 100000
namespace Go.Proofs.YtodoejfkjimeaaaDoor
open Go Go.RowKit Am

theorem encX_len (x : Ix) : (encX x).length = 2 := rfl
theorem encC_all (l : List Cl) : ((l.map encC).all fun r => r.length == 3) = true := all_enc encC 3 encC_len l
theorem encX_all (l : List Ix) : ((l.map encX).all fun r => r.length == 2) = true := all_enc encX 2 encX_len l
theorem encT_all (l : List Tb) : ((l.map encT).all fun r => r.length == 4) = true := all_enc encT 4 encT_len l
theorem encC_leafs (l : List Cl) : ((l.map encC).all fun r => r.all leafok) = true := by simp [encC, leafok]
theorem encX_leafs (l : List Ix) : ((l.map encX).all fun r => r.all leafok) = true := by simp [encX, leafok]
theorem encC_leaf (c : Cl) : (encC c).all leafok = true := rfl
theorem encX_leaf (x : Ix) : (encX x).all leafok = true := rfl
theorem encX_clo (x : Ix) : (encX x).all clo = true := rfl
theorem encX_take (x : Ix) : (encX x).take 2 = encX x := rfl
theorem encX_drop (x : Ix) : (encX x).drop 2 = [] := rfl
theorem encC_drop (x : Cl) : (encC x).drop 3 = [] := rfl
theorem encC_take (x : Cl) : (encC x).take 3 = encC x := rfl
theorem encT_take (x : Tb) : (encT x).take 4 = encT x := rfl
theorem encT_drop (x : Tb) : (encT x).drop 4 = [] := rfl
attribute [go_sem] encX_take encX_drop encC_take encC_drop encT_take encT_drop
theorem encT_leafs (l : List Tb) : ((l.map encT).all fun r => r.all leafok) = true := by simp [encT, leafok]
theorem encT_leaf (t : Tb) : (encT t).all leafok = true := rfl
theorem encT_clo (t : Tb) : (encT t).all clo = true := rfl
theorem encT_brw (σ : Hp) (d : Nat) (t : Tb) : brwL σ d (encT t) = some (encT t, []) := by
  simp only [brwL_cons, brwL_nil, brw_sc, brw_tr, encT, brw_s, List.append_nil]
theorem encX_brw (σ : Hp) (d : Nat) (x : Ix) : brwL σ d (encX x) = some (encX x, []) := by
  simp only [brwL_cons, brwL_nil, brw_sc, encX, brw_s, List.append_nil]
attribute [go_sem] encC_leaf encX_leaf encX_clo encX_len encC_all encX_all encT_all encC_leafs encX_leafs encT_leafs encT_leaf encT_clo encT_brw encX_brw
structure TBd (t : Tb) : Prop where
  col : t.columns.length ≤ 1048576
  ind : t.indexes.length ≤ 1048576
end Go.Proofs.YtodoejfkjimeaaaDoor
