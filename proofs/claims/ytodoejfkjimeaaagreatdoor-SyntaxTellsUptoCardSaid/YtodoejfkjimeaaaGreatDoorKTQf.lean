/- Packed by a program of this repo: Qf Vc. -/
import Derived.Test.YtodoejfkjimeaaaGreatDoorKTQa
import Derived.Test.YtodoejfkjimeaaaGreatDoorKTCx
set_option linter.unusedSimpArgs false
set_option linter.unusedVariables false
set_option maxRecDepth 100000
namespace Go.Proofs.YtodoejfkjimeaaaGreatDoor
open Go Go.RowKit Am
attribute [-go_sem] guardP_if guardK_if guardD_if COND_bool
attribute [local go_sem low] guardP_if guardK_if guardD_if COND_bool
attribute [local go_sem] wrapI wrapB upd_is upd_not Nat.zero_add Nat.add_zero
attribute [local go_sem_proc] Nat.reduceAdd Nat.reduceSub Nat.reduceMul Nat.reduceLeDiff Nat.reduceEqDiff Int.reduceAdd Int.reduceSub Int.reduceMul Int.reduceNeg Int.reduceLT Int.reduceLE Int.reduceEq Int.reduceToNat reduceCtorEq reduceIte

def exErr (e : Ep) : Int := (walkF 12 e 0).1
def firstBad : List Ep → Int
  | [] => 0
  | e :: l => if exErr e = 0 then firstBad l else exErr e
theorem firstBad_ok {l : List Ep} {r : List Ep} (h : ∀ e ∈ l, exErr e = 0) : firstBad (l ++ r) = firstBad r := by
  induction l with
  | nil => rfl
  | cons e l ih =>
    simp only [List.cons_append, firstBad]
    rw [if_pos (h e (List.mem_cons_self ..)), ih (fun x hx => h x (List.mem_cons_of_mem _ hx))]
def checkF (x : Sm) : Int :=
  if x.kind < 1 ∨ 10 < x.kind then 22 else if shapeF x = false then 9
  else if firstBad (listsF x).flatten ≠ 0 then firstBad (listsF x).flatten
  else match x.group with
    | [] => 0
    | e :: _ => if e.op ≠ 1 then 9 else 0
theorem lists_bd {x : Sm} (hb : SBd x) {l : List Ep} (hl : l ∈ listsF x) : LBd l := by
  simp only [listsF, List.mem_append, List.mem_map, List.mem_cons, List.not_mem_nil, or_false] at hl
  rcases hl with h | ⟨s, hs, rfl⟩ | rfl | rfl | rfl | rfl
  · exact hb.row l h
  · exact ⟨by simp, fun e he => by simp only [List.mem_singleton] at he; subst he; exact (hb.set s hs).2⟩
  · exact hb.items
  · exact hb.on
  · exact hb.where_
  · exact hb.group
abbrev syL (fnid : FuncId) (d : Nat) : Lp := ⟨fnid, #[17], as_syntax_Check_1, bo_syntax_Check_1, d⟩
structure SyJ (x : Sm) (L : Lp) (gr : Regs) (d v2 : Nat) (st : LoopState) (pe : Option Code) (m : Int) (σ : Hp) : Prop where
  y : σ (d + 16) = some (.lp L gr 35 st pe true)
  d : σ d = some (.df true true)
  r : σ v2 = some (.c ⟨1, [[.sc (.int .i64 m)]], true, false⟩)
  x : σ 0 = some (.c ⟨14, [encSm x], true, false⟩)
abbrev syG : Regs := keepR [16, 17, 3, 21, 4, 1, 34, 2] [.fn 24 [.rf 0 14 0 0], .tp [], .tp [], .tp [], .tp [], .rf 0 14 0 0, .tp [], .rf 16 1 0 0]
theorem syRound (x : Sm) (fnid : FuncId) (e : Ep) (he : Bd e) (σ : Hp) (n : Nat) (hn : 64 ≤ n) (hj : SyJ x (syL fnid 32) syG 32 16 .ready none 0 σ) :
    YCon Tryz.prog 48 [.ag (encE e)] σ n (rndR 64 n σ (fun σ' => exErr e = 0 ∧ SyJ x (syL fnid 32) syG 32 16 .ready none 0 σ') (fun σ' => exErr e ≠ 0 ∧ SyJ x (syL fnid 32) syG 32 16 .done (some .ret) (exErr e) σ')) := by
  refine byr_syntax_Check_1 hj.y ?_
  generalize hR : rndR 64 n σ _ _ = R
  have HR := Lib.hid hR; clear hR
  have HC := Lib.hid (checkExpr_con e he)
  obtain ⟨hy, hd, hr, hx⟩ := hj
  simp only [Nat.reduceAdd] at hy
  have HX := Lib.hid hx; clear hx
  have HD := Lib.hid hd; clear hd
  have hEE : exErr e = (walkF 12 e 0).1 := rfl
  rw [← hEE, encE_eq] at HC
  clear hEE
  simp (maxSteps:=1000000) (disch:=omega) only [shr_syntax_Check_1,encE_eq,go_sem, *]
  refine CALL_con0 HC.out (by simp only [brwL_cons, brwL_nil, brw_ag, brw_sc, brw_s, brw_tr, Option.map_some, List.append_nil, List.nil_append, List.cons_append]) ?_
  by_cases h0 : exErr e = 0
  · simp (maxSteps:=1000000) (disch:=omega) only [decide_true,go_sem, *]
    rw [← HR.out]
    refine ⟨fun i h1 h2 => ?_, .inl ⟨rfl, h0, ?_, ?_, ?_, ?_⟩⟩
    · simp (disch := omega) only [upd_not]
    · exact upd_is rfl
    · simp (disch := omega) only [upd_not]; exact HD.out
    · simp (disch := omega) only [upd_not]; exact hr
    · simp (disch := omega) only [upd_not]; exact HX.out
  · simp (maxSteps:=1000000) (disch:=omega) only [decide_true,go_sem, *]
    rw [← HR.out]
    refine ⟨fun i h1 h2 => ?_, .inr ⟨rfl, h0, ?_, ?_, ?_, ?_⟩⟩
    · simp (disch := omega) only [upd_not]
    · exact upd_is rfl
    · simp (disch := omega) only [upd_not]; exact HD.out
    · rw [upd_not (by omega)]; exact upd_is rfl
    · simp (disch := omega) only [upd_not]; exact HX.out
theorem encSm_len (x : Sm) : (encSm x).length = 14 := rfl
theorem encSm_take (x : Sm) : (encSm x).take 14 = encSm x := rfl
theorem encSm_drop (x : Sm) : (encSm x).drop 14 = [] := rfl
attribute [go_sem] encSm_len encSm_take encSm_drop
theorem ycon_mono {P : Program} {y : Nat} {args : List AV} {σ : Hp} {n : Nat} {R R' : AEnd → Hp → Nat → Prop} (h : YCon P y args σ n R) (hr : ∀ r σ' n', R r σ' n' → R' r σ' n') : YCon P y args σ n R' := by
  intro N T U β w vs l h1 h2 h3 h4 h5
  obtain ⟨fn, tmps, as', bo, k1, k2⟩ := h N T U β w vs l h1 h2 h3 h4 h5
  exact ⟨fn, tmps, as', bo, k1, k2.mono fun e w' ⟨β', r, σ', n', a, b⟩ => ⟨β', r, σ', n', hr _ _ _ a, b⟩⟩
theorem syIter (x : Sm) (hb : SBd x) (fnid : FuncId) (σ : Hp) (hj : SyJ x (syL fnid 32) syG 32 16 .ready none 0 σ) :
    ConH Tryz.prog 24 [.yl 48, .rf 0 14 0 0] σ 64 (fun r σ' _ => r = .ret (.tp []) ∧ ((firstBad (listsF x).flatten = 0 ∧ SyJ x (syL fnid 32) syG 32 16 .ready none 0 σ') ∨
      (firstBad (listsF x).flatten ≠ 0 ∧ SyJ x (syL fnid 32) syG 32 16 .done (some .ret) (firstBad (listsF x).flatten) σ'))) := by
  refine by_syntax_Check_c1 ?_
  have hx := hj.x
  have h := exprs_con x hb 48 (fun pre σ' => (∀ e ∈ pre, exErr e = 0) ∧ SyJ x (syL fnid 32) syG 32 16 .ready none 0 σ') (fun σ' => firstBad (listsF x).flatten ≠ 0 ∧ SyJ x (syL fnid 32) syG 32 16 .done (some .ret) (firstBad (listsF x).flatten) σ') σ 64
    (fun pre σ1 σ2 ⟨h1, h2⟩ h3 => ⟨h1, by rw [h3 _ (by omega)]; exact h2.y, by rw [h3 _ (by omega)]; exact h2.d, by rw [h3 _ (by omega)]; exact h2.r, by rw [h3 _ (by omega)]; exact h2.x⟩)
    (fun pre e post σ1 n hfl hn ⟨h1, h2⟩ => by
      obtain ⟨l, hl, hel⟩ := List.mem_flatten.1 (show e ∈ (listsF x).flatten by rw [hfl]; simp)
      refine ycon_mono (syRound x fnid e ((lists_bd hb hl).bd e hel) σ1 n hn h2) ?_
      rintro r σ' n' ⟨k1, k2⟩
      refine ⟨k1, k2.imp (fun ⟨a, b, c⟩ => ⟨a, fun z hz => ?_, c⟩) (fun ⟨a, b, c⟩ => ⟨a, ?_⟩)⟩
      · rcases List.mem_append.1 hz with h | h
        · exact h1 z h
        · rw [List.mem_singleton] at h; subst h; exact b
      · have hf : firstBad (listsF x).flatten = exErr e := by
          rw [hfl, firstBad_ok h1]; simp only [firstBad]; rw [if_neg b]
        rw [hf]; exact ⟨b, c⟩)
    ⟨(fun e he => by cases he), hj⟩
  generalize hR : (fun (r' : AEnd) (σ' : Hp) (_ : Nat) => _) = R
  have HR := Lib.hid hR; clear hR
  have H := Lib.hid h; clear h
  have hlen : (encSm x).length = 14 := rfl
  clear hj hb
  simp (maxSteps:=1000000) (disch:=omega) only [sh_syntax_Check_c1,go_sem, *]
  refine .h ⟨_, H.out, fun r σ' n' h hn => ?_⟩
  obtain ⟨rfl, h⟩ := h
  have HH := Lib.hid h; clear h
  simp (maxSteps:=1000000) (disch:=omega) only [go_sem, *]
  rw [← HR.out]
  refine ⟨rfl, HH.out.imp (fun ⟨h1, h2⟩ => ⟨?_, h2⟩) (fun h => h)⟩
  have := firstBad_ok (r := []) h1
  rwa [List.append_nil] at this
set_option maxHeartbeats 4000000 in
theorem check_con (x : Sm) (hb : SBd x) : Con Tryz.prog 8 [.ag (encSm x)] (.ret (.sc (.int .i64 (checkF x)))) := by
  refine con_of (by_syntax_Check ?_)
  generalize hR : RC _ = R
  have HR := Lib.hid hR; clear hR
  have HS := Lib.hid (shape_con x hb)
  have hI := fun fnid σ hj => syIter x hb fnid σ hj
  have HI := Lib.hid hI; clear hI
  clear hb
  have h0 : (encSm x)[0]? = some (.sc (.int .i64 x.kind)) := rfl
  have h11 : (encSm x)[11]? = some (.tr (x.group.map encE)) := rfl
  by_cases h1 : x.kind < 1
  · simp (maxSteps:=1000000) (disch:=omega) only [sh_syntax_Check,encSm,go_sem, *]
    rw [← HR.out]; exact RC_ret rfl (by rw [checkF, if_pos (.inl h1)])
  · by_cases h2 : 10 < x.kind
    · simp (maxSteps:=1000000) (disch:=omega) only [sh_syntax_Check,encSm,go_sem, *]
      rw [← HR.out]; exact RC_ret rfl (by rw [checkF, if_pos (.inr h2)])
    · have h3 : ¬ (x.kind < 1 ∨ 10 < x.kind) := by omega
      have H3 := Lib.hid h3; clear h3
      simp (maxSteps:=1000000) (disch:=omega) only [sh_syntax_Check,go_sem, *]
      refine CALL_con0 HS.out rfl ?_
      cases hs : shapeF x with
      | false =>
        simp (maxSteps:=1000000) (disch:=omega) only [go_sem, *]
        rw [← HR.out]; exact RC_ret rfl (by rw [checkF, if_neg H3.out, if_pos hs])
      | true =>
        simp (maxSteps:=1000000) (disch:=omega) only [go_sem, *]
        intro fnid
        unfold RNG callH
        refine ⟨_, HI.out fnid _ ⟨rfl, rfl, rfl, rfl⟩, ?_⟩
        rintro r σ' n' ⟨rfl, hor⟩ hn
        simp only [rngK]
        rcases hor with ⟨hf, hy, hd, hr, hx⟩ | ⟨hf, hy, hd, hr, hx⟩
        · refine ⟨hd, _, _, hy, by simp, ?_⟩
          simp only [rngS]
          have h3' := H3.out
          have hx2 : (upd σ' 48 none) 0 = some (.c ⟨14, [encSm x], true, false⟩) := by rw [upd_not (by omega)]; exact hx
          have hr2 : (upd σ' 48 none) 16 = some (.c ⟨1, [[.sc (.int .i64 0)]], true, false⟩) := by rw [upd_not (by omega)]; exact hr
          have hd2 : (upd σ' 48 none) 32 = some (.df true true) := by rw [upd_not (by omega)]; exact hd
          generalize hσ : upd σ' (32 + 16) none = σ3
          rw [show (32 + 16) = 48 from rfl] at hσ
          rw [hσ] at hx2 hr2 hd2
          clear hσ hy hd hr hx h3'
          have H2 := Lib.hid hf
          cases hg : x.group with
          | nil =>
            rw [hg, List.map_nil] at h11
            have c0 : ((0 : Nat) : Int) = 0 := rfl
            simp (maxSteps:=1000000) (disch:=omega) only [rk_syntax_Check1,decide_true,decide_false,Int.lt_irrefl,go_sem, *]
            rw [← HR.out]; exact RC_ret rfl (by rw [checkF, if_neg H3.out, if_neg (by simp [hs]), if_neg (by simp [H2.out]), hg])
          | cons e r =>
            rw [hg, List.map_cons] at h11
            have c0 : (0 : Int) < ((r.length + 1 : Nat) : Int) := by omega
            by_cases ho : e.op = 1
            · simp (maxSteps:=1000000) (disch:=omega) only [rk_syntax_Check1,encE_eq,decide_true,decide_false,go_sem, *]
              intro _
              rw [← HR.out]; exact RC_ret rfl (by rw [checkF, if_neg H3.out, if_neg (by simp [hs]), if_neg (by simp [H2.out]), hg]; simp [ho])
            · simp (maxSteps:=1000000) (disch:=omega) only [rk_syntax_Check1,encE_eq,decide_true,decide_false,go_sem, *]
              intro _
              rw [← HR.out]; exact RC_ret rfl (by rw [checkF, if_neg H3.out, if_neg (by simp [hs]), if_neg (by simp [H2.out]), hg]; simp [ho])
        · refine ⟨hd, _, _, hy, by simp, ?_⟩
          simp only [rngS]
          have hd2 : (upd σ' 48 none) 32 = some (.df true true) := by rw [upd_not (by omega)]; exact hd
          have hr2 : (upd σ' 48 none) 16 = some (.c ⟨1, [[.sc (.int .i64 (firstBad (listsF x).flatten))]], true, false⟩) := by rw [upd_not (by omega)]; exact hr
          generalize hσ : upd σ' (32 + 16) none = σ3
          rw [show (32 + 16) = 48 from rfl] at hσ
          rw [hσ] at hd2 hr2
          clear hσ hy hd hr hx
          have H2 := Lib.hid hf; clear hf
          simp (maxSteps:=1000000) (disch:=omega) only [rr_syntax_Check2,go_sem, *]
          rw [← HR.out]; exact RC_ret rfl (by rw [checkF, if_neg H3.out, if_neg (by simp [hs]), if_pos H2.out])
end Go.Proofs.YtodoejfkjimeaaaGreatDoor

set_option linter.unusedSimpArgs false
set_option linter.unusedVariables false
set_option maxRecDepth 100000
namespace Go.Proofs.YtodoejfkjimeaaaGreatDoor
open Go Go.RowKit Am
attribute [-go_sem] guardP_if guardK_if guardD_if COND_bool
attribute [local go_sem low] guardP_if guardK_if guardD_if COND_bool
attribute [local go_sem] wrapI wrapB upd_is upd_not Nat.zero_add Nat.add_zero
attribute [local go_sem_proc] Nat.reduceAdd Nat.reduceSub Nat.reduceMul Nat.reduceLeDiff Nat.reduceEqDiff Int.reduceAdd Int.reduceSub Int.reduceMul Int.reduceNeg Int.reduceLT Int.reduceLE Int.reduceEq Int.reduceToNat reduceCtorEq reduceIte
def joinT (head : Tx) : List Tx → Tx
  | [] => []
  | p :: ps => head ++ p ++ joinT [44, 32] ps
theorem joinT_snoc : ∀ (ps : List Tx) (head p : Tx), joinT head (ps ++ [p]) = joinT head ps ++ ((if ps = [] then head else [44, 32]) ++ p)
  | [], head, p => by simp [joinT]
  | q :: ps, head, p => by
    rw [List.cons_append, joinT, joinT_snoc ps, joinT]
    by_cases h : ps = [] <;> simp [h, List.append_assoc]
theorem joinT_take {α : Type} (f : α → Tx) {xs : List α} {k : Nat} {x : α} (head : Tx) (h : xs[k]? = some x) : joinT head ((xs.take (k + 1)).map f) = joinT head ((xs.take k).map f) ++ ((if k = 0 then head else [44, 32]) ++ f x) := by
  have hk : k < xs.length := (List.getElem?_eq_some_iff.1 h).1
  rw [List.take_add_one, h, List.map_append, Option.toList, List.map_cons, List.map_nil, joinT_snoc]
  by_cases hz : k = 0
  · subst hz; simp
  · rw [if_neg hz, if_neg]
    intro he
    have := congrArg List.length he
    rw [List.length_map, List.length_take, List.length_nil] at this
    omega
theorem joinT_le : ∀ (ps : List Tx) (head : Tx) (k : Nat), (joinT head (ps.take k)).length ≤ (joinT head ps).length
  | [], head, k => by simp
  | p :: ps, head, 0 => by simp [joinT]
  | p :: ps, head, k + 1 => by
    have := joinT_le ps [44, 32] k
    simp only [List.take_succ_cons, joinT, List.length_append]; omega
theorem BldS.up {σ τ : Hp} {n n' i j : Nat} {l : Tx} (h : BldS σ n i j l) (hn : n ≤ n') (hk : ∀ k, k < n → τ k = σ k) : BldS τ n' i j l := by
  obtain ⟨h1, h2, h3⟩ := h
  refine ⟨by omega, by omega, ?_⟩
  rw [hk i h1, hk j h2]; exact h3
set_option maxHeartbeats 2000000 in
theorem listE_conH (g : FuncId) (f : Ep → Tx) (i j : Nat) (l head : Tx) (xs : List Ep) (σ : Hp) (n : Nat) (hb : BldS σ n i j l) (hp : ∀ x ∈ xs, Con Tryz.prog g [.ag (encE x)] (.ret (.s (f x)))) (hlen : (l ++ joinT head (xs.map f)).length ≤ 140737488355328) (hxs : xs.length ≤ 1048576) :
    ConH Tryz.prog 43 [.rt i 2 PRT, .s head, .tr (xs.map encE), .fn g []] σ n (BPost σ n i j (l ++ joinT head (xs.map f)) (.ret (.tp []))) := by
  refine by_syntax_list_api_Expr ?_
  generalize hR : BPost σ n i j (l ++ joinT head (xs.map f)) (.ret (.tp [])) = R
  have HR := Lib.hid hR; clear hR
  have HP := Lib.hid hp; clear hp
  have HB := Lib.hid hb; clear hb
  rw [sh_syntax_list_api_Expr, aLen_tr, bindP_some]
  intro _
  rw [List.length_map]
  refine LOOP_listM xs (fun k s τ n' => (∃ a b, s = [a, b, .s (if k = 0 then head else [44, 32]), .sc (.int .i64 k)]) ∧ ∃ j', (j' = j ∨ n ≤ j') ∧ BldS τ n' i j' (l ++ joinT head ((xs.take k).map f)) ∧ ∀ k, k < n → k ≠ i → k ≠ j → τ k = σ k) (.refl ⟨⟨_, _, rfl⟩, j, .inl rfl, by simpa [joinT] using HB.out, fun _ _ _ _ => rfl⟩) ?_ ?_
  · rintro k x K s' τ n2 hx hk hk' hn ⟨⟨a, b, rfl⟩, j', hj', hbl, hfr⟩ hK
    have ht := joinT_take f head hx
    have hlt : (l ++ joinT head ((xs.take k).map f) ++ [(if k = 0 then head else [44, 32]), f x].flatten).length ≤ 140737488355328 := by
      have h2 := joinT_le (xs.map f) head (k + 1)
      rw [← List.map_take, ht] at h2
      simp only [List.length_append, List.flatten_cons, List.flatten_nil, List.append_nil] at hlen h2 ⊢
      omega
    have HC := Lib.hid (HP.out x (List.mem_of_getElem? hx))
    have HT := Lib.hid ht; clear ht
    have HJ := Lib.hid hj'; clear hj'
    have HF := Lib.hid hfr; clear hfr
    have HBL := Lib.hid hbl; clear hbl
    have HK := Lib.hid hK; clear hK
    have HL := Lib.hid hlt; clear hlt hlen
    generalize (if k = 0 then head else [44, 32]) = hd at *
    simp (maxSteps:=1000000) (disch:=omega) only [lb_syntax_list_api_Expr3,List.getD_cons_succ,List.getD_cons_zero,go_sem, *]
    refine CALL_con0 HC.out (by simp only [brwL_cons, brwL_nil, brw_ag, encE_brw, List.append_nil, Option.map_some]) ?_
    rw [kc_syntax_list_api_Expr2, onEnd_ret]
    change bindS (some (.ow _ 1 0 2, [(_, some (Ob.c ⟨1, txRows [hd, f x], true, true⟩))])) _ _ _
    rw [bindS_some]
    generalize hρ : applyW _ _ = ρ
    have h0 : ρ (n2 + 16 + 16) = some (.c ⟨1, txRows [hd, f x], true, true⟩) := by rw [← hρ]; simp only [applyW_cons, applyW_nil]; exact upd_is rfl
    have h1 : ∀ k, k < n2 → ρ k = τ k := by
      intro k hk
      rw [← hρ]; simp only [applyW_cons, applyW_nil]
      rw [upd_not (by omega), upd_not (by omega), upd_not (by omega)]
    clear hρ
    have hi := HB.out.lt
    have hj := HBL.out.jlt
    have hi2 := HBL.out.lt
    refine CALL_conH (caps := []) (put_conH i j' (n2 + 16 + 16) _ [hd, f x] ρ (n2 + 16 + 16 + 16) (HBL.out.up (by omega) h1) h0 (by omega) (by omega) (by omega) HL.out (by simp)) ?_
    rintro r τ' n3 ⟨rfl, j2, hj2, hb2, hf2⟩ hn3
    rw [kc_syntax_list_api_Expr1, onEnd_ret]
    simp (maxSteps:=1000000) (disch:=omega) only [List.getD_cons_succ,List.getD_cons_zero,go_sem, *]
    refine HK.out _ _ _ (.refl ⟨⟨_, _, rfl⟩, j2, ?_, by rw [HT.out, ← List.append_assoc]; simpa using hb2, fun k h2 h3 h4 => ((hf2 k (by omega) h3 ?_).trans (h1 k (by omega))).trans (HF.out k h2 h3 h4)⟩)
    · rcases hj2 with rfl | h
      · exact HJ.out
      · exact .inr (by omega)
    · rcases HJ.out with rfl | h
      · exact h4
      · omega
  · rintro K s' τ n2 hn ⟨⟨a, b, rfl⟩, j', hj', hbl, hfr⟩
    rw [List.take_length] at hbl
    rw [lb_syntax_list_api_Expr3]
    simp only [List.getD_cons_succ, List.getD_cons_zero]
    rw [bindP_ltI, COND_no (Int.lt_irrefl _), ← HR.out]
    exact ⟨rfl, j', hj', hbl, hfr⟩
end Go.Proofs.YtodoejfkjimeaaaGreatDoor
