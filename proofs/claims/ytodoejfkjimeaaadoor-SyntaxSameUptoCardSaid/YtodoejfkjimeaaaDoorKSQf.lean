/- Packed by a program of this repo: Qf Kw. -/
import Derived.Test.YtodoejfkjimeaaaDoorKSRx
import Derived.Test.YtodoejfkjimeaaaDoorKSQc
import Derived.Test.YtodoejfkjimeaaaDoorKSLxPlain
import Derived.Lib.IndexAny
set_option linter.unusedSimpArgs false
set_option linter.unusedVariables false
set_option maxRecDepth 100000
namespace Go.Proofs.YtodoejfkjimeaaaDoor
open Go Go.RowKit Am
attribute [-go_sem] guardP_if guardK_if guardD_if COND_bool
attribute [local go_sem low] guardP_if guardK_if guardD_if COND_bool

def exErr (e : Ep) : Int := (walkF 12 e 0).1
def firstBad : List Ep → Int
  | [] => 0
  | e :: l => if exErr e = 0 then firstBad l else exErr e
theorem firstBad_ok {l : List Ep} {r : List Ep} (h : ∀ e ∈ l, exErr e = 0) : firstBad (l ++ r) = firstBad r := by
  induction l with
  | nil => rfl
  | cons e l ih =>
    simp only [List.cons_append, firstBad]
    rw [if_pos (h e (List.mem_cons_self ..)), ih (fun x hx => h x (List.mem_cons_of_mem _ hx))]
def checkF (x : Sm) : Int :=
  if x.kind < 1 ∨ 10 < x.kind then 22 else if shapeF x = false then 9
  else if firstBad (listsF x).flatten ≠ 0 then firstBad (listsF x).flatten
  else match x.group with
    | [] => 0
    | e :: _ => if e.op ≠ 1 then 9 else 0
theorem lists_bd {x : Sm} (hb : SBd x) {l : List Ep} (hl : l ∈ listsF x) : LBd l := by
  simp only [listsF, List.mem_append, List.mem_map, List.mem_cons, List.not_mem_nil, or_false] at hl
  rcases hl with h | ⟨s, hs, rfl⟩ | rfl | rfl | rfl | rfl
  · exact hb.row l h
  · exact ⟨by simp, fun e he => by simp only [List.mem_singleton] at he; subst he; exact (hb.set s hs).2⟩
  · exact hb.items
  · exact hb.on
  · exact hb.where_
  · exact hb.group
abbrev syL (fnid : FuncId) (d : Nat) : Lp := ⟨fnid, #[17], as_syntax_Check_1, bo_syntax_Check_1, d⟩
structure SyJ (x : Sm) (L : Lp) (gr : Regs) (d v2 : Nat) (st : LoopState) (pe : Option Code) (m : Int) (σ : Hp) : Prop where
  y : σ (d + 16) = some (.lp L gr 35 st pe true)
  d : σ d = some (.df true true)
  r : σ v2 = some (.c ⟨1, [[.sc (.int .i64 m)]], true, false⟩)
  x : σ 0 = some (.c ⟨14, [encSm x], true, false⟩)
abbrev syG : Regs := keepR [16, 17, 3, 21, 4, 1, 34, 2] [.fn 57 [.rf 0 14 0 0], .tp [], .tp [], .tp [], .tp [], .rf 0 14 0 0, .tp [], .rf 16 1 0 0]
theorem syRound (x : Sm) (fnid : FuncId) (e : Ep) (he : Bd e) (σ : Hp) (n : Nat) (hn : 64 ≤ n) (hj : SyJ x (syL fnid 32) syG 32 16 .ready none 0 σ) :
    YCon Tryd.prog 48 [.ag (encE e)] σ n (rndR 64 n σ (fun σ' => exErr e = 0 ∧ SyJ x (syL fnid 32) syG 32 16 .ready none 0 σ') (fun σ' => exErr e ≠ 0 ∧ SyJ x (syL fnid 32) syG 32 16 .done (some .ret) (exErr e) σ')) := by
  refine byr_syntax_Check_1 hj.y ?_
  generalize hR : rndR 64 n σ _ _ = R
  have HR := Lib.hid hR; clear hR
  have HC := Lib.hid (checkExpr_con e he)
  obtain ⟨hy, hd, hr, hx⟩ := hj
  simp only [Nat.reduceAdd] at hy
  have HX := Lib.hid hx; clear hx
  have HD := Lib.hid hd; clear hd
  have hEE : exErr e = (walkF 12 e 0).1 := rfl
  rw [← hEE, encE_eq] at HC
  clear hEE
  simp (maxSteps:=1000000) (disch:=omega) only [shr_syntax_Check_1,encE_eq,go_sem,wrapI,wrapB,upd_is,upd_not,Nat.reduceAdd,Nat.reduceSub,Nat.reduceMul,Nat.reduceLeDiff,Nat.reduceEqDiff,Int.reduceAdd,Int.reduceSub,Int.reduceMul,Int.reduceNeg,Int.reduceLT,Int.reduceLE,Int.reduceEq,Int.reduceToNat,reduceCtorEq,reduceIte,Nat.zero_add,Nat.add_zero, *]
  refine CALL_con0 HC.out (by simp only [brwL_cons, brwL_nil, brw_ag, brw_sc, brw_s, brw_tr, Option.map_some, List.append_nil, List.nil_append, List.cons_append]) ?_
  by_cases h0 : exErr e = 0
  · simp (maxSteps:=1000000) (disch:=omega) only [decide_true,go_sem,wrapI,wrapB,upd_is,upd_not,Nat.reduceAdd,Nat.reduceSub,Nat.reduceMul,Nat.reduceLeDiff,Nat.reduceEqDiff,Int.reduceAdd,Int.reduceSub,Int.reduceMul,Int.reduceNeg,Int.reduceLT,Int.reduceLE,Int.reduceEq,Int.reduceToNat,reduceCtorEq,reduceIte,Nat.zero_add,Nat.add_zero, *]
    rw [← HR.out]
    refine ⟨fun i h1 h2 => ?_, .inl ⟨rfl, h0, ?_, ?_, ?_, ?_⟩⟩
    · simp (disch := omega) only [upd_not]
    · exact upd_is rfl
    · simp (disch := omega) only [upd_not]; exact HD.out
    · simp (disch := omega) only [upd_not]; exact hr
    · simp (disch := omega) only [upd_not]; exact HX.out
  · simp (maxSteps:=1000000) (disch:=omega) only [decide_true,go_sem,wrapI,wrapB,upd_is,upd_not,Nat.reduceAdd,Nat.reduceSub,Nat.reduceMul,Nat.reduceLeDiff,Nat.reduceEqDiff,Int.reduceAdd,Int.reduceSub,Int.reduceMul,Int.reduceNeg,Int.reduceLT,Int.reduceLE,Int.reduceEq,Int.reduceToNat,reduceCtorEq,reduceIte,Nat.zero_add,Nat.add_zero, *]
    rw [← HR.out]
    refine ⟨fun i h1 h2 => ?_, .inr ⟨rfl, h0, ?_, ?_, ?_, ?_⟩⟩
    · simp (disch := omega) only [upd_not]
    · exact upd_is rfl
    · simp (disch := omega) only [upd_not]; exact HD.out
    · rw [upd_not (by omega)]; exact upd_is rfl
    · simp (disch := omega) only [upd_not]; exact HX.out
theorem encSm_len (x : Sm) : (encSm x).length = 14 := rfl
theorem encSm_take (x : Sm) : (encSm x).take 14 = encSm x := rfl
theorem encSm_drop (x : Sm) : (encSm x).drop 14 = [] := rfl
attribute [go_sem] encSm_len encSm_take encSm_drop
theorem ycon_mono {P : Program} {y : Nat} {args : List AV} {σ : Hp} {n : Nat} {R R' : AEnd → Hp → Nat → Prop} (h : YCon P y args σ n R) (hr : ∀ r σ' n', R r σ' n' → R' r σ' n') : YCon P y args σ n R' := by
  intro N T U β w vs l h1 h2 h3 h4 h5
  obtain ⟨fn, tmps, as', bo, k1, k2⟩ := h N T U β w vs l h1 h2 h3 h4 h5
  exact ⟨fn, tmps, as', bo, k1, k2.mono fun e w' ⟨β', r, σ', n', a, b⟩ => ⟨β', r, σ', n', hr _ _ _ a, b⟩⟩
theorem syIter (x : Sm) (hb : SBd x) (fnid : FuncId) (σ : Hp) (hj : SyJ x (syL fnid 32) syG 32 16 .ready none 0 σ) :
    ConH Tryd.prog 57 [.yl 48, .rf 0 14 0 0] σ 64 (fun r σ' _ => r = .ret (.tp []) ∧ ((firstBad (listsF x).flatten = 0 ∧ SyJ x (syL fnid 32) syG 32 16 .ready none 0 σ') ∨
      (firstBad (listsF x).flatten ≠ 0 ∧ SyJ x (syL fnid 32) syG 32 16 .done (some .ret) (firstBad (listsF x).flatten) σ'))) := by
  refine by_syntax_Check_c1 ?_
  have hx := hj.x
  have h := exprs_con x hb 48 (fun pre σ' => (∀ e ∈ pre, exErr e = 0) ∧ SyJ x (syL fnid 32) syG 32 16 .ready none 0 σ') (fun σ' => firstBad (listsF x).flatten ≠ 0 ∧ SyJ x (syL fnid 32) syG 32 16 .done (some .ret) (firstBad (listsF x).flatten) σ') σ 64
    (fun pre σ1 σ2 ⟨h1, h2⟩ h3 => ⟨h1, by rw [h3 _ (by omega)]; exact h2.y, by rw [h3 _ (by omega)]; exact h2.d, by rw [h3 _ (by omega)]; exact h2.r, by rw [h3 _ (by omega)]; exact h2.x⟩)
    (fun pre e post σ1 n hfl hn ⟨h1, h2⟩ => by
      obtain ⟨l, hl, hel⟩ := List.mem_flatten.1 (show e ∈ (listsF x).flatten by rw [hfl]; simp)
      refine ycon_mono (syRound x fnid e ((lists_bd hb hl).bd e hel) σ1 n hn h2) ?_
      rintro r σ' n' ⟨k1, k2⟩
      refine ⟨k1, k2.imp (fun ⟨a, b, c⟩ => ⟨a, fun z hz => ?_, c⟩) (fun ⟨a, b, c⟩ => ⟨a, ?_⟩)⟩
      · rcases List.mem_append.1 hz with h | h
        · exact h1 z h
        · rw [List.mem_singleton] at h; subst h; exact b
      · have hf : firstBad (listsF x).flatten = exErr e := by
          rw [hfl, firstBad_ok h1]; simp only [firstBad]; rw [if_neg b]
        rw [hf]; exact ⟨b, c⟩)
    ⟨(fun e he => by cases he), hj⟩
  generalize hR : (fun (r' : AEnd) (σ' : Hp) (_ : Nat) => _) = R
  have HR := Lib.hid hR; clear hR
  have H := Lib.hid h; clear h
  have hlen : (encSm x).length = 14 := rfl
  clear hj hb
  simp (maxSteps:=1000000) (disch:=omega) only [sh_syntax_Check_c1,go_sem,wrapI,wrapB,upd_is,upd_not,Nat.reduceAdd,Nat.reduceSub,Nat.reduceMul,Nat.reduceLeDiff,Nat.reduceEqDiff,Int.reduceAdd,Int.reduceSub,Int.reduceMul,Int.reduceNeg,Int.reduceLT,Int.reduceLE,Int.reduceEq,Int.reduceToNat,reduceCtorEq,reduceIte,Nat.zero_add,Nat.add_zero, *]
  refine .h ⟨_, H.out, fun r σ' n' h hn => ?_⟩
  obtain ⟨rfl, h⟩ := h
  have HH := Lib.hid h; clear h
  simp (maxSteps:=1000000) (disch:=omega) only [go_sem,wrapI,wrapB,upd_is,upd_not,Nat.reduceAdd,Nat.reduceSub,Nat.reduceMul,Nat.reduceLeDiff,Nat.reduceEqDiff,Int.reduceAdd,Int.reduceSub,Int.reduceMul,Int.reduceNeg,Int.reduceLT,Int.reduceLE,Int.reduceEq,Int.reduceToNat,reduceCtorEq,reduceIte,Nat.zero_add,Nat.add_zero, *]
  rw [← HR.out]
  refine ⟨rfl, HH.out.imp (fun ⟨h1, h2⟩ => ⟨?_, h2⟩) (fun h => h)⟩
  have := firstBad_ok (r := []) h1
  rwa [List.append_nil] at this
set_option maxHeartbeats 4000000 in
theorem check_con (x : Sm) (hb : SBd x) : Con Tryd.prog 26 [.ag (encSm x)] (.ret (.sc (.int .i64 (checkF x)))) := by
  refine con_of (by_syntax_Check ?_)
  generalize hR : RC _ = R
  have HR := Lib.hid hR; clear hR
  have HS := Lib.hid (shape_con x hb)
  have hI := fun fnid σ hj => syIter x hb fnid σ hj
  have HI := Lib.hid hI; clear hI
  clear hb
  have h0 : (encSm x)[0]? = some (.sc (.int .i64 x.kind)) := rfl
  have h11 : (encSm x)[11]? = some (.tr (x.group.map encE)) := rfl
  by_cases h1 : x.kind < 1
  · simp (maxSteps:=1000000) (disch:=omega) only [sh_syntax_Check,encSm,go_sem,wrapI,wrapB,upd_is,upd_not,Nat.reduceAdd,Nat.reduceSub,Nat.reduceMul,Nat.reduceLeDiff,Nat.reduceEqDiff,Int.reduceAdd,Int.reduceSub,Int.reduceMul,Int.reduceNeg,Int.reduceLT,Int.reduceLE,Int.reduceEq,Int.reduceToNat,reduceCtorEq,reduceIte,Nat.zero_add,Nat.add_zero, *]
    rw [← HR.out]; exact RC_ret rfl (by rw [checkF, if_pos (.inl h1)])
  · by_cases h2 : 10 < x.kind
    · simp (maxSteps:=1000000) (disch:=omega) only [sh_syntax_Check,encSm,go_sem,wrapI,wrapB,upd_is,upd_not,Nat.reduceAdd,Nat.reduceSub,Nat.reduceMul,Nat.reduceLeDiff,Nat.reduceEqDiff,Int.reduceAdd,Int.reduceSub,Int.reduceMul,Int.reduceNeg,Int.reduceLT,Int.reduceLE,Int.reduceEq,Int.reduceToNat,reduceCtorEq,reduceIte,Nat.zero_add,Nat.add_zero, *]
      rw [← HR.out]; exact RC_ret rfl (by rw [checkF, if_pos (.inr h2)])
    · have h3 : ¬ (x.kind < 1 ∨ 10 < x.kind) := by omega
      have H3 := Lib.hid h3; clear h3
      simp (maxSteps:=1000000) (disch:=omega) only [sh_syntax_Check,go_sem,wrapI,wrapB,upd_is,upd_not,Nat.reduceAdd,Nat.reduceSub,Nat.reduceMul,Nat.reduceLeDiff,Nat.reduceEqDiff,Int.reduceAdd,Int.reduceSub,Int.reduceMul,Int.reduceNeg,Int.reduceLT,Int.reduceLE,Int.reduceEq,Int.reduceToNat,reduceCtorEq,reduceIte,Nat.zero_add,Nat.add_zero, *]
      refine CALL_con0 HS.out rfl ?_
      cases hs : shapeF x with
      | false =>
        simp (maxSteps:=1000000) (disch:=omega) only [go_sem,wrapI,wrapB,upd_is,upd_not,Nat.reduceAdd,Nat.reduceSub,Nat.reduceMul,Nat.reduceLeDiff,Nat.reduceEqDiff,Int.reduceAdd,Int.reduceSub,Int.reduceMul,Int.reduceNeg,Int.reduceLT,Int.reduceLE,Int.reduceEq,Int.reduceToNat,reduceCtorEq,reduceIte,Nat.zero_add,Nat.add_zero, *]
        rw [← HR.out]; exact RC_ret rfl (by rw [checkF, if_neg H3.out, if_pos hs])
      | true =>
        simp (maxSteps:=1000000) (disch:=omega) only [go_sem,wrapI,wrapB,upd_is,upd_not,Nat.reduceAdd,Nat.reduceSub,Nat.reduceMul,Nat.reduceLeDiff,Nat.reduceEqDiff,Int.reduceAdd,Int.reduceSub,Int.reduceMul,Int.reduceNeg,Int.reduceLT,Int.reduceLE,Int.reduceEq,Int.reduceToNat,reduceCtorEq,reduceIte,Nat.zero_add,Nat.add_zero, *]
        intro fnid
        unfold RNG callH
        refine ⟨_, HI.out fnid _ ⟨rfl, rfl, rfl, rfl⟩, ?_⟩
        rintro r σ' n' ⟨rfl, hor⟩ hn
        simp only [rngK]
        rcases hor with ⟨hf, hy, hd, hr, hx⟩ | ⟨hf, hy, hd, hr, hx⟩
        · refine ⟨hd, _, _, hy, by simp, ?_⟩
          simp only [rngS]
          have h3' := H3.out
          have hx2 : (upd σ' 48 none) 0 = some (.c ⟨14, [encSm x], true, false⟩) := by rw [upd_not (by omega)]; exact hx
          have hr2 : (upd σ' 48 none) 16 = some (.c ⟨1, [[.sc (.int .i64 0)]], true, false⟩) := by rw [upd_not (by omega)]; exact hr
          have hd2 : (upd σ' 48 none) 32 = some (.df true true) := by rw [upd_not (by omega)]; exact hd
          generalize hσ : upd σ' (32 + 16) none = σ3
          rw [show (32 + 16) = 48 from rfl] at hσ
          rw [hσ] at hx2 hr2 hd2
          clear hσ hy hd hr hx h3'
          have H2 := Lib.hid hf
          cases hg : x.group with
          | nil =>
            rw [hg, List.map_nil] at h11
            have c0 : ((0 : Nat) : Int) = 0 := rfl
            simp (maxSteps:=1000000) (disch:=omega) only [rk_syntax_Check1,decide_true,decide_false,Int.lt_irrefl,go_sem,wrapI,wrapB,upd_is,upd_not,Nat.reduceAdd,Nat.reduceSub,Nat.reduceMul,Nat.reduceLeDiff,Nat.reduceEqDiff,Int.reduceAdd,Int.reduceSub,Int.reduceMul,Int.reduceNeg,Int.reduceLT,Int.reduceLE,Int.reduceEq,Int.reduceToNat,reduceCtorEq,reduceIte,Nat.zero_add,Nat.add_zero, *]
            rw [← HR.out]; exact RC_ret rfl (by rw [checkF, if_neg H3.out, if_neg (by simp [hs]), if_neg (by simp [H2.out]), hg])
          | cons e r =>
            rw [hg, List.map_cons] at h11
            have c0 : (0 : Int) < ((r.length + 1 : Nat) : Int) := by omega
            by_cases ho : e.op = 1
            · simp (maxSteps:=1000000) (disch:=omega) only [rk_syntax_Check1,encE_eq,decide_true,decide_false,go_sem,wrapI,wrapB,upd_is,upd_not,Nat.reduceAdd,Nat.reduceSub,Nat.reduceMul,Nat.reduceLeDiff,Nat.reduceEqDiff,Int.reduceAdd,Int.reduceSub,Int.reduceMul,Int.reduceNeg,Int.reduceLT,Int.reduceLE,Int.reduceEq,Int.reduceToNat,reduceCtorEq,reduceIte,Nat.zero_add,Nat.add_zero, *]
              intro _
              rw [← HR.out]; exact RC_ret rfl (by rw [checkF, if_neg H3.out, if_neg (by simp [hs]), if_neg (by simp [H2.out]), hg]; simp [ho])
            · simp (maxSteps:=1000000) (disch:=omega) only [rk_syntax_Check1,encE_eq,decide_true,decide_false,go_sem,wrapI,wrapB,upd_is,upd_not,Nat.reduceAdd,Nat.reduceSub,Nat.reduceMul,Nat.reduceLeDiff,Nat.reduceEqDiff,Int.reduceAdd,Int.reduceSub,Int.reduceMul,Int.reduceNeg,Int.reduceLT,Int.reduceLE,Int.reduceEq,Int.reduceToNat,reduceCtorEq,reduceIte,Nat.zero_add,Nat.add_zero, *]
              intro _
              rw [← HR.out]; exact RC_ret rfl (by rw [checkF, if_neg H3.out, if_neg (by simp [hs]), if_neg (by simp [H2.out]), hg]; simp [ho])
        · refine ⟨hd, _, _, hy, by simp, ?_⟩
          simp only [rngS]
          have hd2 : (upd σ' 48 none) 32 = some (.df true true) := by rw [upd_not (by omega)]; exact hd
          have hr2 : (upd σ' 48 none) 16 = some (.c ⟨1, [[.sc (.int .i64 (firstBad (listsF x).flatten))]], true, false⟩) := by rw [upd_not (by omega)]; exact hr
          generalize hσ : upd σ' (32 + 16) none = σ3
          rw [show (32 + 16) = 48 from rfl] at hσ
          rw [hσ] at hd2 hr2
          clear hσ hy hd hr hx
          have H2 := Lib.hid hf; clear hf
          simp (maxSteps:=1000000) (disch:=omega) only [rr_syntax_Check2,go_sem,wrapI,wrapB,upd_is,upd_not,Nat.reduceAdd,Nat.reduceSub,Nat.reduceMul,Nat.reduceLeDiff,Nat.reduceEqDiff,Int.reduceAdd,Int.reduceSub,Int.reduceMul,Int.reduceNeg,Int.reduceLT,Int.reduceLE,Int.reduceEq,Int.reduceToNat,reduceCtorEq,reduceIte,Nat.zero_add,Nat.add_zero, *]
          rw [← HR.out]; exact RC_ret rfl (by rw [checkF, if_neg H3.out, if_neg (by simp [hs]), if_pos H2.out])
end Go.Proofs.YtodoejfkjimeaaaDoor

set_option linter.unusedSimpArgs false
set_option linter.unusedVariables false
set_option maxRecDepth 100000
namespace Go.Proofs.YtodoejfkjimeaaaDoor
open Go Go.RowKit

def kwWords : List (List UInt8) := [[99, 114, 101, 97, 116, 101], [116, 97, 98, 108, 101], [105, 110, 100, 101, 120], [111, 110], [100, 114, 111, 112], [105, 110, 115, 101, 114, 116], [105, 110, 116, 111], [118, 97, 108, 117, 101, 115], [117, 112, 100, 97, 116, 101], [115, 101, 116], [100, 101, 108, 101, 116, 101], [102, 114, 111, 109], [119, 104, 101, 114, 101], [115, 101, 108, 101, 99, 116], [106, 111, 105, 110], [103, 114, 111, 117, 112], [98, 121], [111, 114, 100, 101, 114], [100, 101, 115, 99], [108, 105, 109, 105, 116], [98, 101, 103, 105, 110], [99, 111, 109, 109, 105, 116], [114, 111, 108, 108, 98, 97, 99, 107], [112, 114, 105, 109, 97, 114, 121], [107, 101, 121], [110, 111, 116], [110, 117, 108, 108], [105, 115], [97, 110, 100], [111, 114], [116, 114, 117, 101], [102, 97, 108, 115, 101], [105, 110, 116], [98, 111, 111, 108], [116, 101, 120, 116], [99, 111, 117, 110, 116], [115, 117, 109], [109, 105, 110], [109, 97, 120]]
theorem kwAll_is : kwAll = 32 :: kwWords.flatMap (fun w => w ++ [32]) := by kernel_rfl
theorem kwWords_free : ∀ w ∈ kwWords, ∀ c ∈ w, c ≠ 32 := by
  have h : (kwWords.all fun w => w.all fun c => c != 32) = true := by kernel_rfl
  intro w hw c hc
  have := List.all_eq_true.1 (List.all_eq_true.1 h w hw) c hc
  simpa using this
theorem contains_step (b : UInt8) (l sub : List UInt8) : Lib.contains (b :: l) sub = (sub.isPrefixOf (b :: l) || Lib.contains l sub) := by
  unfold Lib.contains
  have hg := Lib.index_ge l sub
  rw [Lib.index]
  cases hp : sub.isPrefixOf (b :: l) with
  | true => simp
  | false =>
    simp only [Bool.false_eq_true, if_false, Bool.false_or]
    by_cases h1 : Lib.index l sub = -1
    · rw [h1]; decide
    · have h2 : (Lib.index l sub == -1) = false := by simpa using h1
      rw [h2]
      simp only [Bool.false_eq_true, if_false]
      exact decide_eq_decide.2 (by omega)
theorem word_prefix (rest : List UInt8) : ∀ (a w : List UInt8), (∀ c ∈ a, c ≠ 32) → (∀ c ∈ w, c ≠ 32) → (a ++ [32]).isPrefixOf (w ++ 32 :: rest) = decide (a = w)
  | [], [], _, _ => by simp [List.isPrefixOf]
  | [], c :: w, _, hw => by
    have h := hw c (List.mem_cons_self ..)
    have h2 : ((32 : UInt8) == c) = false := by simpa using fun e => h e.symm
    simp [List.isPrefixOf, h2]
  | x :: a, [], ha, _ => by
    have h := ha x (List.mem_cons_self ..)
    have h2 : (x == (32 : UInt8)) = false := by simpa using h
    simp [List.isPrefixOf, h2]
  | x :: a, c :: w, ha, hw => by
    have ih := word_prefix rest a w (fun y hy => ha y (List.mem_cons_of_mem _ hy)) (fun y hy => hw y (List.mem_cons_of_mem _ hy))
    simp only [List.cons_append, List.isPrefixOf, ih]
    by_cases e : x = c
    · subst e; simp
    · have h2 : (x == c) = false := by simpa using e
      simp [h2, e]
theorem skip_word (a l : List UInt8) : ∀ (w : List UInt8), (∀ c ∈ w, c ≠ 32) → Lib.contains (w ++ l) (32 :: a) = Lib.contains l (32 :: a)
  | [], _ => rfl
  | c :: w, hw => by
    have h := hw c (List.mem_cons_self ..)
    have h2 : ((32 : UInt8) == c) = false := by simpa using fun e => h e.symm
    rw [List.cons_append, contains_step, skip_word a l w (fun y hy => hw y (List.mem_cons_of_mem _ hy))]
    simp [List.isPrefixOf, h2]
theorem words_contain (a : List UInt8) (ha : ∀ c ∈ a, c ≠ 32) : ∀ (ws : List (List UInt8)), (∀ w ∈ ws, ∀ c ∈ w, c ≠ 32) → Lib.contains (32 :: ws.flatMap (fun w => w ++ [32])) (32 :: (a ++ [32])) = decide (a ∈ ws)
  | [], _ => by
    rw [contains_step, List.flatMap_nil]
    have : Lib.contains [] (32 :: (a ++ [32])) = false := by simp [Lib.contains, Lib.index]
    rw [this]
    cases a <;> simp [List.isPrefixOf]
  | w :: ws, hw => by
    have ih := words_contain a ha ws (fun v hv => hw v (List.mem_cons_of_mem _ hv))
    have hw0 := hw w (List.mem_cons_self ..)
    rw [contains_step, List.flatMap_cons, List.append_assoc, skip_word _ _ w hw0, List.singleton_append, ih]
    have hp : (32 :: (a ++ [32])).isPrefixOf (32 :: (w ++ 32 :: ws.flatMap fun w => w ++ [32])) = decide (a = w) := by
      rw [List.isPrefixOf, word_prefix _ a w ha hw0]; simp
    rw [hp]
    by_cases e : a = w <;> simp [e]
theorem kwL_words (l : List UInt8) : kwL l = decide (lowerL l ∈ kwWords) := by
  unfold kwL
  generalize lowerL l = a
  rw [← Lib.contains_iff_indexByte]
  by_cases h32 : (32 : UInt8) ∈ a
  · have h1 : a.contains 32 = true := by simpa using h32
    have h2 : a ∉ kwWords := fun h => kwWords_free a h 32 h32 rfl
    rw [h1, decide_eq_false h2]; simp
  · have h1 : a.contains 32 = false := by simpa using h32
    rw [kwAll_is, words_contain a (fun c hc e => h32 (e ▸ hc)) kwWords kwWords_free, h1]
    by_cases hn : a = []
    · subst hn; decide
    · simp [hn]
end Go.Proofs.YtodoejfkjimeaaaDoor
