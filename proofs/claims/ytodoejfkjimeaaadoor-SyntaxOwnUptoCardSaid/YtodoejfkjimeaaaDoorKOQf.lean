/- Packed by a program of this repo: Qf Kw Dj Sp SlR. -/
import Derived.Test.YtodoejfkjimeaaaDoorKOQb
import Derived.Test.YtodoejfkjimeaaaDoorKOQc
import Derived.Test.YtodoejfkjimeaaaDoorKOLxPlain
import Derived.Lib.IndexAny
import Derived.Test.YtodoejfkjimeaaaDoorKOCa
import Derived.Test.YtodoejfkjimeaaaDoorKOUe
import Derived.Lib.Replace
import Derived.Lib.ReplaceLaws
import Derived.Lib.Strings
import Derived.Shelf.Strings.Prefix
import Derived.Shelf.Strings.Replace
import Derived.Shelf.Vars
import Derived.Test.YtodoejfkjimeaaaDoorProg
import Derived.Test.YtodoejfkjimeaaaDoorKOBase
set_option linter.unusedSimpArgs false
set_option linter.unusedVariables false
set_option maxRecDepth 100000
namespace Go.Proofs.YtodoejfkjimeaaaDoor
open Go Go.RowKit Am
attribute [-go_sem] guardP_if guardK_if guardD_if COND_bool
attribute [local go_sem low] guardP_if guardK_if guardD_if COND_bool

def exErr (e : Ep) : Int := (walkF 12 e 0).1
def firstBad : List Ep → Int
  | [] => 0
  | e :: l => if exErr e = 0 then firstBad l else exErr e
theorem firstBad_ok {l : List Ep} {r : List Ep} (h : ∀ e ∈ l, exErr e = 0) : firstBad (l ++ r) = firstBad r := by
  induction l with
  | nil => rfl
  | cons e l ih =>
    simp only [List.cons_append, firstBad]
    rw [if_pos (h e (List.mem_cons_self ..)), ih (fun x hx => h x (List.mem_cons_of_mem _ hx))]
def checkF (x : Sm) : Int :=
  if x.kind < 1 ∨ 10 < x.kind then 22 else if shapeF x = false then 9
  else if firstBad (listsF x).flatten ≠ 0 then firstBad (listsF x).flatten
  else match x.group with
    | [] => 0
    | e :: _ => if e.op ≠ 1 then 9 else 0
theorem lists_bd {x : Sm} (hb : SBd x) {l : List Ep} (hl : l ∈ listsF x) : LBd l := by
  simp only [listsF, List.mem_append, List.mem_map, List.mem_cons, List.not_mem_nil, or_false] at hl
  rcases hl with h | ⟨s, hs, rfl⟩ | rfl | rfl | rfl | rfl
  · exact hb.row l h
  · exact ⟨by simp, fun e he => by simp only [List.mem_singleton] at he; subst he; exact (hb.set s hs).2⟩
  · exact hb.items
  · exact hb.on
  · exact hb.where_
  · exact hb.group
abbrev syL (fnid : FuncId) (d : Nat) : Lp := ⟨fnid, #[17], as_syntax_Check_1, bo_syntax_Check_1, d⟩
structure SyJ (x : Sm) (L : Lp) (gr : Regs) (d v2 : Nat) (st : LoopState) (pe : Option Code) (m : Int) (σ : Hp) : Prop where
  y : σ (d + 16) = some (.lp L gr 35 st pe true)
  d : σ d = some (.df true true)
  r : σ v2 = some (.c ⟨1, [[.sc (.int .i64 m)]], true, false⟩)
  x : σ 0 = some (.c ⟨14, [encSm x], true, false⟩)
abbrev syG : Regs := keepR [16, 17, 3, 21, 4, 1, 34, 2] [.fn 57 [.rf 0 14 0 0], .tp [], .tp [], .tp [], .tp [], .rf 0 14 0 0, .tp [], .rf 16 1 0 0]
theorem syRound (x : Sm) (fnid : FuncId) (e : Ep) (he : Bd e) (σ : Hp) (n : Nat) (hn : 64 ≤ n) (hj : SyJ x (syL fnid 32) syG 32 16 .ready none 0 σ) :
    YCon Tryd.prog 48 [.ag (encE e)] σ n (rndR 64 n σ (fun σ' => exErr e = 0 ∧ SyJ x (syL fnid 32) syG 32 16 .ready none 0 σ') (fun σ' => exErr e ≠ 0 ∧ SyJ x (syL fnid 32) syG 32 16 .done (some .ret) (exErr e) σ')) := by
  refine byr_syntax_Check_1 hj.y ?_
  generalize hR : rndR 64 n σ _ _ = R
  have HR := Lib.hid hR; clear hR
  have HC := Lib.hid (checkExpr_con e he)
  obtain ⟨hy, hd, hr, hx⟩ := hj
  simp only [Nat.reduceAdd] at hy
  have HX := Lib.hid hx; clear hx
  have HD := Lib.hid hd; clear hd
  have hEE : exErr e = (walkF 12 e 0).1 := rfl
  rw [← hEE, encE_eq] at HC
  clear hEE
  simp (maxSteps:=1000000) (disch:=omega) only [shr_syntax_Check_1,encE_eq,go_sem,wrapI,wrapB,upd_is,upd_not,Nat.reduceAdd,Nat.reduceSub,Nat.reduceMul,Nat.reduceLeDiff,Nat.reduceEqDiff,Int.reduceAdd,Int.reduceSub,Int.reduceMul,Int.reduceNeg,Int.reduceLT,Int.reduceLE,Int.reduceEq,Int.reduceToNat,reduceCtorEq,reduceIte,Nat.zero_add,Nat.add_zero, *]
  refine CALL_con0 HC.out (by simp only [brwL_cons, brwL_nil, brw_ag, brw_sc, brw_s, brw_tr, Option.map_some, List.append_nil, List.nil_append, List.cons_append]) ?_
  by_cases h0 : exErr e = 0
  · simp (maxSteps:=1000000) (disch:=omega) only [decide_true,go_sem,wrapI,wrapB,upd_is,upd_not,Nat.reduceAdd,Nat.reduceSub,Nat.reduceMul,Nat.reduceLeDiff,Nat.reduceEqDiff,Int.reduceAdd,Int.reduceSub,Int.reduceMul,Int.reduceNeg,Int.reduceLT,Int.reduceLE,Int.reduceEq,Int.reduceToNat,reduceCtorEq,reduceIte,Nat.zero_add,Nat.add_zero, *]
    rw [← HR.out]
    refine ⟨fun i h1 h2 => ?_, .inl ⟨rfl, h0, ?_, ?_, ?_, ?_⟩⟩
    · simp (disch := omega) only [upd_not]
    · exact upd_is rfl
    · simp (disch := omega) only [upd_not]; exact HD.out
    · simp (disch := omega) only [upd_not]; exact hr
    · simp (disch := omega) only [upd_not]; exact HX.out
  · simp (maxSteps:=1000000) (disch:=omega) only [decide_true,go_sem,wrapI,wrapB,upd_is,upd_not,Nat.reduceAdd,Nat.reduceSub,Nat.reduceMul,Nat.reduceLeDiff,Nat.reduceEqDiff,Int.reduceAdd,Int.reduceSub,Int.reduceMul,Int.reduceNeg,Int.reduceLT,Int.reduceLE,Int.reduceEq,Int.reduceToNat,reduceCtorEq,reduceIte,Nat.zero_add,Nat.add_zero, *]
    rw [← HR.out]
    refine ⟨fun i h1 h2 => ?_, .inr ⟨rfl, h0, ?_, ?_, ?_, ?_⟩⟩
    · simp (disch := omega) only [upd_not]
    · exact upd_is rfl
    · simp (disch := omega) only [upd_not]; exact HD.out
    · rw [upd_not (by omega)]; exact upd_is rfl
    · simp (disch := omega) only [upd_not]; exact HX.out
theorem encSm_len (x : Sm) : (encSm x).length = 14 := rfl
theorem encSm_take (x : Sm) : (encSm x).take 14 = encSm x := rfl
theorem encSm_drop (x : Sm) : (encSm x).drop 14 = [] := rfl
attribute [go_sem] encSm_len encSm_take encSm_drop
theorem ycon_mono {P : Program} {y : Nat} {args : List AV} {σ : Hp} {n : Nat} {R R' : AEnd → Hp → Nat → Prop} (h : YCon P y args σ n R) (hr : ∀ r σ' n', R r σ' n' → R' r σ' n') : YCon P y args σ n R' := by
  intro N T U β w vs l h1 h2 h3 h4 h5
  obtain ⟨fn, tmps, as', bo, k1, k2⟩ := h N T U β w vs l h1 h2 h3 h4 h5
  exact ⟨fn, tmps, as', bo, k1, k2.mono fun e w' ⟨β', r, σ', n', a, b⟩ => ⟨β', r, σ', n', hr _ _ _ a, b⟩⟩
theorem syIter (x : Sm) (hb : SBd x) (fnid : FuncId) (σ : Hp) (hj : SyJ x (syL fnid 32) syG 32 16 .ready none 0 σ) :
    ConH Tryd.prog 57 [.yl 48, .rf 0 14 0 0] σ 64 (fun r σ' _ => r = .ret (.tp []) ∧ ((firstBad (listsF x).flatten = 0 ∧ SyJ x (syL fnid 32) syG 32 16 .ready none 0 σ') ∨
      (firstBad (listsF x).flatten ≠ 0 ∧ SyJ x (syL fnid 32) syG 32 16 .done (some .ret) (firstBad (listsF x).flatten) σ'))) := by
  refine by_syntax_Check_c1 ?_
  have hx := hj.x
  have h := exprs_con x hb 48 (fun pre σ' => (∀ e ∈ pre, exErr e = 0) ∧ SyJ x (syL fnid 32) syG 32 16 .ready none 0 σ') (fun σ' => firstBad (listsF x).flatten ≠ 0 ∧ SyJ x (syL fnid 32) syG 32 16 .done (some .ret) (firstBad (listsF x).flatten) σ') σ 64
    (fun pre σ1 σ2 ⟨h1, h2⟩ h3 => ⟨h1, by rw [h3 _ (by omega)]; exact h2.y, by rw [h3 _ (by omega)]; exact h2.d, by rw [h3 _ (by omega)]; exact h2.r, by rw [h3 _ (by omega)]; exact h2.x⟩)
    (fun pre e post σ1 n hfl hn ⟨h1, h2⟩ => by
      obtain ⟨l, hl, hel⟩ := List.mem_flatten.1 (show e ∈ (listsF x).flatten by rw [hfl]; simp)
      refine ycon_mono (syRound x fnid e ((lists_bd hb hl).bd e hel) σ1 n hn h2) ?_
      rintro r σ' n' ⟨k1, k2⟩
      refine ⟨k1, k2.imp (fun ⟨a, b, c⟩ => ⟨a, fun z hz => ?_, c⟩) (fun ⟨a, b, c⟩ => ⟨a, ?_⟩)⟩
      · rcases List.mem_append.1 hz with h | h
        · exact h1 z h
        · rw [List.mem_singleton] at h; subst h; exact b
      · have hf : firstBad (listsF x).flatten = exErr e := by
          rw [hfl, firstBad_ok h1]; simp only [firstBad]; rw [if_neg b]
        rw [hf]; exact ⟨b, c⟩)
    ⟨(fun e he => by cases he), hj⟩
  generalize hR : (fun (r' : AEnd) (σ' : Hp) (_ : Nat) => _) = R
  have HR := Lib.hid hR; clear hR
  have H := Lib.hid h; clear h
  have hlen : (encSm x).length = 14 := rfl
  clear hj hb
  simp (maxSteps:=1000000) (disch:=omega) only [sh_syntax_Check_c1,go_sem,wrapI,wrapB,upd_is,upd_not,Nat.reduceAdd,Nat.reduceSub,Nat.reduceMul,Nat.reduceLeDiff,Nat.reduceEqDiff,Int.reduceAdd,Int.reduceSub,Int.reduceMul,Int.reduceNeg,Int.reduceLT,Int.reduceLE,Int.reduceEq,Int.reduceToNat,reduceCtorEq,reduceIte,Nat.zero_add,Nat.add_zero, *]
  refine .h ⟨_, H.out, fun r σ' n' h hn => ?_⟩
  obtain ⟨rfl, h⟩ := h
  have HH := Lib.hid h; clear h
  simp (maxSteps:=1000000) (disch:=omega) only [go_sem,wrapI,wrapB,upd_is,upd_not,Nat.reduceAdd,Nat.reduceSub,Nat.reduceMul,Nat.reduceLeDiff,Nat.reduceEqDiff,Int.reduceAdd,Int.reduceSub,Int.reduceMul,Int.reduceNeg,Int.reduceLT,Int.reduceLE,Int.reduceEq,Int.reduceToNat,reduceCtorEq,reduceIte,Nat.zero_add,Nat.add_zero, *]
  rw [← HR.out]
  refine ⟨rfl, HH.out.imp (fun ⟨h1, h2⟩ => ⟨?_, h2⟩) (fun h => h)⟩
  have := firstBad_ok (r := []) h1
  rwa [List.append_nil] at this
set_option maxHeartbeats 4000000 in
theorem check_con (x : Sm) (hb : SBd x) : Con Tryd.prog 26 [.ag (encSm x)] (.ret (.sc (.int .i64 (checkF x)))) := by
  refine con_of (by_syntax_Check ?_)
  generalize hR : RC _ = R
  have HR := Lib.hid hR; clear hR
  have HS := Lib.hid (shape_con x hb)
  have hI := fun fnid σ hj => syIter x hb fnid σ hj
  have HI := Lib.hid hI; clear hI
  clear hb
  have h0 : (encSm x)[0]? = some (.sc (.int .i64 x.kind)) := rfl
  have h11 : (encSm x)[11]? = some (.tr (x.group.map encE)) := rfl
  by_cases h1 : x.kind < 1
  · simp (maxSteps:=1000000) (disch:=omega) only [sh_syntax_Check,encSm,go_sem,wrapI,wrapB,upd_is,upd_not,Nat.reduceAdd,Nat.reduceSub,Nat.reduceMul,Nat.reduceLeDiff,Nat.reduceEqDiff,Int.reduceAdd,Int.reduceSub,Int.reduceMul,Int.reduceNeg,Int.reduceLT,Int.reduceLE,Int.reduceEq,Int.reduceToNat,reduceCtorEq,reduceIte,Nat.zero_add,Nat.add_zero, *]
    rw [← HR.out]; exact RC_ret rfl (by rw [checkF, if_pos (.inl h1)])
  · by_cases h2 : 10 < x.kind
    · simp (maxSteps:=1000000) (disch:=omega) only [sh_syntax_Check,encSm,go_sem,wrapI,wrapB,upd_is,upd_not,Nat.reduceAdd,Nat.reduceSub,Nat.reduceMul,Nat.reduceLeDiff,Nat.reduceEqDiff,Int.reduceAdd,Int.reduceSub,Int.reduceMul,Int.reduceNeg,Int.reduceLT,Int.reduceLE,Int.reduceEq,Int.reduceToNat,reduceCtorEq,reduceIte,Nat.zero_add,Nat.add_zero, *]
      rw [← HR.out]; exact RC_ret rfl (by rw [checkF, if_pos (.inr h2)])
    · have h3 : ¬ (x.kind < 1 ∨ 10 < x.kind) := by omega
      have H3 := Lib.hid h3; clear h3
      simp (maxSteps:=1000000) (disch:=omega) only [sh_syntax_Check,go_sem,wrapI,wrapB,upd_is,upd_not,Nat.reduceAdd,Nat.reduceSub,Nat.reduceMul,Nat.reduceLeDiff,Nat.reduceEqDiff,Int.reduceAdd,Int.reduceSub,Int.reduceMul,Int.reduceNeg,Int.reduceLT,Int.reduceLE,Int.reduceEq,Int.reduceToNat,reduceCtorEq,reduceIte,Nat.zero_add,Nat.add_zero, *]
      refine CALL_con0 HS.out rfl ?_
      cases hs : shapeF x with
      | false =>
        simp (maxSteps:=1000000) (disch:=omega) only [go_sem,wrapI,wrapB,upd_is,upd_not,Nat.reduceAdd,Nat.reduceSub,Nat.reduceMul,Nat.reduceLeDiff,Nat.reduceEqDiff,Int.reduceAdd,Int.reduceSub,Int.reduceMul,Int.reduceNeg,Int.reduceLT,Int.reduceLE,Int.reduceEq,Int.reduceToNat,reduceCtorEq,reduceIte,Nat.zero_add,Nat.add_zero, *]
        rw [← HR.out]; exact RC_ret rfl (by rw [checkF, if_neg H3.out, if_pos hs])
      | true =>
        simp (maxSteps:=1000000) (disch:=omega) only [go_sem,wrapI,wrapB,upd_is,upd_not,Nat.reduceAdd,Nat.reduceSub,Nat.reduceMul,Nat.reduceLeDiff,Nat.reduceEqDiff,Int.reduceAdd,Int.reduceSub,Int.reduceMul,Int.reduceNeg,Int.reduceLT,Int.reduceLE,Int.reduceEq,Int.reduceToNat,reduceCtorEq,reduceIte,Nat.zero_add,Nat.add_zero, *]
        intro fnid
        unfold RNG callH
        refine ⟨_, HI.out fnid _ ⟨rfl, rfl, rfl, rfl⟩, ?_⟩
        rintro r σ' n' ⟨rfl, hor⟩ hn
        simp only [rngK]
        rcases hor with ⟨hf, hy, hd, hr, hx⟩ | ⟨hf, hy, hd, hr, hx⟩
        · refine ⟨hd, _, _, hy, by simp, ?_⟩
          simp only [rngS]
          have h3' := H3.out
          have hx2 : (upd σ' 48 none) 0 = some (.c ⟨14, [encSm x], true, false⟩) := by rw [upd_not (by omega)]; exact hx
          have hr2 : (upd σ' 48 none) 16 = some (.c ⟨1, [[.sc (.int .i64 0)]], true, false⟩) := by rw [upd_not (by omega)]; exact hr
          have hd2 : (upd σ' 48 none) 32 = some (.df true true) := by rw [upd_not (by omega)]; exact hd
          generalize hσ : upd σ' (32 + 16) none = σ3
          rw [show (32 + 16) = 48 from rfl] at hσ
          rw [hσ] at hx2 hr2 hd2
          clear hσ hy hd hr hx h3'
          have H2 := Lib.hid hf
          cases hg : x.group with
          | nil =>
            rw [hg, List.map_nil] at h11
            have c0 : ((0 : Nat) : Int) = 0 := rfl
            simp (maxSteps:=1000000) (disch:=omega) only [rk_syntax_Check1,decide_true,decide_false,Int.lt_irrefl,go_sem,wrapI,wrapB,upd_is,upd_not,Nat.reduceAdd,Nat.reduceSub,Nat.reduceMul,Nat.reduceLeDiff,Nat.reduceEqDiff,Int.reduceAdd,Int.reduceSub,Int.reduceMul,Int.reduceNeg,Int.reduceLT,Int.reduceLE,Int.reduceEq,Int.reduceToNat,reduceCtorEq,reduceIte,Nat.zero_add,Nat.add_zero, *]
            rw [← HR.out]; exact RC_ret rfl (by rw [checkF, if_neg H3.out, if_neg (by simp [hs]), if_neg (by simp [H2.out]), hg])
          | cons e r =>
            rw [hg, List.map_cons] at h11
            have c0 : (0 : Int) < ((r.length + 1 : Nat) : Int) := by omega
            by_cases ho : e.op = 1
            · simp (maxSteps:=1000000) (disch:=omega) only [rk_syntax_Check1,encE_eq,decide_true,decide_false,go_sem,wrapI,wrapB,upd_is,upd_not,Nat.reduceAdd,Nat.reduceSub,Nat.reduceMul,Nat.reduceLeDiff,Nat.reduceEqDiff,Int.reduceAdd,Int.reduceSub,Int.reduceMul,Int.reduceNeg,Int.reduceLT,Int.reduceLE,Int.reduceEq,Int.reduceToNat,reduceCtorEq,reduceIte,Nat.zero_add,Nat.add_zero, *]
              intro _
              rw [← HR.out]; exact RC_ret rfl (by rw [checkF, if_neg H3.out, if_neg (by simp [hs]), if_neg (by simp [H2.out]), hg]; simp [ho])
            · simp (maxSteps:=1000000) (disch:=omega) only [rk_syntax_Check1,encE_eq,decide_true,decide_false,go_sem,wrapI,wrapB,upd_is,upd_not,Nat.reduceAdd,Nat.reduceSub,Nat.reduceMul,Nat.reduceLeDiff,Nat.reduceEqDiff,Int.reduceAdd,Int.reduceSub,Int.reduceMul,Int.reduceNeg,Int.reduceLT,Int.reduceLE,Int.reduceEq,Int.reduceToNat,reduceCtorEq,reduceIte,Nat.zero_add,Nat.add_zero, *]
              intro _
              rw [← HR.out]; exact RC_ret rfl (by rw [checkF, if_neg H3.out, if_neg (by simp [hs]), if_neg (by simp [H2.out]), hg]; simp [ho])
        · refine ⟨hd, _, _, hy, by simp, ?_⟩
          simp only [rngS]
          have hd2 : (upd σ' 48 none) 32 = some (.df true true) := by rw [upd_not (by omega)]; exact hd
          have hr2 : (upd σ' 48 none) 16 = some (.c ⟨1, [[.sc (.int .i64 (firstBad (listsF x).flatten))]], true, false⟩) := by rw [upd_not (by omega)]; exact hr
          generalize hσ : upd σ' (32 + 16) none = σ3
          rw [show (32 + 16) = 48 from rfl] at hσ
          rw [hσ] at hd2 hr2
          clear hσ hy hd hr hx
          have H2 := Lib.hid hf; clear hf
          simp (maxSteps:=1000000) (disch:=omega) only [rr_syntax_Check2,go_sem,wrapI,wrapB,upd_is,upd_not,Nat.reduceAdd,Nat.reduceSub,Nat.reduceMul,Nat.reduceLeDiff,Nat.reduceEqDiff,Int.reduceAdd,Int.reduceSub,Int.reduceMul,Int.reduceNeg,Int.reduceLT,Int.reduceLE,Int.reduceEq,Int.reduceToNat,reduceCtorEq,reduceIte,Nat.zero_add,Nat.add_zero, *]
          rw [← HR.out]; exact RC_ret rfl (by rw [checkF, if_neg H3.out, if_neg (by simp [hs]), if_pos H2.out])
end Go.Proofs.YtodoejfkjimeaaaDoor

set_option linter.unusedSimpArgs false
set_option linter.unusedVariables false
set_option maxRecDepth 100000
namespace Go.Proofs.YtodoejfkjimeaaaDoor
open Go Go.RowKit

end Go.Proofs.YtodoejfkjimeaaaDoor

set_option linter.unusedSimpArgs false
set_option linter.unusedVariables false
set_option maxRecDepth 100000
namespace Go.Proofs.YtodoejfkjimeaaaDoor
open Go Go.RowKit Am

end Go.Proofs.YtodoejfkjimeaaaDoor
set_option maxRecDepth 100000
namespace Go.Proofs.YtodoejfkjimeaaaDoor
open Go Go.RowKit Am

end Go.Proofs.YtodoejfkjimeaaaDoor
set_option maxRecDepth 100000
namespace Go.Proofs.YtodoejfkjimeaaaDoor
open Go Go.RowKit Am

end Go.Proofs.YtodoejfkjimeaaaDoor
set_option maxRecDepth 100000
namespace Go.Proofs.YtodoejfkjimeaaaDoor
open Go Go.RowKit Am

end Go.Proofs.YtodoejfkjimeaaaDoor
set_option maxRecDepth 100000
namespace Go.Proofs.YtodoejfkjimeaaaDoor
open Go Go.RowKit Am

end Go.Proofs.YtodoejfkjimeaaaDoor

set_option linter.unusedSimpArgs false
set_option linter.unusedVariables false
set_option maxRecDepth 100000
namespace Go.Proofs.YtodoejfkjimeaaaDoor
open Go Go.RowKit Am
/-! what the program prints -/
def decF : Nat → Int → Tx
  | 0, _ => []
  | k + 1, n => if n < 0 ∧ n.tdiv 10 = 0 then 45 :: decF k (-n) else (if n.tdiv 10 ≠ 0 then decF k (n.tdiv 10) else []) ++ [UInt8.ofNat (48 + (n.tmod 10).natAbs)]
def litF (kind n : Int) (text : Tx) : Tx :=
  if kind = 0 then [78, 85, 76, 76] else if kind = 1 then decF 40 n else if kind = 2 then (if n = 1 then [84, 82, 85, 69] else [70, 65, 76, 83, 69]) else [39] ++ Lib.replaceAll text [39] [39, 39] ++ [39]
def signF (k : Nat) : Tx := ([[43], [45], [42], [47], [61], [60, 62], [60], [60, 61], [62], [62, 61], [65, 78, 68], [79, 82]] : List Tx).getD k []
def fnF (k : Nat) : Tx := ([[67, 79, 85, 78, 84], [83, 85, 77], [77, 73, 78], [77, 65, 88]] : List Tx).getD k []
def putF (op kind n : Int) (text table name : Tx) (l : List Tx) : Tx :=
  if op = 0 then litF kind n text
  else if op = 1 then Lib.trimPrefix (table ++ [46] ++ name) [46]
  else if op = 2 then [40, 45] ++ l.getD 0 [] ++ [41]
  else if op = 3 then [40, 78, 79, 84, 32] ++ l.getD 0 [] ++ [41]
  else if op = 16 then [40] ++ l.getD 0 [] ++ [32, 73, 83, 32, 78, 85, 76, 76, 41]
  else if op = 17 then [40] ++ l.getD 0 [] ++ [32, 73, 83, 32, 78, 79, 84, 32, 78, 85, 76, 76, 41]
  else if op = 18 then [67, 79, 85, 78, 84, 40, 42, 41]
  else if 19 ≤ op ∧ op ≤ 22 then fnF (op - 19).toNat ++ [40] ++ l.getD 0 [] ++ [41]
  else [40] ++ l.getD 0 [] ++ [32] ++ signF (op - 4).toNat ++ [32] ++ l.getD 1 [] ++ [41]
mutual
def printF : Ep → Tx
  | .mk op kind n text table name args => putF op kind n text table name (printFs args)
def printFs : List Ep → List Tx
  | [] => []
  | e :: l => printF e :: printFs l
end
theorem printFs_map : ∀ (l : List Ep), printFs l = l.map printF
  | [] => rfl
  | e :: l => by rw [printFs, printFs_map l]; rfl
theorem printF_eq (e : Ep) : printF e = putF e.op e.kind e.n e.text e.table e.name (e.args.map printF) := by
  cases e with
  | mk op kind n text table name args => rw [printF, printFs_map]; rfl
theorem args_two {op : Int} {n : Nat} (h : argsN op = ((n : Int), true)) : n ≤ 2 := by
  unfold argsN at h
  split at h
  · simp only [Prod.mk.injEq] at h; omega
  · split at h
    · simp only [Prod.mk.injEq] at h; omega
    · simp only [Prod.mk.injEq] at h; omega
theorem decF_len : ∀ (k : Nat) (n : Int), (decF k n).length ≤ k
  | 0, n => by simp [decF]
  | k + 1, n => by
    rw [decF]
    split
    · have := decF_len k (-n); simp; omega
    · split
      · have := decF_len k (n.tdiv 10); simp; omega
      · simp
def OKk : Nat → Ep → Prop
  | 0, _ => False
  | k + 1, e => partOk e = true ∧ ∀ a ∈ e.args, OKk k a
theorem walk_ok : ∀ (k : Nat) (e : Ep) (c : Nat), (walkF k e c).1 = 0 → OKk k e
  | 0, e, c, h => by simp [walkF] at h
  | k + 1, e, c, h => by
    simp only [walkF] at h
    split at h
    · simp at h
    · split at h
      · simp at h
      · rename_i h1 h2
        refine ⟨by simpa using h2, ?_⟩
        have : ∀ (l : List Ep) (c : Nat), (goOver (walkF k) l c).1 = 0 → ∀ a ∈ l, OKk k a := by
          intro l
          induction l with
          | nil => intro c _ a ha; cases ha
          | cons b l ih =>
            intro c hc a ha
            simp only [goOver] at hc
            split at hc
            · rename_i h0
              rcases List.mem_cons.1 ha with rfl | ha
              · exact walk_ok k a c h0
              · exact ih _ hc a ha
            · rename_i h0; exact absurd hc h0
        exact this _ _ h
theorem replaceK_len : ∀ (k : Nat) (s : List UInt8), (Lib.replaceK [39] [39, 39] k s).length ≤ s.length + 2 * k
  | 0, s => by simp [Lib.replaceK]
  | k + 1, s => by
    rw [Lib.replaceK]
    split
    · omega
    · have := replaceK_len k (s.drop ((Lib.index s [39]).toNat + [39].length))
      simp only [List.length_append, List.length_cons, List.length_nil, List.length_drop, List.length_take] at this ⊢
      omega
theorem replace_len {s : List UInt8} (h : Lib.count s [39] ≤ s.length) : (Lib.replaceAll s [39] [39, 39]).length ≤ 3 * s.length := by
  unfold Lib.replaceAll Lib.replace
  split
  · omega
  · have := replaceK_len (Lib.replaceNum s [39] (-1)) s
    have h2 : Lib.replaceNum s [39] (-1) = Lib.count s [39] := by simp [Lib.replaceNum]
    rw [h2] at this ⊢
    omega
theorem trim_len (s p : List UInt8) : (Lib.trimPrefix s p).length ≤ s.length := by
  unfold Lib.trimPrefix
  split <;> simp
theorem lit_len {kind n : Int} {text : Tx} (h : text.length ≤ 1048576) (hc : Lib.count text [39] ≤ text.length) : (litF kind n text).length ≤ 3900000 := by
  unfold litF
  split
  · simp
  · split
    · have := decF_len 40 n; omega
    · split
      · split <;> simp
      · have := replace_len hc
        simp only [List.length_append, List.length_cons, List.length_nil]
        omega
theorem getD_small {l : List Tx} {M : Nat} (h : ∀ t ∈ l, t.length ≤ M) (i : Nat) : (l.getD i []).length ≤ M := by
  rw [List.getD_eq_getElem?_getD]
  cases hx : l[i]? with
  | none => simp
  | some t => exact h t (List.mem_of_getElem? hx)
theorem put_len {op kind n : Int} {text table name : Tx} {l : List Tx} {M : Nat} (h : ∀ t ∈ l, t.length ≤ M) (h1 : text.length ≤ 1048576) (h2 : table.length ≤ 1048576) (h3 : name.length ≤ 1048576) (hc : Lib.count text [39] ≤ text.length) :
    (putF op kind n text table name l).length ≤ 3900000 ∨ (putF op kind n text table name l).length ≤ 2 * M + 100 := by
  have g0 := getD_small h 0
  have g1 := getD_small h 1
  have hs : (signF (op - 4).toNat).length ≤ 10 := getD_small (by decide) _
  have hf : (fnF (op - 19).toNat).length ≤ 10 := getD_small (by decide) _
  unfold putF
  split
  · exact .inl (lit_len h1 hc)
  · split
    · have := trim_len (table ++ [46] ++ name) [46]
      simp only [List.length_append, List.length_cons, List.length_nil] at this
      exact .inl (by omega)
    · right
      repeat' split
      all_goals simp only [List.length_append, List.length_cons, List.length_nil]
      all_goals omega
theorem count_le (l : List UInt8) : Lib.count l [39] ≤ l.length := by
  have h := Lib.countB_mul_le ⟨#[39]⟩ (by decide) l.length ⟨l.toArray⟩ (by simp [ByteArray.size])
  have e : Lib.countB ⟨l.toArray⟩ ⟨#[39]⟩ = Lib.count l [39] := by
    show Lib.count (l.toArray.toList) [39] = _
    simp
  rw [e] at h
  have e2 : (⟨#[39]⟩ : ByteArray).size = 1 := rfl
  have e3 : (⟨l.toArray⟩ : ByteArray).size = l.length := by simp [ByteArray.size]
  rw [e2, e3] at h
  omega
theorem print_len : ∀ (k : Nat) (e : Ep), OKk k e → Bd e → (printF e).length + 100 ≤ 4000000 * 2 ^ k
  | 0, e, h, _ => h.elim
  | k + 1, e, ⟨_, ha⟩, hb => by
    rw [printF_eq]
    have h1 : 1 ≤ 2 ^ k := Nat.one_le_two_pow
    have hM : ∀ t ∈ e.args.map printF, t.length ≤ 4000000 * 2 ^ k - 100 := by
      intro t ht
      obtain ⟨a, ha', rfl⟩ := List.mem_map.1 ht
      have := print_len k a (ha a ha') (by
        obtain ⟨i, hi⟩ := List.mem_iff_getElem?.1 ha'
        exact hb.arg hi)
      omega
    have hbt : e.text.length ≤ 1048576 ∧ e.table.length ≤ 1048576 ∧ e.name.length ≤ 1048576 := by
      cases hb with
      | mk op kind n text table name args h1 h2 h3 h4 h => exact ⟨h1, h2, h3⟩
    have := put_len (op := e.op) (kind := e.kind) (n := e.n) hM hbt.1 hbt.2.1 hbt.2.2 (count_le e.text)
    rw [Nat.pow_succ]
    omega
end Go.Proofs.YtodoejfkjimeaaaDoor

set_option linter.unusedSimpArgs false
set_option linter.unusedVariables false
namespace Go.Proofs.YtodoejfkjimeaaaDoor
open Go.RowKit Go.Shelf
def sl155_ren : Go.Shelf.Ren := ⟨fun | 138 => 131 | 143 => 87 | 154 => 124 | 155 => 101 | 165 => 132 | 166 => 111 | 169 => 49 | 195 => 137 | 197 => 133 | 217 => 127 | 218 => 138 | 219 => 119 | 224 => 129 | 225 => 128 | 240 => 126 | 241 => 139 | 260 => 140 | 266 => 135 | 267 => 130 | 276 => 134 | 277 => 141 | 314 => 136 | n => n, fun | 0 => 0 | 3 => 3 | 4 => 4 | 5 => 5 | 9 => 9 | 20 => 20 | 21 => 21 | 37 => 80 | 46 => 158 | 51 => 164 | 70 => 79 | 72 => 82 | 75 => 145 | 76 => 146 | 80 => 86 | 105 => 160 | 119 => 169 | 127 => 116 | 138 => 171 | 139 => 172 | 146 => 165 | 164 => 162 | n => n, fun | 1 => 0 | 3 => 1 | 4 => 2 | n => n⟩
theorem sl155 : Go.Proofs.Lays.n155 Tryd.prog sl155_ren := {
  mixed := by kernel_rfl
  f138 := Tryd.func131.trans (congrArg some (by kernel_rfl))
  f143 := Tryd.func87.trans (congrArg some (by kernel_rfl))
  f154 := Tryd.func124.trans (congrArg some (by kernel_rfl))
  f155 := Tryd.func101.trans (congrArg some (by kernel_rfl))
  f165 := Tryd.func132.trans (congrArg some (by kernel_rfl))
  f166 := Tryd.func111.trans (congrArg some (by kernel_rfl))
  f169 := Tryd.func49.trans (congrArg some (by kernel_rfl))
  f195 := Tryd.func137.trans (congrArg some (by kernel_rfl))
  f197 := Tryd.func133.trans (congrArg some (by kernel_rfl))
  f217 := Tryd.func127.trans (congrArg some (by kernel_rfl))
  f218 := Tryd.func138.trans (congrArg some (by kernel_rfl))
  f219 := Tryd.func119.trans (congrArg some (by kernel_rfl))
  f224 := Tryd.func129.trans (congrArg some (by kernel_rfl))
  f225 := Tryd.func128.trans (congrArg some (by kernel_rfl))
  f240 := Tryd.func126.trans (congrArg some (by kernel_rfl))
  f241 := Tryd.func139.trans (congrArg some (by kernel_rfl))
  f260 := Tryd.func140.trans (congrArg some (by kernel_rfl))
  f266 := Tryd.func135.trans (congrArg some (by kernel_rfl))
  f267 := Tryd.func130.trans (congrArg some (by kernel_rfl))
  f276 := Tryd.func134.trans (congrArg some (by kernel_rfl))
  f277 := Tryd.func141.trans (congrArg some (by kernel_rfl))
  f314 := Tryd.func136.trans (congrArg some (by kernel_rfl))
  t0 := Tryd.underlying0
  a0 := Tryd.isAgg0
  z0 := Tryd.sizeOf0
  v0 := Tryd.zeroValue0
  t3 := Tryd.underlying3
  a3 := Tryd.isAgg3
  z3 := Tryd.sizeOf3
  v3 := Tryd.zeroValue3
  t4 := Tryd.underlying4
  a4 := Tryd.isAgg4
  z4 := Tryd.sizeOf4
  v4 := Tryd.zeroValue4
  t5 := Tryd.underlying5
  a5 := Tryd.isAgg5
  z5 := Tryd.sizeOf5
  v5 := Tryd.zeroValue5
  t9 := Tryd.underlying9
  a9 := Tryd.isAgg9
  z9 := Tryd.sizeOf9
  v9 := Tryd.zeroValue9
  t20 := Tryd.underlying20
  a20 := Tryd.isAgg20
  z20 := Tryd.sizeOf20
  v20 := Tryd.zeroValue20
  t21 := Tryd.underlying21
  a21 := Tryd.isAgg21
  z21 := Tryd.sizeOf21
  v21 := Tryd.zeroValue21
  t37 := Tryd.underlying80
  a37 := Tryd.isAgg80
  z37 := Tryd.sizeOf80
  v37 := Tryd.zeroValue80
  t46 := Tryd.underlying158
  a46 := Tryd.isAgg158
  z46 := Tryd.sizeOf158
  v46 := Tryd.zeroValue158
  t51 := Tryd.underlying164
  a51 := Tryd.isAgg164
  z51 := Tryd.sizeOf164
  v51 := Tryd.zeroValue164
  t70 := Tryd.underlying79
  a70 := Tryd.isAgg79
  z70 := Tryd.sizeOf79
  v70 := Tryd.zeroValue79
  t72 := Tryd.underlying82
  a72 := Tryd.isAgg82
  z72 := Tryd.sizeOf82
  v72 := Tryd.zeroValue82
  t75 := Tryd.underlying145
  a75 := Tryd.isAgg145
  z75 := Tryd.sizeOf145
  v75 := Tryd.zeroValue145
  t76 := Tryd.underlying146
  a76 := Tryd.isAgg146
  z76 := Tryd.sizeOf146
  v76 := Tryd.zeroValue146
  t105 := Tryd.underlying160
  a105 := Tryd.isAgg160
  z105 := Tryd.sizeOf160
  v105 := Tryd.zeroValue160
  t119 := Tryd.underlying169
  a119 := Tryd.isAgg169
  z119 := Tryd.sizeOf169
  t127 := Tryd.underlying116
  a127 := Tryd.isAgg116
  z127 := Tryd.sizeOf116
  v127 := Tryd.zeroValue116
  t138 := Tryd.underlying171
  a138 := Tryd.isAgg171
  z138 := Tryd.sizeOf171
  v138 := Tryd.zeroValue171
  t139 := Tryd.underlying172
  a139 := Tryd.isAgg172
  z139 := Tryd.sizeOf172
  v139 := Tryd.zeroValue172
  t146 := Tryd.underlying165
  a146 := Tryd.isAgg165
  z146 := Tryd.sizeOf165
  v146 := Tryd.zeroValue165
  t164 := Tryd.underlying162
  a164 := Tryd.isAgg162
  z164 := Tryd.sizeOf162
  v164 := Tryd.zeroValue162
  g1 := by kernel_rfl
  g3 := by kernel_rfl
  g4 := by kernel_rfl }
theorem sl155_x : Builder.Extra Tryd.prog sl155_ren where
  sizeBuilder := by kernel_rfl
  liesBuilder := by kernel_rfl
  t5 := Tryd.underlying5
  a5 := Tryd.isAgg5
  z5 := Tryd.sizeOf5
  v5 := Tryd.zeroValue5
  infoByte := by kernel_rfl
  cellsByte := by kernel_rfl
  sizeByte := by kernel_rfl
  neB5 := by decide
theorem sl_strings_ReplaceAll (s old new : ByteArray) (m : Int) (w : World) (hs : s.size < 4294967281) (hm : w.cell? ⟨0, 0, none⟩ = some (.int .i64 m)) (h1 : 1 ≤ old.size) (hlen : s.size + Lib.countB s old * new.size ≤ 140737488355328) :
    Calls Tryd.prog 101 #[.string s, .string old, .string new] w fun e w' =>
      e = .returned (.string ⟨(Lib.replaceAll s.data.toList old.data.toList new.data.toList).toArray⟩) ∧ Below w.heap.size w w' :=
  Any.strings_ReplaceAll sl155 sl155_x s old new m w hs hm h1 hlen
def sl101_ren : Go.Shelf.Ren := ⟨fun | 101 => 60 | 206 => 114 | 208 => 102 | n => n, fun | 3 => 3 | 4 => 4 | 9 => 9 | n => n, fun  | n => n⟩
theorem sl101 : Go.Proofs.Lays.n101 Tryd.prog sl101_ren := {
  mixed := by kernel_rfl
  f101 := Tryd.func60.trans (congrArg some (by kernel_rfl))
  f206 := Tryd.func114.trans (congrArg some (by kernel_rfl))
  f208 := Tryd.func102.trans (congrArg some (by kernel_rfl))
  t3 := Tryd.underlying3
  a3 := Tryd.isAgg3
  z3 := Tryd.sizeOf3
  v3 := Tryd.zeroValue3
  t4 := Tryd.underlying4
  a4 := Tryd.isAgg4
  z4 := Tryd.sizeOf4
  v4 := Tryd.zeroValue4
  t9 := Tryd.underlying9
  a9 := Tryd.isAgg9
  z9 := Tryd.sizeOf9
  v9 := Tryd.zeroValue9 }
theorem sl_strings_TrimPrefix (s p : ByteArray) (w : World) :
    Calls Tryd.prog 60 #[.string s, .string p] w fun e w' => e = .returned (.string ⟨(Lib.trimPrefix s.data.toList p.data.toList).toArray⟩) ∧ w' = w :=
  Any.strings_TrimPrefix sl101 s p w
end Go.Proofs.YtodoejfkjimeaaaDoor
