/- Packed by a program of this repo: Ss Ui Va. -/
import Derived.Test.YtodoejfkjimeaaaDoorKOSq
import Derived.Test.YtodoejfkjimeaaaDoorKOQf
import Derived.Test.YtodoejfkjimeaaaDoorKOUe
import Derived.Test.YtodoejfkjimeaaaDoorKOUf
import Derived.Test.YtodoejfkjimeaaaDoorProg
import Derived.Test.YtodoejfkjimeaaaDoorKOMs
import Derived.Lib.Builder
import Derived.Lib.UnsafeStr
set_option linter.unusedSimpArgs false
set_option linter.unusedVariables false
set_option maxRecDepth 100000
namespace Go.Proofs.YtodoejfkjimeaaaDoor
open Go Go.RowKit Am
attribute [-go_sem] guardP_if guardK_if guardD_if COND_bool
attribute [local go_sem low] guardP_if guardK_if guardD_if COND_bool

def ppF (e : Ep) : Tx × Int := if (walkF 12 e 0).1 = 0 then (printF e, 0) else ([], (walkF 12 e 0).1)
theorem printExpr_con (e : Ep) (he : BdRg e) : Con Tryd.prog 10 [.ag (encE e)] (.ret (.tp [.s (ppF e).1, .sc (.int .i64 (ppF e).2)])) := by
  refine con_of (by_syntax_PrintExpr ?_)
  generalize hR : RC _ = R
  have HR := Lib.hid hR; clear hR
  have HC := Lib.hid (checkExpr_con e he.1)
  have HP := Lib.hid (fun h => printed_con 12 e (by omega) (walk_ok 12 e 0 h) he.1 he.2)
  have hp : ppF e = if (walkF 12 e 0).1 = 0 then (printF e, 0) else ([], (walkF 12 e 0).1) := rfl
  have HPP := Lib.hid hp; clear hp he
  simp (maxSteps:=1000000) (disch:=omega) only [sh_syntax_PrintExpr,go_sem,wrapI,wrapB,upd_is,upd_not,Nat.reduceAdd,Nat.reduceSub,Nat.reduceMul,Nat.reduceLeDiff,Nat.reduceEqDiff,Int.reduceAdd,Int.reduceSub,Int.reduceMul,Int.reduceNeg,Int.reduceLT,Int.reduceLE,Int.reduceEq,Int.reduceToNat,reduceCtorEq,reduceIte,Nat.zero_add,Nat.add_zero, *]
  refine CALL_con0 HC.out (by simp only [List.append_nil, brwL_cons, brwL_nil, brw_ag, encE_brw, Option.map_some]) ?_
  generalize (walkF 12 e 0).1 = m at *
  by_cases h : m = 0
  · have HP' := Lib.hid (HP.out h); clear HP
    simp (maxSteps:=1000000) (disch:=omega) only [decide_true,decide_false,go_sem,wrapI,wrapB,upd_is,upd_not,Nat.reduceAdd,Nat.reduceSub,Nat.reduceMul,Nat.reduceLeDiff,Nat.reduceEqDiff,Int.reduceAdd,Int.reduceSub,Int.reduceMul,Int.reduceNeg,Int.reduceLT,Int.reduceLE,Int.reduceEq,Int.reduceToNat,reduceCtorEq,reduceIte,Nat.zero_add,Nat.add_zero, *]
    refine CALL_con0 HP'.out (by simp only [List.append_nil, brwL_cons, brwL_nil, brw_ag, encE_brw, Option.map_some]) ?_
    simp (maxSteps:=1000000) (disch:=omega) only [go_sem,wrapI,wrapB,upd_is,upd_not,Nat.reduceAdd,Nat.reduceSub,Nat.reduceMul,Nat.reduceLeDiff,Nat.reduceEqDiff,Int.reduceAdd,Int.reduceSub,Int.reduceMul,Int.reduceNeg,Int.reduceLT,Int.reduceLE,Int.reduceEq,Int.reduceToNat,reduceCtorEq,reduceIte,Nat.zero_add,Nat.add_zero, *]
    rw [← HR.out]; exact RC_ret rfl (by rw [HPP.out, if_pos h])
  · clear HP
    simp (maxSteps:=1000000) (disch:=omega) only [decide_true,decide_false,go_sem,wrapI,wrapB,upd_is,upd_not,Nat.reduceAdd,Nat.reduceSub,Nat.reduceMul,Nat.reduceLeDiff,Nat.reduceEqDiff,Int.reduceAdd,Int.reduceSub,Int.reduceMul,Int.reduceNeg,Int.reduceLT,Int.reduceLE,Int.reduceEq,Int.reduceToNat,reduceCtorEq,reduceIte,Nat.zero_add,Nat.add_zero, *]
    rw [← HR.out]; exact RC_ret rfl (by rw [HPP.out, if_neg h])
theorem num4_con (n : Int) : Con Tryd.prog 11 [.sc (.int .i64 n)] (.ret (.sc (.int .i64 n))) := by
  refine con_of (by_law04_num ?_)
  exact RC_ret rfl rfl
def ea : Ep := .mk 1 0 0 [] [] [97] []
def e1 : Ep := .mk 0 1 1 [] [] [] []
def e4 : Ep := .mk 4 0 0 [] [] [] [ea, e1]
def sm8 : Sm := ⟨8, [], [], [], [], [], [], [], [], [], [], [], [], 0⟩
theorem pp4 : ppF e4 = ([40, 97, 32, 43, 32, 49, 41], 0) := by kernel_rfl
theorem ch8 : checkF sm8 = 0 := by kernel_rfl
theorem e4_bd : BdRg e4 := by
  have ha : BdRg ea := ⟨.mk _ _ _ _ _ _ _ (by decide) (by decide) (by decide) (by decide) (fun a h => by cases h), .mk _ (by unfold rng; decide) (fun a h => by cases h)⟩
  have h1 : BdRg e1 := ⟨.mk _ _ _ _ _ _ _ (by decide) (by decide) (by decide) (by decide) (fun a h => by cases h), .mk _ (by unfold rng; decide) (fun a h => by cases h)⟩
  refine ⟨.mk _ _ _ _ _ _ _ (by decide) (by decide) (by decide) (by simp) ?_, .mk _ (by unfold rng; decide) ?_⟩
  · intro a h
    rcases List.mem_cons.1 h with rfl | h
    · exact ha.1
    · rcases List.mem_cons.1 h with rfl | h
      · exact h1.1
      · cases h
  · intro a h
    rcases List.mem_cons.1 h with rfl | h
    · exact ha.2
    · rcases List.mem_cons.1 h with rfl | h
      · exact h1.2
      · cases h
theorem sm8_bd : SBd sm8 := by
  refine ⟨by decide, by decide, by decide, by decide, by decide, ?_, by decide, ?_, by decide, ?_, ⟨by decide, ?_⟩, ⟨by decide, ?_⟩, ⟨by decide, ?_⟩, ⟨by decide, ?_⟩, by decide⟩
  all_goals intro c hc; cases hc
theorem alive4_con : Con Tryd.prog 9 [] (.ret (.sc (.bool true))) := by
  refine con_of (by_law04_alive ?_)
  have HP := Lib.hid (printExpr_con e4 e4_bd)
  rw [pp4] at HP
  have HC := Lib.hid (check_con sm8 sm8_bd)
  rw [ch8] at HC
  simp (maxSteps:=1000000) (disch:=omega) only [sh_law04_alive,go_sem,wrapI,wrapB,upd_is,upd_not,Nat.reduceAdd,Nat.reduceSub,Nat.reduceMul,Nat.reduceLeDiff,Nat.reduceEqDiff,Int.reduceAdd,Int.reduceSub,Int.reduceMul,Int.reduceNeg,Int.reduceLT,Int.reduceLE,Int.reduceEq,Int.reduceToNat,reduceCtorEq,reduceIte,Nat.zero_add,Nat.add_zero, *]
  refine CALL_con (I := [0]) HP.out (by simp (disch := omega) only [List.append_nil, brw_ag, Option.map_some, brwL_cons, brwL_nil, brw_s, brw_em, brw_ow', upd_is, upd_not, brw_sc]; rfl) ?_
  simp (maxSteps:=1000000) (disch:=omega) only [go_sem,wrapI,wrapB,upd_is,upd_not,Nat.reduceAdd,Nat.reduceSub,Nat.reduceMul,Nat.reduceLeDiff,Nat.reduceEqDiff,Int.reduceAdd,Int.reduceSub,Int.reduceMul,Int.reduceNeg,Int.reduceLT,Int.reduceLE,Int.reduceEq,Int.reduceToNat,reduceCtorEq,reduceIte,Nat.zero_add,Nat.add_zero, *]
  refine CALL_con0 (num4_con 0) rfl ?_
  simp (maxSteps:=1000000) (disch:=omega) only [decide_true,decide_false,go_sem,wrapI,wrapB,upd_is,upd_not,Nat.reduceAdd,Nat.reduceSub,Nat.reduceMul,Nat.reduceLeDiff,Nat.reduceEqDiff,Int.reduceAdd,Int.reduceSub,Int.reduceMul,Int.reduceNeg,Int.reduceLT,Int.reduceLE,Int.reduceEq,Int.reduceToNat,reduceCtorEq,reduceIte,Nat.zero_add,Nat.add_zero, *]
  refine CALL_con0 HC.out rfl ?_
  simp (maxSteps:=1000000) (disch:=omega) only [decide_true,decide_false,go_sem,wrapI,wrapB,upd_is,upd_not,Nat.reduceAdd,Nat.reduceSub,Nat.reduceMul,Nat.reduceLeDiff,Nat.reduceEqDiff,Int.reduceAdd,Int.reduceSub,Int.reduceMul,Int.reduceNeg,Int.reduceLT,Int.reduceLE,Int.reduceEq,Int.reduceToNat,reduceCtorEq,reduceIte,Nat.zero_add,Nat.add_zero, *]
  exact RC_ret rfl rfl
end Go.Proofs.YtodoejfkjimeaaaDoor

set_option linter.unusedSimpArgs false
set_option linter.unusedVariables false
set_option maxRecDepth 100000
namespace Go.Proofs.YtodoejfkjimeaaaDoor
open Go Go.RowKit Am
attribute [-go_sem] guardP_if guardK_if guardD_if COND_bool
attribute [local go_sem low] guardP_if guardK_if guardD_if COND_bool
theorem zAl (id : Nat) : hAlloc id [(.int .i64 0), (.string ⟨#[]⟩), (.slice none 0 0), (.string ⟨#[]⟩), (.string ⟨#[]⟩), (.slice none 0 0), (.slice none 0 0), (.slice none 0 0), (.string ⟨#[]⟩), (.slice none 0 0), (.slice none 0 0), (.slice none 0 0), (.slice none 0 0), (.int .i64 0)] = some (.rf id 14 0 0, [(id, some (boxO zSm))]) := rfl
theorem encSm_leaf (x : Sm) : (encSm x).all leafok = true := rfl
theorem ld14 {σ : Hp} {i : Nat} {row : List AV} (h : σ i = some (boxO row)) (hr : row.length = 14) : aLd σ (some 14) (.rf i 14 0 0) = some (.ag row) := by
  have ht : row.take 14 = row := List.take_of_length_le (by omega)
  simp [aLd, h, Am.part, hr, ht]
end Go.Proofs.YtodoejfkjimeaaaDoor

set_option linter.unusedSimpArgs false
set_option linter.unusedVariables false
set_option maxRecDepth 100000
namespace Go.Proofs.YtodoejfkjimeaaaDoor
open Go Go.RowKit Am

theorem cc_info : ∃ j, Tryd.prog.info? 82 = some j ∧ j.size = 2 := Option.map_eq_some_iff.1 (show (Tryd.prog.info? 82).map (·.size) = some 2 by kernel_rfl)
theorem cc_used_is (b : Nat) (w : World) (h0 : w.cell? ⟨b, 0, none⟩ = some (.pointer (some ⟨b, 0, none⟩))) :
    Calls Tryd.prog 126 #[.pointer (some ⟨b, 0, none⟩)] w fun e w' => e = .returned (.tuple #[]) ∧ w' = w := by
  obtain ⟨j, hj, hjs⟩ := cc_info
  go_enter Tryd.func126, Tryd.ntmps126
  go_wp2
  rw [Lib.run_neq_ptr_same w _ Tryd.underlying79 hj]
  go_wp2
  go_end0
  exact ⟨rfl, rfl⟩
set_option maxHeartbeats 1000000 in
theorem cc_fresh_is (t : Nat) (hl : liesAt Tryd.prog Tryd.prog.depth t (2 / Tryd.prog.cellsOf t) 0 82 1 = true) (b : Nat) (w : World) (h0 : w.cell? ⟨b, 0, none⟩ = some (.pointer none)) (hsh : w.shape? b = some (t, 2)) (hfz : w.frozen? ⟨b, 0, none⟩ = false) :
    Calls Tryd.prog 126 #[.pointer (some ⟨b, 0, none⟩)] w fun e w' => e = .returned (.tuple #[]) ∧ w' = w.setCell ⟨b, 0, none⟩ (.pointer (some ⟨b, 0, none⟩)) := by
  obtain ⟨j, hj, hjs⟩ := cc_info
  go_enter Tryd.func126, Tryd.ntmps126
  go_wp2
  rw [Lib.run_to_unsafe w ⟨b, 0, none⟩ Tryd.underlying79 Tryd.underlying162 hj (by rw [hjs]; decide) hsh (Nat.zero_lt_succ 1)]
  simp only [Result.andThen]
  rw [Oper.upon_value]
  go_wp2
  rw [run_callFunc_extern Tryd.func134 (by kernel_rfl) (by kernel_rfl) (by kernel_rfl) (e := Extern.AbiNoEscape.same) (by kernel_rfl)]
  rw [Lib.run_noEscape]
  simp only [Result.andThen]
  rw [Oper.upon_value]
  go_wp2
  rw [Lib.run_from_unsafe w ⟨b, 0, none⟩ Tryd.underlying162 Tryd.underlying79 hj hsh hl]
  simp only [Result.andThen]
  rw [Oper.upon_value]
  go_wp2
  go_end0
  exact ⟨rfl, rfl⟩
set_option maxHeartbeats 1000000 in
theorem bstr_is (b g cap : Nat) (p : Value) (l : List UInt8) (h0 : l ≠ []) (hc : l.length ≤ cap) (n : Nat) (hcn : cap ≤ n) (hlen : l.length ≤ 4611686018427387904) (w : World) (c1 : w.cell? ⟨b, 1, none⟩ = some (.slice (some ⟨g, 0, none⟩) l.length cap))
    (hsh : w.shape? g = some (5, n)) (hcell : ∀ j x, l[j]? = some x → w.cell? ((⟨g, 0, none⟩ : Addr).add j) = some (.int .u8 x.toNat)) :
    Calls Tryd.prog 49 #[.pointer (some ⟨b, 0, none⟩)] w fun e w' => e = .returned (.string ⟨l.toArray⟩) ∧ w' = w.drew.freeze ⟨g, 0, none⟩ l.length := by
  have hl0 : l.length ≠ 0 := by simpa using h0
  have c1' : w.drew.cell? ⟨b, 1, none⟩ = some (.slice (some ⟨g, 0, none⟩) l.length cap) := c1
  have hSD : (Builtin.unsafeSliceData_ #[80] 116 #[.slice (some ⟨g, 0, none⟩) l.length cap]).run Tryd.prog w.drew = .ok (.pointer (some ⟨g, 0, none⟩)) w.drew :=
    Lib.run_unsafeSliceData_row _ _ _ _ _ _ (by omega)
  have hUS : (Builtin.unsafeString_ #[116, 3] 9 #[.pointer (some ⟨g, 0, none⟩), .int .i64 l.length]).run Tryd.prog w.drew = .ok (.string ⟨l.toArray⟩) (w.drew.freeze ⟨g, 0, none⟩ l.length) :=
    Lib.run_unsafeString_row w.drew 116 3 9 5 Tryd.underlying116 (by kernel_rfl) g n hsh l h0 (by omega) (by omega) hcell
  go_enter Tryd.func49, Tryd.ntmps49
  go_wp2
  go_region
  all_goals (go_wp2; go_ret; exact ⟨rfl, rfl⟩)
theorem rt_inv {M : Nat → Prop} {w : World} {β : Nat → Option Nat} {v : Value} {i k t : Nat} (h : Rel M w β v (.rt i k t)) : ∃ b, v = .pointer (some ⟨b, 0, none⟩) ∧ β i = some b ∧ w.shape? b = some (t, k) := by
  cases h; exact ⟨_, rfl, by assumption, by assumption⟩
theorem ob_inv {M : Nat → Prop} {w : World} {β : Nat → Option Nat} {v : Value} {i len : Nat} (h : Rel M w β v (.ob i len)) : ∃ b cap n, v = .slice (some ⟨b, 0, none⟩) len cap ∧ β i = some b ∧ len ≤ cap ∧ w.shape? b = some (5, n) ∧ cap ≤ n := by
  cases h; exact ⟨_, _, _, rfl, by assumption, by assumption, by assumption, by assumption⟩
section
variable {N : Nat → Prop} {β : Nat → Option Nat} {σ : Hp} {F : Nat → Prop} {w w' : World}
theorem hrel_drop (H : HRel N β σ F w) {j g : Nat} {x : Ob} (hj : σ j = some x) (hw : x.wr = true) (hb : β j = some g)
    (hother : ∀ b, b ≠ g → w'.heap[b]? = w.heap[b]?) (hshape : ∀ b s, w.shape? b = some s → w'.shape? b = some s) :
    HRel N β (upd σ j none) F w' ∧ (∀ {β' v z}, Rel (live N β σ) w β' v z → Rel (live N β (upd σ j none)) w' β' v z) ∧ (∀ b, own β (upd σ j none) b → own β σ b) := by
  have hg : live N β σ g := .inr ⟨j, x, hj, hw, hb⟩
  have hσ : ∀ i y, upd σ j none i = some y → i ≠ j ∧ σ i = some y := by
    intro i y h
    by_cases e : i = j
    · subst e; simp at h
    · rw [upd_ne _ _ e] at h; exact ⟨e, h⟩
  have hl0 : ∀ b, own β (upd σ j none) b → own β σ b := by
    rintro b ⟨i, y, h1, h2, h3⟩
    exact ⟨i, y, (hσ i y h1).2, h2, h3⟩
  have hl : ∀ b, live N β (upd σ j none) b → live N β σ b := fun b h => h.imp (fun h => h) (hl0 b)
  have hcell : ∀ ad u, w.cell? ad = some u → ¬ live N β σ ad.block → w'.cell? ad = some u := fun ad u hc hn => by
    simpa only [World.cell?, hother ad.block (fun e => hn (by rw [e]; exact hg))] using hc
  have hne : ∀ i y b, upd σ j none i = some y → β i = some b → b ≠ g := by
    rintro i y b h1 h2 rfl
    obtain ⟨e, h3⟩ := hσ i y h1
    exact e (H.inj i j b h2 hb (by simp [h3]) (by simp [hj]))
  refine ⟨⟨fun i hi => ⟨(H.dom i hi).1, ?_⟩, fun i y b hx hb => H.off i y b (hσ i y hx).2 hb, fun i k b hi hk si sk => ?_, fun i y hx => ?_, fun i es wr hx => ?_, fun i L fr S st pe wr hx => ?_, fun i o wr hx => ?_⟩, fun hr => Rel.step (fun _ _ h => h) (fun b _ h => hl b h) hcell hshape hr, hl0⟩
  · by_cases e : i = j
    · subst e; simp
    · rw [upd_ne _ _ e]; exact (H.dom i hi).2
  · obtain ⟨y, hy⟩ := Option.isSome_iff_exists.1 si
    obtain ⟨z, hz⟩ := Option.isSome_iff_exists.1 sk
    exact H.inj i k b hi hk (by simp [(hσ i y hy).2]) (by simp [(hσ k z hz).2])
  · rcases H.blk i y (hσ i _ hx).2 with h0 | ⟨b, cells, e, h1, h2⟩
    · exact .inl h0
    · exact .inr ⟨b, cells, e, h1, h2.step (fun _ _ h => h) (fun b _ h => hl b h) hcell hshape (hother b (hne i _ b hx h1))⟩
  · obtain ⟨b, ms, cl, h1, h2⟩ := H.map i es wr (hσ i _ hx).2
    exact ⟨b, ms, cl, h1, h2.step (fun b _ h => hl b h) hcell hshape (hother b (hne i _ b hx h1))⟩
  · obtain ⟨b, tm, D, h1, h2⟩ := H.lp i L fr S st pe wr (hσ i _ hx).2
    exact ⟨b, tm, D, h1, h2.step (fun _ _ h => h) (fun b _ h => hl b h) hcell hshape (hother b (hne i _ b hx h1))⟩
  · obtain ⟨b, h1, h2⟩ := H.df i o wr (hσ i _ hx).2
    exact ⟨b, h1, (hother b (hne i _ b hx h1)).trans h2⟩
theorem hrel_free {F' : Nat → Prop} (H : HRel N β σ F w) (hF : ∀ i, F' i → F i) : HRel N β σ F' w :=
  ⟨fun i hi => H.dom i (hF i hi), H.off, H.inj, H.blk, H.map, H.lp, H.df⟩
theorem setCell_row {b : Nat} {cs : Array Value} {t : TypeId} {fr : Nat × Nat} (v : Value) (h : w.heap[b]? = some (.cells cs t fr)) : w.setCell ⟨b, 0, none⟩ v = w.setRow b (cs.setIfInBounds 0 v) := by
  unfold World.setCell World.setRow
  congr 1
  apply Array.ext_getElem?
  intro j
  rw [Array.getElem?_modify, Array.getElem?_modify]
  by_cases e : b = j
  · subst e; simp [h]
  · simp [e]
end
theorem cc_used (i t : Nat) (v : AV) (id : Nat) : ConW Tryd.prog 126 [.rt i 2 t] [(i, .c ⟨2, [[.rt i 2 t, v]], true, false⟩)] id (.ret (.tp [])) [] := by
  refine ⟨by kernel_rfl, fun N β σ F w vs hpre hid T hT hF hN H hargs => ?_⟩
  have hσ := hpre (i, _) List.mem_cons_self
  obtain ⟨u, rfl⟩ : ∃ u, vs = #[u] := Array.size_eq_one_iff.1 hargs.1
  have h0 := hargs.2 0 u _ rfl rfl
  obtain ⟨b, rfl, hb, hs⟩ := rt_inv h0
  obtain ⟨cells, e, h2, h3, h4, h4', h5⟩ := H.phys hσ hb
  obtain ⟨c0, hc0, hr0⟩ := h5 0 0 _ _ rfl rfl
  obtain ⟨b', rfl, hb', _⟩ := rt_inv hr0
  have hbb : b' = b := by
    have h1 : β i = some b' := hb'
    rw [hb] at h1; exact (Option.some.inj h1).symm
  subst hbb
  refine (cc_used_is b' w (blk_cell h2 hc0)).mono ?_
  rintro e' w' ⟨rfl, rfl⟩
  exact ⟨β, T, Nat.le_refl _, fun _ _ h => h, hrel_free H (fun _ h => h.1), .tp #[] [] rfl (fun _ _ _ h _ => by simp at h), Fr.refl _ _, fun _ h _ => h⟩
theorem cc_fresh (t : Nat) (hl : liesAt Tryd.prog Tryd.prog.depth t (2 / Tryd.prog.cellsOf t) 0 82 1 = true) (i : Nat) (v : AV) (id : Nat) :
    ConW Tryd.prog 126 [.rt i 2 t] [(i, .c ⟨2, [[.sc (.pointer none), v]], true, false⟩)] id (.ret (.tp [])) [(i, some (.c ⟨2, [[.rt i 2 t, v]], true, false⟩))] := by
  refine ⟨by kernel_rfl, fun N β σ F w vs hpre hid T hT hF hN H hargs => ?_⟩
  have hσ := hpre (i, _) List.mem_cons_self
  obtain ⟨u, rfl⟩ : ∃ u, vs = #[u] := Array.size_eq_one_iff.1 hargs.1
  have h0 := hargs.2 0 u _ rfl rfl
  obtain ⟨b, rfl, hb, hs⟩ := rt_inv h0
  obtain ⟨cells, e, h2, h3, h4, h4', h5⟩ := H.phys hσ hb
  obtain ⟨c0, hc0, hr0⟩ := h5 0 0 _ _ rfl rfl
  obtain ⟨c1, hc1, hr1⟩ := h5 0 1 _ _ rfl rfl
  have e0 := rel_sc hr0
  subst e0
  have hsz : cells.size = 2 := by simp only [World.shape?, h2, Option.some.injEq, Prod.mk.injEq] at hs; exact hs.2
  refine (cc_fresh_is t hl b w (blk_cell h2 hc0) hs (by simp [World.frozen?, h2])).mono ?_
  rintro e' w' ⟨rfl, rfl⟩
  rw [setCell_row _ h2]
  have R : SRel N w (own β σ) β [] β (fun _ => .tp []) σ F { tmps := #[], defers := [] } w := ⟨H, fun t => .tp #[] [] rfl (fun i u z h _ => by simp at h), Fr.refl _ _, fun _ h _ => h, hN, rfl, fun _ _ h => h⟩
  obtain ⟨R', _⟩ := R.set hσ rfl hb h2 (cells.setIfInBounds 0 (.pointer (some ⟨b, 0, none⟩))) (by simp) ⟨2, [[.rt i 2 t, v]], true, false⟩ (by simp [hsz]) (by simp) (by simp) (by
    intro p q r z hp hq
    cases p with
    | succ p => simp at hp
    | zero =>
      simp only [List.getElem?_cons_zero, Option.some.injEq] at hp
      subst hp
      match q, hq with
      | 0, hq => cases hq; exact ⟨_, by simp [hsz], .rt i 2 t b hb hs⟩
      | 1, hq => cases hq; exact ⟨c1, by simpa using hc1, hr1⟩
      | q + 2, hq => simp at hq)
  exact ⟨β, T, Nat.le_refl _, fun _ _ h => h, hrel_free R'.heap (fun _ h => h.1), .tp #[] [] rfl (fun _ _ _ h _ => by simp at h), R'.frame, R'.old⟩
theorem freeze_other (w : World) (g n b : Nat) (h : b ≠ g) : (w.drew.freeze ⟨g, 0, none⟩ n).heap[b]? = w.heap[b]? := by
  unfold World.freeze
  split
  · rfl
  · simp only [Array.getElem?_modify]
    rw [if_neg (Ne.symm h)]; rfl
theorem freeze_shape (w : World) (g n b : Nat) (s : TypeId × Nat) (h : w.shape? b = some s) : (w.drew.freeze ⟨g, 0, none⟩ n).shape? b = some s := by
  by_cases e : b = g
  · subst e
    unfold World.freeze
    split
    · exact h
    · unfold World.shape? at h ⊢
      simp only [Array.getElem?_modify, if_true]
      have h' : (match w.drew.heap[b]? with | some (.cells cells elem _) => some (elem, cells.size) | some (.view _ _) => none | _ => none) = some s ∨ True := .inr trivial
      cases hx : w.heap[b]? with
      | none => rw [hx] at h; cases h
      | some o =>
        rw [hx] at h
        have hx' : w.drew.heap[b]? = some o := hx
        rw [hx', Option.map_some]
        cases o <;> first | exact h | (rename_i c e f; obtain ⟨lo, hi⟩ := f; exact h)
  · unfold World.shape? at h ⊢
    rw [freeze_other w g n b e]; exact h
theorem bstr (i j t : Nat) (a : AV) (l : List UInt8) (h0 : l ≠ []) (hlen : l.length ≤ 4611686018427387904) (id : Nat) :
    ConW Tryd.prog 49 [.rt i 2 t] [(i, .c ⟨2, [[a, .ob j l.length]], true, false⟩), (j, .c ⟨1, byteRows l, true, true⟩)] id (.ret (.s l)) [(j, none)] := by
  refine ⟨by kernel_rfl, fun N β σ F w vs hpre hid T hT hF hN H hargs => ?_⟩
  have hσ := hpre (i, _) List.mem_cons_self
  have hj := hpre (j, _) (List.mem_cons_of_mem _ List.mem_cons_self)
  obtain ⟨u, rfl⟩ : ∃ u, vs = #[u] := Array.size_eq_one_iff.1 hargs.1
  have hx0 := hargs.2 0 u _ rfl rfl
  obtain ⟨b, rfl, hb, hs⟩ := rt_inv hx0
  obtain ⟨cells, e, h2, h3, h4, h4', h5⟩ := H.phys hσ hb
  obtain ⟨c1, hc1, hr1⟩ := h5 0 1 _ _ rfl rfl
  obtain ⟨g, cap, n, rfl, hb1, hl, hs1, hn⟩ := ob_inv hr1
  have hbj : β j = some g := hb1
  obtain ⟨cellsj, ej, k2, k3, k4, k4', k5⟩ := H.phys hj hbj
  refine (bstr_is b g cap (.pointer none) l h0 hl n hn hlen w (blk_cell h2 hc1) hs1 (fun q x hq => ?_)).mono ?_
  · obtain ⟨u, hu, hr⟩ := k5 q 0 [.sc (.int .u8 x.toNat)] (.sc (.int .u8 x.toNat)) (by simp only [byteRows, List.getElem?_map, hq, Option.map_some]) rfl
    rw [rel_sc hr] at hu
    rw [add_none, Nat.zero_add]
    exact blk_cell k2 (by simpa using hu)
  · rintro e' w' ⟨rfl, rfl⟩
    obtain ⟨g1, g2, g3⟩ := hrel_drop (w' := w.drew.freeze ⟨g, 0, none⟩ l.length) H hj rfl hbj (fun b hb => freeze_other w g _ b hb) (fun b s hs => freeze_shape w g _ b s hs)
    have hos : (w.drew.freeze ⟨g, 0, none⟩ l.length).os = w.os ∧ (w.drew.freeze ⟨g, 0, none⟩ l.length).tape = w.tape ∧ (w.drew.freeze ⟨g, 0, none⟩ l.length).output = w.output ∧ (w.drew.freeze ⟨g, 0, none⟩ l.length).heap.size = w.heap.size := by
      unfold World.freeze
      split
      · exact ⟨rfl, rfl, rfl, rfl⟩
      · exact ⟨rfl, rfl, rfl, by simp⟩
    exact ⟨β, T, Nat.le_refl _, fun _ _ h => h, hrel_free g1 (fun _ h => h.1), .s _ _ (by simp) (by omega),
      ⟨hos.1, hos.2.1, hos.2.2.1, Nat.le_of_eq hos.2.2.2.symm, fun b _ hb => freeze_other w g _ b (fun e => hb (e ▸ ⟨j, _, hj, rfl, hbj⟩)), fun b s hs => freeze_shape w g _ b s hs⟩, fun b h _ => g3 b h⟩
end Go.Proofs.YtodoejfkjimeaaaDoor
