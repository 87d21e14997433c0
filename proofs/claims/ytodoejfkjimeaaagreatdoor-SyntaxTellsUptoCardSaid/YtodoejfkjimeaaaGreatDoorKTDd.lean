/- Packed by a program of this repo: Dd De. -/
import Derived.Test.YtodoejfkjimeaaaGreatDoorKTCx
set_option linter.unusedSimpArgs false
set_option linter.unusedVariables false
set_option maxRecDepth 100000
namespace Go.Proofs.YtodoejfkjimeaaaGreatDoor
open Go Go.RowKit Am
attribute [local go_sem] wrapI wrapB upd_is upd_not Nat.zero_add Nat.add_zero
attribute [local go_sem_proc] Nat.reduceAdd Nat.reduceSub Nat.reduceMul Nat.reduceLeDiff Nat.reduceEqDiff Int.reduceAdd Int.reduceSub Int.reduceMul Int.reduceNeg Int.reduceLT Int.reduceLE Int.reduceEq Int.reduceToNat reduceCtorEq reduceIte

theorem callD_con {P : Program} {g : FuncId} {caps args cs : List AV} {I : List Nat} {r : AEnd} {σ : Hp} {id : Nat} {K : AEnd → Wr → List Nat → Prop} (h : Con P g cs r) (hb : brwL σ 6 (args ++ caps) = some (cs, I))
    (hk : K r (wrOf r σ I) I) : callD P (.fn g caps) args σ id K := .c ⟨cs, I, r, hb, h, by cases r <;> exact hk⟩
theorem callD_con0 {P : Program} {g : FuncId} {caps args cs : List AV} {r : AEnd} {σ : Hp} {id : Nat} {K : AEnd → Wr → List Nat → Prop} (h : Con P g cs r) (hb : brwL σ 6 (args ++ caps) = some (cs, []))
    (hk : K r [] []) : callD P (.fn g caps) args σ id K := by
  refine callD_con h hb ?_
  cases r with
  | ret v => by_cases hs : scal v = true <;> simpa [wrOf, hs, frz] using hk
  | pan x => exact hk
inductive Tr : Ep → Prop
  | mk (e : Ep) (h : ∀ a ∈ e.args, Tr a) : Tr e
theorem tr_all (e : Ep) : Tr e := by
  refine Ep.rec (motive_1 := Tr) (motive_2 := fun l => ∀ a ∈ l, Tr a) ?_ ?_ ?_ e
  · intro op kind n text table name args h; exact .mk _ h
  · intro a h; cases h
  · intro a l ha hl b hb
    rcases List.mem_cons.1 hb with rfl | hb
    · exact ha
    · exact hl b hb
mutual
def sameF : Ep → Ep → Bool
  | .mk op kind n text table name args, b => (decide (op = b.op) && (decide (kind = b.kind) && decide (n = b.n) && decide (text = b.text))) && decide (table = b.table) && decide (name = b.name) && sameL args b.args
def sameL : List Ep → List Ep → Bool
  | [], [] => true
  | a :: l, b :: m => sameF a b && sameL l m
  | _, _ => false
end
theorem sameF_eq (a b : Ep) : sameF a b = ((decide (a.op = b.op) && (decide (a.kind = b.kind) && decide (a.n = b.n) && decide (a.text = b.text))) && decide (a.table = b.table) && decide (a.name = b.name) && sameL a.args b.args) := by
  cases a; rw [sameF]; rfl
theorem sameF_iff (a : Ep) : ∀ b, sameF a b = true ↔ a = b := by
  refine Ep.rec (motive_1 := fun a => ∀ b, sameF a b = true ↔ a = b) (motive_2 := fun l => ∀ m, sameL l m = true ↔ l = m) ?_ ?_ ?_ a
  · intro op kind n text table name args ih b
    obtain ⟨op', kind', n', text', table', name', args'⟩ := b
    rw [sameF_eq]
    simp only [Ep.op, Ep.kind, Ep.n, Ep.text, Ep.table, Ep.name, Ep.args, Bool.and_eq_true, decide_eq_true_eq, ih, Ep.mk.injEq]
    constructor
    · rintro ⟨⟨⟨⟨a, ⟨b, c⟩, d⟩, e⟩, f⟩, g⟩; exact ⟨of_decide_eq_true a, of_decide_eq_true b, of_decide_eq_true c, of_decide_eq_true d, of_decide_eq_true e, of_decide_eq_true f, g⟩
    · rintro ⟨a, b, c, d, e, f, g⟩; exact ⟨⟨⟨⟨decide_eq_true a, ⟨decide_eq_true b, decide_eq_true c⟩, decide_eq_true d⟩, decide_eq_true e⟩, decide_eq_true f⟩, g⟩
  · intro m; cases m <;> simp [sameL]
  · intro a l iha ihl m
    cases m with
    | nil => simp [sameL]
    | cons b m => simp [sameL, iha, ihl]
theorem sameL_len : ∀ {l m : List Ep}, l.length ≠ m.length → sameL l m = false
  | [], [], h => absurd rfl h
  | [], _ :: _, _ => rfl
  | _ :: _, [], _ => rfl
  | a :: l, b :: m, h => by
    simp only [sameL]
    rw [sameL_len (l := l) (m := m) (by simpa using h), Bool.and_false]
theorem sameL_take {l m : List Ep} {i : Nat} {a b : Ep} (ha : l[i]? = some a) (hb : m[i]? = some b) : sameL (l.take (i + 1)) (m.take (i + 1)) = (sameL (l.take i) (m.take i) && sameF a b) := by
  induction i generalizing l m with
  | zero =>
    cases l with
    | nil => cases ha
    | cons x l => cases m with
      | nil => cases hb
      | cons y m => cases ha; cases hb; simp [sameL]
  | succ i ih =>
    cases l with
    | nil => cases ha
    | cons x l => cases m with
      | nil => cases hb
      | cons y m =>
        simp only [List.take_succ_cons, sameL]
        rw [ih (by simpa using ha) (by simpa using hb), Bool.and_assoc]
theorem sameL_no {i : Nat} : ∀ {l m : List Ep}, sameL (l.take i) (m.take i) = false → sameL l m = false := by
  induction i with
  | zero => intro l m h; simp [sameL] at h
  | succ i ih =>
    intro l m h
    cases l with
    | nil => cases m with
      | nil => simp [sameL] at h
      | cons y m => rfl
    | cons x l => cases m with
      | nil => rfl
      | cons y m =>
        simp only [List.take_succ_cons, sameL] at h ⊢
        cases hx : sameF x y with
        | false => rfl
        | true => rw [hx, Bool.true_and] at h; rw [ih h, Bool.and_false]
set_option maxHeartbeats 4000000 in
theorem sameL_con (l m : List Ep) (h : ∀ a ∈ l, ∀ b, Con Tryz.prog 37 [.ag (encE a), .ag (encE b)] (.ret (.sc (.bool (sameF a b))))) :
    Con Tryz.prog 36 [.tr (l.map encE), .tr (m.map encE)] (.ret (.sc (.bool (sameL l m)))) := by
  refine con_of (by_plain_SameExprs ?_)
  generalize hR : RC _ = R
  have HR := Lib.hid hR; clear hR
  have IH := Lib.hid h; clear h
  by_cases h1 : (l.length : Int) = m.length
  · simp (maxSteps:=1000000) (disch:=omega) only [sh_plain_SameExprs,go_sem, *]
    intro _ _
    refine LOOP_listM l (fun i s σ' n' => (∃ a b c, s = [a, b, c, .sc (.int .i64 i)]) ∧ sameL (l.take i) (m.take i) = true) (.refl ⟨⟨_, _, _, rfl⟩, rfl⟩) ?_ ?_
    · rintro i x K s' σ' n2 hx hi hi' hn ⟨⟨a, b, c, rfl⟩, hal⟩ hK
      have HK := Lib.hid hK; clear hK
      have HA := Lib.hid hal; clear hal
      obtain ⟨y, hy⟩ : ∃ y, m[i]? = some y := ⟨m[i]'(by omega), List.getElem?_eq_getElem _⟩
      have HI := IH.out x (List.mem_of_getElem? hx) y
      have hi2 : (i : Int) < m.length := by omega
      have HT := Lib.hid (sameL_take hx hy)
      have HN := Lib.hid (sameL_no (i := i + 1) (l := l) (m := m))
      simp (maxSteps:=1000000) (disch:=omega) only [lb_plain_SameExprs2,go_sem, *]
      refine callD_conS (I := []) HI (by simp only [brwL_cons, brwL_nil, brw_ag, brw_tr, brw_sc, encE_brw, List.append_nil, Option.map_some]) rfl ?_
      cases hq : sameF x y with
      | true =>
        have HQ := Lib.hid hq; clear hq
        simp (maxSteps:=1000000) (disch:=omega) only [go_sem, *]
        refine fun n_ hn_ => HK.out _ _ _ (.refl ⟨⟨_, _, _, rfl⟩, by rw [HT.out, HA.out, HQ.out]; rfl⟩)
      | false =>
        have HQ := Lib.hid hq; clear hq
        simp (maxSteps:=1000000) (disch:=omega) only [go_sem, *]
        intro n_ hn_
        rw [← HR.out, HN.out (by rw [HT.out, HQ.out, Bool.and_false])]; exact RC_ret rfl rfl
    · rintro K s' σ' n2 hn ⟨⟨a, b, c, rfl⟩, hal⟩
      have hlm : l.length = m.length := by omega
      rw [List.take_length, List.take_of_length_le (by omega)] at hal
      have HA := Lib.hid hal; clear hal hlm
      simp (maxSteps:=1000000) (disch:=omega) only [lb_plain_SameExprs2,Int.lt_irrefl,go_sem, *]
      rw [← HR.out, HA.out]; exact RC_ret rfl rfl
  · have hf := Lib.hid (sameL_len (l := l) (m := m) (by omega))
    simp (maxSteps:=1000000) (disch:=omega) only [sh_plain_SameExprs,go_sem, *]
    intro _ _
    rw [← HR.out, hf.out]; exact RC_ret rfl rfl
set_option maxHeartbeats 4000000 in
theorem same_con (a b : Ep) : Con Tryz.prog 37 [.ag (encE a), .ag (encE b)] (.ret (.sc (.bool (sameF a b)))) := by
  have htr := tr_all a
  induction htr generalizing b with
  | mk a h ih =>
    refine con_of (by_plain_SameExpr ?_)
    generalize hR : RC _ = R
    have HR := Lib.hid hR; clear hR
    have HL := Lib.hid (sameL_con a.args b.args ih); clear ih h
    have HF := Lib.hid (sameF_eq a b)
    by_cases h1 : a.op = b.op
    · skip
      by_cases h2 : a.kind = b.kind
      · skip
        by_cases h3 : a.n = b.n
        · skip
          by_cases h4 : a.text = b.text
          · skip
            by_cases h5 : a.table = b.table
            · skip
              by_cases h6 : a.name = b.name
              · skip
                have hf : sameF a b = sameL a.args b.args := by rw [HF.out]; simp [h1, h2, h3, h4, h5, h6]
                have HF' := Lib.hid hf; clear hf HF
                simp (maxSteps:=1000000) (disch:=omega) only [sh_plain_SameExpr,encE_eq,Bool.and_false,Bool.false_and,Bool.and_true,Bool.true_and,Bool.and_self,go_sem, *]
                refine CALL_con0 HL.out rfl ?_
                simp (maxSteps:=1000000) (disch:=omega) only [go_sem, *]
                rw [← HR.out, HF'.out]; exact RC_ret rfl rfl
              · have hf : sameF a b = false := by rw [HF.out]; simp [h6]
                have HF' := Lib.hid hf; clear hf HF
                simp (maxSteps:=1000000) (disch:=omega) only [sh_plain_SameExpr,encE_eq,Bool.and_false,Bool.false_and,Bool.and_true,Bool.true_and,Bool.and_self,go_sem, *]
                rw [← HR.out, HF'.out]; exact RC_ret rfl rfl
            · have hf : sameF a b = false := by rw [HF.out]; simp [h5]
              have HF' := Lib.hid hf; clear hf HF
              simp (maxSteps:=1000000) (disch:=omega) only [sh_plain_SameExpr,encE_eq,Bool.and_false,Bool.false_and,Bool.and_true,Bool.true_and,Bool.and_self,go_sem, *]
              rw [← HR.out, HF'.out]; exact RC_ret rfl rfl
          · have hf : sameF a b = false := by rw [HF.out]; simp [h4]
            have HF' := Lib.hid hf; clear hf HF
            simp (maxSteps:=1000000) (disch:=omega) only [sh_plain_SameExpr,encE_eq,Bool.and_false,Bool.false_and,Bool.and_true,Bool.true_and,Bool.and_self,go_sem, *]
            rw [← HR.out, HF'.out]; exact RC_ret rfl rfl
        · have hf : sameF a b = false := by rw [HF.out]; simp [h3]
          have HF' := Lib.hid hf; clear hf HF
          simp (maxSteps:=1000000) (disch:=omega) only [sh_plain_SameExpr,encE_eq,Bool.and_false,Bool.false_and,Bool.and_true,Bool.true_and,Bool.and_self,go_sem, *]
          rw [← HR.out, HF'.out]; exact RC_ret rfl rfl
      · have hf : sameF a b = false := by rw [HF.out]; simp [h2]
        have HF' := Lib.hid hf; clear hf HF
        simp (maxSteps:=1000000) (disch:=omega) only [sh_plain_SameExpr,encE_eq,Bool.and_false,Bool.false_and,Bool.and_true,Bool.true_and,Bool.and_self,go_sem, *]
        rw [← HR.out, HF'.out]; exact RC_ret rfl rfl
    · have hf : sameF a b = false := by rw [HF.out]; simp [h1]
      have HF' := Lib.hid hf; clear hf HF
      have hd : decide (a.op = b.op) = false := decide_eq_false h1
      clear h1 HL
      simp only [sh_plain_SameExpr, encE_eq, go_sem, upd_is, upd_not, hd, reduceCtorEq, reduceIte, Nat.reduceAdd, Nat.reduceEqDiff]
      rw [← HR.out, HF'.out]; exact RC_ret rfl rfl
end Go.Proofs.YtodoejfkjimeaaaGreatDoor

set_option linter.unusedSimpArgs false
set_option linter.unusedVariables false
set_option maxRecDepth 100000
namespace Go.Proofs.YtodoejfkjimeaaaGreatDoor
open Go Go.RowKit Am

theorem brw_all {σ : Hp} {d i k len : Nat} {rows : List (List AV)} {w : Bool} (h : σ i = some (.c ⟨k, rows, w, true⟩)) (hl : rows.length = len) (hk : 0 < k) : brw σ (d + 1) (.ow i k 0 len) = some (.tr rows, [i]) := by
  subst hl
  rw [brw_ow', h]
  simp only
  rw [if_pos ⟨trivial, trivial, by omega, hk⟩, List.drop_zero, List.take_of_length_le (Nat.le_refl _)]
theorem encX_len (x : Ix) : (encX x).length = 2 := rfl
theorem encC_all (l : List Cl) : ((l.map encC).all fun r => r.length == 3) = true := all_enc encC 3 encC_len l
theorem encX_all (l : List Ix) : ((l.map encX).all fun r => r.length == 2) = true := all_enc encX 2 encX_len l
theorem encT_all (l : List Tb) : ((l.map encT).all fun r => r.length == 4) = true := all_enc encT 4 encT_len l
theorem encC_leafs (l : List Cl) : ((l.map encC).all fun r => r.all leafok) = true := by simp [encC, leafok]
theorem encX_leafs (l : List Ix) : ((l.map encX).all fun r => r.all leafok) = true := by simp [encX, leafok]
theorem encC_leaf (c : Cl) : (encC c).all leafok = true := rfl
theorem encX_leaf (x : Ix) : (encX x).all leafok = true := rfl
theorem encX_clo (x : Ix) : (encX x).all clo = true := rfl
theorem encX_take (x : Ix) : (encX x).take 2 = encX x := rfl
theorem encX_drop (x : Ix) : (encX x).drop 2 = [] := rfl
theorem encC_drop (x : Cl) : (encC x).drop 3 = [] := rfl
theorem encC_take (x : Cl) : (encC x).take 3 = encC x := rfl
theorem encT_take (x : Tb) : (encT x).take 4 = encT x := rfl
theorem encT_drop (x : Tb) : (encT x).drop 4 = [] := rfl
attribute [go_sem] encX_take encX_drop encC_take encC_drop encT_take encT_drop
theorem encT_leafs (l : List Tb) : ((l.map encT).all fun r => r.all leafok) = true := by simp [encT, leafok]
theorem encT_leaf (t : Tb) : (encT t).all leafok = true := rfl
theorem encT_clo (t : Tb) : (encT t).all clo = true := rfl
theorem encT_brw (σ : Hp) (d : Nat) (t : Tb) : brwL σ d (encT t) = some (encT t, []) := by
  simp only [brwL_cons, brwL_nil, brw_sc, brw_tr, encT, brw_s, List.append_nil]
theorem encX_brw (σ : Hp) (d : Nat) (x : Ix) : brwL σ d (encX x) = some (encX x, []) := by
  simp only [brwL_cons, brwL_nil, brw_sc, encX, brw_s, List.append_nil]
attribute [go_sem] encC_leaf encX_leaf encX_clo encX_len encC_all encX_all encT_all encC_leafs encX_leafs encT_leafs encT_leaf encT_clo encT_brw encX_brw
structure TBd (t : Tb) : Prop where
  col : t.columns.length ≤ 1048576
  ind : t.indexes.length ≤ 1048576
end Go.Proofs.YtodoejfkjimeaaaGreatDoor
