/- The abstract machine: one operation of a region, and regions in the text's order, are sound. -/
import Derived.Test.YtlhnncmflnjinaaMg
set_option linter.unusedSimpArgs false
set_option linter.unusedVariables false
namespace Go.Proofs.Ytlhnncmflnjinaa.Am
open Go Go.RowKit

section
variable {P : Program} {T : Nat} {U : Nat → Prop} {N : Nat → Prop} {w0 : World} {M0 : Nat → Prop} {β0 : Nat → Option Nat} {ds : List Deferred} {β : Nat → Option Nat} {fr : Regs} {σ : Hp} {F : Nat → Prop} {a : Act} {w : World}

theorem call_run (R : SRel N w0 M0 β0 ds β fr σ F a w) {o : Oper} {c : Call} {f : Operand} {g : FuncId} {caps : List AV} (ho : o.op = .call c) (hc : c.callee = .value f) (hf : (cOpd f).get fr = .fn g caps) (hgo : goFn P g = true) :
    ∃ vs : Array Value, (execOp a.eval o).run P w = .ok (.enter g vs) w ∧ Cells (live N β σ) w β vs ((c.args.toList.map cOpd).map (Opd.get fr) ++ caps) := by
  have hfr := rel_get R f
  rw [hf] at hfr
  generalize hfv : a.eval f = fv at hfr
  cases hfr with
  | fn _ vs _ hn hr =>
    refine ⟨c.args.map a.eval ++ vs, by simp [execOp, ho, resolve, hc, hfv, Deferred.ofValue, invoke, run_callFunc hgo], by simp [hn], fun i u z hu hz => ?_⟩
    rw [List.getElem?_append] at hz
    rw [Array.getElem?_append] at hu
    simp only [List.length_map, Array.length_toList, Array.size_map] at hz hu
    split at hz
    · rename_i hi
      rw [if_pos hi] at hu
      rw [Array.getElem?_map] at hu
      rw [List.map_map, List.getElem?_map, Array.getElem?_toList] at hz
      cases hc' : c.args[i]? with
      | none => simp [hc'] at hu
      | some y =>
        rw [hc', Option.map_some] at hu hz
        cases hu; cases hz
        exact rel_get R y
    · rename_i hi
      rw [if_neg hi] at hu
      exact hr _ _ _ hu hz
theorem live_lt (R : SRel N w0 M0 β0 ds β fr σ F a w) : ∀ b, live N β σ b → b < w.heap.size := by
  rintro b (h | ⟨i, x, h1, _, h3⟩)
  · exact Nat.lt_of_lt_of_le (R.away.1 b h) R.frame.size
  · exact R.heap.lt h3 (by simp [h1])
theorem aw_now (R : SRel N w0 M0 β0 ds β fr σ F a w) : Aw N (own β σ) w := by
  obtain ⟨h1, h2, h3, m, h4⟩ := R.away
  have hlt : GB < w0.heap.size := World.block_lt_of_cell? w0 _ h4
  exact ⟨fun b hb => Nat.lt_of_lt_of_le (h1 b hb) R.frame.size, h2, fun h => h3 (R.old _ h hlt), m, by simpa only [World.cell?, R.frame.block GB hlt h3] using h4⟩
theorem aw_live (R : SRel N w0 M0 β0 ds β fr σ F a w) : Aw (live N β σ) (live N β σ) w := by
  obtain ⟨_, h2, h3, h4⟩ := aw_now R
  have h : ¬ live N β σ GB := fun h => h.elim h2 h3
  exact ⟨live_lt R, h, h, h4⟩
theorem wp_call {o : Oper} {g : FuncId} {vs : Array Value} (hrun : (execOp a.eval o).run P w = .ok (.enter g vs) w) {Post : Ending → World → Prop} (hcalls : Calls P g vs w Post) {next : Act → World → Prop} {Q : Exit → Act → World → Prop}
    (hret : ∀ u w', Post (.returned u) w' → next (a.put o.dst u) w') (hpan : ∀ ch w', Post (.panicked ch) w' → Q (.panic ch) a w') (hout : ∀ w', ¬ Post .outgrown w') : o.wp P a w next Q := by
  unfold Oper.wp
  rw [hrun, Oper.upon_enter]
  refine hcalls.mono ?_
  intro e w' he
  cases e with
  | returned u => exact hret u w' he
  | panicked ch => exact hpan ch w' he
  | outgrown => exact absurd he (hout w')
/-- what a call leads to -/
structure Onward (P : Program) (o : Oper) (N : Nat → Prop) (w0 : World) (M0 : Nat → Prop) (β0 : Nat → Option Nat) (ds : List Deferred) (fr : Regs) (a : Act) (next : Act → World → Prop) (Q : Exit → Act → World → Prop) (σ' : Hp) (F' : Nat → Prop) (r : AEnd) : Prop where
  ret : ∀ v, r = .ret v → ∀ u w' β', SRel N w0 M0 β0 ds β' fr σ' F' a w' → Rel (live N β' σ') w' β' u v → next (a.put o.dst u) w'
  pan : ∀ x, r = .pan x → ∀ w' β', SRel N w0 M0 β0 ds β' fr σ' F' a w' → Q (.panic [{ v := x, recovered := false }]) a w'
theorem callC_sound (R : SRel N w0 M0 β0 ds β fr σ F a w) {o : Oper} {c : Call} {f : Operand} (ho : o.op = .call c) (hc : c.callee = .value f) {K : AEnd → Wr → List Nat → Prop} {next : Act → World → Prop} {Q : Exit → Act → World → Prop}
    (h : callC P ((cOpd f).get fr) ((c.args.toList.map cOpd).map (Opd.get fr)) σ K) (hK : ∀ r wr I, K r wr I → (∀ p ∈ wr, p.1 ∈ I ∧ (σ p.1).isSome) → Onward P o N w0 M0 β0 ds fr a next Q (applyW σ wr) F r) : o.wp P a w next Q := by
  unfold callC at h
  split at h
  · rename_i g caps hf
    obtain ⟨cs, I, r, hb, hcon, hk⟩ := h
    obtain ⟨vs, hrun, hcells⟩ := call_run R ho hc hf hcon.1
    obtain ⟨g1, g2⟩ := brwL_get σ 3 _ cs I hb
    have hIs := brwL_some hb
    obtain ⟨l1, l2⟩ := frz_off R.heap hIs
    have R1 := (R.less (frz_less σ I)).1
    have hargs : Cells (live N β (applyW σ (frz σ I))) w nob vs cs := by
      refine ⟨by rw [g1]; exact hcells.1, fun i u z hu hz => ?_⟩
      have hlt := (List.getElem?_eq_some_iff.1 hz).1
      have hx : ((c.args.toList.map cOpd).map (Opd.get fr) ++ caps)[i]? = some (((c.args.toList.map cOpd).map (Opd.get fr) ++ caps)[i]'(by omega)) := List.getElem?_eq_getElem (by omega)
      generalize ((c.args.toList.map cOpd).map (Opd.get fr) ++ caps)[i]'(by omega) = x at hx
      obtain ⟨c', J, a1, a2, a3⟩ := g2 i x hx
      rw [hz] at a1; cases a1
      exact brw_rel R.heap l1 3 x z J u a2 (hcells.2 i u x hu hx) (fun j hj => l2 j (a3 j hj))
    have hMlt : Aw (live N β (applyW σ (frz σ I))) (live N β (applyW σ (frz σ I))) w := ⟨fun b hb => live_lt R b (l1 b hb), fun hb => (aw_live R).2.1 (l1 _ hb), fun hb => (aw_live R).2.1 (l1 _ hb), (aw_live R).2.2.2⟩
    have hids : ∀ p ∈ frz σ I, p.1 ∈ I ∧ (σ p.1).isSome := by
      intro p hp
      have : p.1 ∈ I := by
        clear hcells hargs hk g1 g2 hIs l1 l2 R1 hb hMlt
        induction I with
        | nil => cases hp
        | cons i I ih =>
          simp only [frz, List.mem_cons] at hp
          rcases hp with rfl | hp
          · exact List.mem_cons_self
          · exact List.mem_cons_of_mem _ (ih hp)
      exact ⟨this, hIs _ this⟩
    have hon := hK _ _ _ hk (fun p hp => by
      cases r with
      | pan x => cases hp
      | ret v =>
        simp only at hp
        split at hp
        · cases hp
        · exact hids p hp)
    refine wp_call hrun (hcon.2 _ w _ hMlt hargs) ?_ ?_ (fun w' he => by cases r <;> exact he.1.elim)
    · rintro u w' ⟨he, hfrm⟩
      cases r with
      | pan x => exact he.elim
      | ret v =>
        simp only at hon
        have Rw : ∀ {σ1}, SRel N w0 M0 β0 ds β fr σ1 F a w → SRel N w0 M0 β0 ds β fr σ1 F a w' := fun R => R.world hfrm.os hfrm.tape hfrm.output hfrm.size (fun b hb => hfrm.block b hb (fun h => h))
        by_cases hs : scal v = true
        · simp only [hs, if_true, applyW] at hon
          exact hon.ret v rfl u w' β (Rw R) (scal_rel he hs)
        · simp only [hs] at hon
          exact hon.ret v rfl u w' β (Rw R1) (Rel.lift he)
    · rintro ch w' ⟨he, hfrm⟩
      cases r with
      | ret v => exact he.elim
      | pan x =>
        have : ch = [{ v := x, recovered := false }] := he
        subst this
        exact hon.pan x rfl w' β (R.world hfrm.os hfrm.tape hfrm.output hfrm.size (fun b hb => hfrm.block b hb (fun h => h)))
  · exact h.elim
theorem callW_sound (R : SRel N w0 M0 β0 ds β fr σ F a w) {o : Oper} {c : Call} {f : Operand} {id : Nat} {tl : Nat} (hid : ∀ j, id ≤ j → j < id + 16 → F j) (htl : id + 16 ≤ tl) (hB : ∀ j, tl ≤ j → F j) (ho : o.op = .call c) (hc : c.callee = .value f) {K : AEnd → Wr → List Nat → Prop} {next : Act → World → Prop} {Q : Exit → Act → World → Prop}
    (h : callW P ((cOpd f).get fr) ((c.args.toList.map cOpd).map (Opd.get fr)) σ id K) (hK : ∀ r wr I, K r wr I → ∀ tl', tl ≤ tl' → Onward P o N w0 M0 β0 ds fr a next Q (applyW σ wr) (fun j => F j ∧ ¬ (id ≤ j ∧ j < id + 16) ∧ (j < tl ∨ tl' ≤ j)) r) : o.wp P a w next Q := by
  unfold callW at h
  split at h
  · rename_i g caps hf
    obtain ⟨pre, r, wr, hpre, hcon, hk⟩ := h
    obtain ⟨vs, hrun, hcells⟩ := call_run R ho hc hf hcon.1
    have hon := hK _ _ _ hk
    refine wp_call hrun (hcon.2 N β σ F w vs hpre hid tl htl hB (aw_now R) R.heap hcells) ?_ ?_ ?_
    · rintro u w' ⟨β', tl', htl', hl⟩
      have hon := hon tl' htl'
      have R' := R.after hl
      obtain ⟨_, _, he, _, _⟩ := hl
      cases r with
      | pan x => exact he.elim
      | ret v => exact hon.ret v rfl u w' β' R' he
    · rintro ch w' ⟨β', tl', htl', hl⟩
      have hon := hon tl' htl'
      have R' := R.after hl
      obtain ⟨_, _, he, _, _⟩ := hl
      cases r with
      | ret v => exact he.elim
      | pan x =>
        have : ch = [{ v := x, recovered := false }] := he
        subst this
        exact hon.pan x rfl w' β' R'
    · rintro w' ⟨β', _, _, _, _, he, _⟩
      cases r <;> exact he.elim
  · exact h.elim
theorem callH_sound {n : Nat} (R : SRel N w0 M0 β0 ds β fr σ (Fn T U n) a w) (hT : T ≤ n) {o : Oper} {c : Call} {f : Operand} (ho : o.op = .call c) (hc : c.callee = .value f) {K : AEnd → Hp → Nat → Prop} {next : Act → World → Prop} {Q : Exit → Act → World → Prop}
    (h : callH P ((cOpd f).get fr) ((c.args.toList.map cOpd).map (Opd.get fr)) σ n K) (hK : ∀ r σ' n', K r σ' n' → n ≤ n' → Onward P o N w0 M0 β0 ds fr a next Q σ' (Fn T U n') r) : o.wp P a w next Q := by
  unfold callH at h
  split at h
  · rename_i g caps hf
    obtain ⟨RR, hcon, hk⟩ := h
    obtain ⟨vs, hrun, hcells⟩ := call_run R ho hc hf hcon.1
    refine wp_call hrun (hcon.2 N T U β w vs hT (aw_now R) R.heap hcells) ?_ ?_ ?_
    · rintro u w' ⟨β', r, σ', n', hr, hn, hl⟩
      have R' := R.after hl
      have hon := hK _ _ _ (hk r σ' n' hr hn) hn
      obtain ⟨_, _, he, _, _⟩ := hl
      cases r with
      | pan x => exact he.elim
      | ret v => exact hon.ret v rfl u w' β' R' he
    · rintro ch w' ⟨β', r, σ', n', hr, hn, hl⟩
      have R' := R.after hl
      have hon := hK _ _ _ (hk r σ' n' hr hn) hn
      obtain ⟨_, _, he, _, _⟩ := hl
      cases r with
      | ret v => exact he.elim
      | pan x =>
        have : ch = [{ v := x, recovered := false }] := he
        subst this
        exact hon.pan x rfl w' β' R'
    · rintro w' ⟨β', r, σ', n', hr, _, _, _, he, _⟩
      cases r <;> exact he.elim
  · exact h.elim
/-- one operation -/
theorem step_sound {S : Nat} {so : SOper} {o : Oper} {n : Nat} {K : AV → Hp → Nat → Prop} {Kp : Value → Kn} {next : Act → World → Prop} {Q : Exit → Act → World → Prop} (R : SRel N w0 M0 β0 ds β fr σ (Fn T U n) a w) (hT : T ≤ n) (hS : a.tmps.size = S) (hd : ∀ t, o.dst = some t → t < a.tmps.size)
    (hcop : cmp P o.op = some so.op) (htag : okTag o.op so.op = true)
    (hK : ∀ β' v σ' n' u w', n ≤ n' → SRel N w0 M0 β0 ds β' (put fr o.dst v) σ' (Fn T U n') (a.put o.dst u) w' → K v σ' n' → next (a.put o.dst u) w')
    (hKp : ∀ x β fr σ n a w, T ≤ n → a.tmps.size = S → SRel N w0 M0 β0 ds β fr σ (Fn T U n) a w → Kp x fr σ n → Q (.panic [{ v := x, recovered := false }]) a w)
    (h : step P so.op fr σ n Kp K) : o.wp P a w next Q := by
  have hn1 : ∀ i, Fn T U (n + 16) i → Fn T U n i ∧ i ≠ n := fun i hi => by
    rcases hi with h | ⟨h1, h2⟩
    · exact ⟨.inl (by omega), by omega⟩
    · exact ⟨.inr ⟨h1, h2⟩, by omega⟩
  have onw : ∀ σ' F' n' r, n ≤ n' → onEnd r (fun v => K v σ' n') (fun x => Kp x fr σ' n') → (∀ i, Fn T U n' i → F' i) → Onward P o N w0 M0 β0 ds fr a next Q σ' F' r := by
    intro σ' F' n' r hnn hr hF
    constructor
    · rintro v rfl u w' β' R' hu
      exact hK β' v σ' n' u w' hnn ((R'.put o.dst hd hu).free hF) hr
    · rintro x rfl w' β' R'
      exact hKp x β' fr σ' n' a w' (by omega) hS (R'.free hF) hr
  have plain : (if quiet so.op = true then bindP (semR σ (Opd.get fr) so.op) (fun v => K v σ n) else bindS (semH σ n (Opd.get fr) so.op) σ n K) → o.wp P a w next Q := by
    intro h
    split at h
    · rename_i hq
      cases hs : semR σ (Opd.get fr) so.op with
      | none => rw [hs] at h; exact h.elim
      | some v =>
        rw [hs] at h
        obtain ⟨u, hrun, hu⟩ := soundR R hcop hq hs
        unfold Oper.wp
        rw [hrun]
        exact hK β v σ n u w (Nat.le_refl _) (R.put o.dst hd hu) h
    · cases hs : semH σ n (Opd.get fr) so.op with
      | none => rw [hs] at h; exact h.elim
      | some vw =>
        obtain ⟨v, wr⟩ := vw
        rw [hs] at h
        obtain ⟨u, w', β', g1, g2, g3, g4⟩ := soundH R (.inl (Nat.le_refl n)) hcop hs
        have R' := (g3.put o.dst hd g4).free (F' := Fn T U (n + 16)) hn1
        have := hK β' v _ (n + 16) u w' (by omega) R' h
        unfold Oper.wp
        rcases g1 with g1 | ⟨g1, rfl⟩
        · rw [g1]; exact this
        · rw [g1]; exact this
  cases hop : so.op with
  | call f args =>
    rw [hop] at hcop htag h
    obtain ⟨c, f', hoc, hcal, rfl, rfl⟩ := cmp_call hcop htag
    simp only [step] at h
    rcases h with h | h | h
    · exact callC_sound R hoc hcal h (fun r wr I hk _ => onw _ _ n r (Nat.le_refl _) hk (fun i hi => hi))
    · exact callW_sound R (fun j h1 _ => .inl h1) (Nat.le_refl (n + 16)) (fun j hj => .inl (by omega)) hoc hcal h (fun r wr I hk tl' htl' => onw _ _ tl' r (by omega) (hk tl' htl') (fun i hi => by
        rcases hi with h | ⟨h1, h2⟩
        · exact ⟨.inl (by omega), by omega, .inr h⟩
        · exact ⟨.inr ⟨h1, h2⟩, by omega, .inl (by omega)⟩))
    · exact callH_sound R hT hoc hcal h (fun r σ' n' hk hn => onw _ _ n' r hn hk (fun i hi => hi))
  | pan x =>
    rw [hop] at hcop htag h
    obtain ⟨x', hoc, rfl⟩ := cmp_pan hcop htag
    simp only [step, PAN] at h
    split at h
    · rename_i t v hx
      have hr := rel_get R x'
      rw [hx] at hr
      have hv := rel_sc hr
      unfold Oper.wp
      have : (execOp a.eval o).run P w = .halt (.panic (.iface t v)) w := by simp [execOp, hoc, hv, Instr.panic, goPanic, Sem.run]
      rw [this, Oper.upon_panic]
      exact hKp _ β fr σ n a w hT hS R h
    · exact h.elim
  | len s x =>
    rw [hop] at h plain
    simp only [step] at h
    refine plain ?_
    simp only [quiet, if_true, semR]
    cases hs : aLen s (x.get fr) with
    | none => rw [hs] at h; exact h.elim
    | some v =>
      rw [hs] at h
      refine h ?_
      rw [hop] at hcop
      have : ∃ x', x = cOpd x' := by
        generalize o.op = op at hcop
        cases op <;> simp only [cmp, cmpBin, cmpCall, cmpEq, reduceCtorEq, Option.some.injEq] at hcop
        case call c =>
          (repeat' split at hcop) <;> first | (cases hcop; done) | (cases hcop; exact ⟨_, rfl⟩)
        case makeFunc fn first caps =>
          cases fn <;> simp only [reduceCtorEq] at hcop
          split at hcop <;> cases hcop
        case makeMap t n =>
          cases n <;> simp only [reduceCtorEq] at hcop
          (repeat' split at hcop) <;> cases hcop
        case typeAssert x0 xt t ok =>
          cases ok <;> simp only [reduceCtorEq] at hcop
          (repeat' split at hcop) <;> cases hcop
        all_goals first
          | (obtain ⟨_, _, hx⟩ := Option.map_eq_some_iff.1 hcop; cases hx; done)
          | ((repeat' split at hcop) <;> first | (cases hcop; done) | (obtain ⟨_, _, hx⟩ := Option.map_eq_some_iff.1 hcop; cases hx; done))
      obtain ⟨x', rfl⟩ := this
      exact bnd_of R x'
  | _ => rw [hop] at h plain; simp only [step] at h; exact plain h
theorem sops_soundT {S : Nat} {ops : Array Oper} {K : Kn} {Kp : Value → Kn} {Q : Exit → Act → World → Prop} (tail : List Oper)
    (hK : ∀ β fr σ n a w, T ≤ n → a.tmps.size = S → SRel N w0 M0 β0 ds β fr σ (Fn T U n) a w → K fr σ n → wpList P ops Q tail a w)
    (hKp : ∀ x β fr σ n a w, T ≤ n → a.tmps.size = S → SRel N w0 M0 β0 ds β fr σ (Fn T U n) a w → Kp x fr σ n → Q (.panic [{ v := x, recovered := false }]) a w) :
    ∀ (l : List Oper) (sl : List SOper) (β : Nat → Option Nat) (fr : Regs) (σ : Hp) (n : Nat) (a : Act) (w : World), cmpL P S ops l = some sl → T ≤ n → a.tmps.size = S → SRel N w0 M0 β0 ds β fr σ (Fn T U n) a w → sops P K Kp sl fr σ n → wpList P ops Q (l ++ tail) a w
  | [], sl, β, fr, σ, n, a, w, hc, hT, hS, R, h => by
    simp only [cmpL, Option.some.injEq] at hc
    subst hc
    exact hK β fr σ n a w hT hS R h
  | o :: l, sl, β, fr, σ, n, a, w, hc, hT, hS, R, h => by
    unfold cmpL at hc
    split at hc
    · rename_i so sl' hso hsl
      split at hc
      · rename_i hdst0
        obtain ⟨hdst, htag⟩ := hdst0
        cases hc
        have hd : ∀ t, o.dst = some t → t < a.tmps.size := by
          intro t ht
          rw [ht] at hdst
          rw [hS]; simpa [dstOk] using hdst
        obtain ⟨hcop, hdeq⟩ := cmpO_op hso
        have hnext : ∀ β' v σ' n' u w', n ≤ n' → SRel N w0 M0 β0 ds β' (put fr o.dst v) σ' (Fn T U n') (a.put o.dst u) w' → sops P K Kp sl' (put fr so.dst v) σ' n' → wpList P ops Q (l ++ tail) (a.put o.dst u) w' := by
          intro β' v σ' n' u w' hnn R' h'
          rw [hdeq] at h'
          exact sops_soundT tail hK hKp l sl' β' _ σ' n' _ w' hsl (by omega) (by rw [put_size, hS]) R' h'
        unfold sops at h
        rw [List.cons_append]
        unfold wpList
        split at h
        · rename_i hg
          rw [if_pos (wanted_none hso hg _)]
          exact .inl (step_sound R hT hS hd hcop htag hnext hKp h)
        · rename_i d want hg
          obtain ⟨hw1, hw2⟩ := wanted_of (P := P) R hso hg
          have hskip : sops P K Kp sl' (put fr so.dst (.tp [])) σ n → wpList P ops Q (l ++ tail) (a.put o.dst undef) w := fun h => hnext β (.tp []) σ n undef w (Nat.le_refl _) (put_undef R o.dst hd) h
          split at h
          · rename_i hq
            replace h := h.h
            unfold guardP' at h
            split at h
            · rename_i b hb
              obtain ⟨v, hv, h⟩ := h
              rw [hw1 b hb]
              by_cases hbw : b = want
              · rw [if_pos (by simp [hbw])]
                have hs := hv hbw
                rw [show (b == want) = true by simp [hbw]] at h
                refine .inl ?_
                obtain ⟨u, hrun, hu⟩ := soundR R hcop hq hs
                unfold Oper.wp
                rw [hrun]
                exact hnext β v σ n u w (Nat.le_refl _) (R.put o.dst hd hu) h
              · rw [if_neg (by simp [hbw])]
                rw [show (b == want) = false by simp [hbw]] at h
                exact hskip h
            · rename_i hb
              rw [hw2 hb, if_neg (by simp)]
              exact hskip h
            · exact h.elim
          · replace h := h.h
            unfold guardK' at h
            split at h
            · rename_i b hb
              rw [hw1 b hb]
              split at h
              · rename_i hbw
                rw [if_pos (by simp [hbw])]
                exact .inl (step_sound R hT hS hd hcop htag hnext hKp h)
              · rename_i hbw
                rw [if_neg (by simp [hbw])]
                exact hskip h
            · rename_i hb
              rw [hw2 hb, if_neg (by simp)]
              exact hskip h
            · exact h.elim
      · cases hc
    · cases hc
theorem sops_sound {S : Nat} {ops : Array Oper} {K : Kn} {Kp : Value → Kn} {Q : Exit → Act → World → Prop}
    (hK : ∀ β fr σ n a w, T ≤ n → a.tmps.size = S → SRel N w0 M0 β0 ds β fr σ (Fn T U n) a w → K fr σ n → Q .normal a w)
    (hKp : ∀ x β fr σ n a w, T ≤ n → a.tmps.size = S → SRel N w0 M0 β0 ds β fr σ (Fn T U n) a w → Kp x fr σ n → Q (.panic [{ v := x, recovered := false }]) a w)
    (l : List Oper) (sl : List SOper) (β : Nat → Option Nat) (fr : Regs) (σ : Hp) (n : Nat) (a : Act) (w : World) (hc : cmpL P S ops l = some sl) (hT : T ≤ n) (hS : a.tmps.size = S) (R : SRel N w0 M0 β0 ds β fr σ (Fn T U n) a w) (h : sops P K Kp sl fr σ n) : wpList P ops Q l a w := by
  have := sops_soundT (Q := Q) [] (fun β fr σ n a w h1 h2 h3 h4 => hK β fr σ n a w h1 h2 h3 h4) hKp l sl β fr σ n a w hc hT hS R h
  rwa [List.append_nil] at this
end
end Go.Proofs.Ytlhnncmflnjinaa.Am
