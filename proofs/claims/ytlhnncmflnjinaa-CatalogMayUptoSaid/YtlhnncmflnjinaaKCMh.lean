/- Packed by a program of this repo: Mh Mi Mj Mk Ml Mm Mn. -/
import Derived.Test.YtlhnncmflnjinaaKCMe
import Derived.OrdersIn
import Derived.TacticsIn
import Derived.Orders
set_option linter.unusedSimpArgs false
set_option linter.unusedVariables false
namespace Go.Proofs.Ytlhnncmflnjinaa.Am
open Go Go.RowKit

/-- no fence; in a round of a loop over a function, or in none -/
abbrev FW (r : Option Nat) : Fence := { fn := fun _ => True, depth := none, alive := Fence.wide.alive, round := r }
theorem calls_FW {P : Program} {f : FuncId} {vs : Array Value} {w : World} {R : Ending → World → Prop} (rr : Option Nat) (h : Calls P f vs w R) : CallsIn (FW rr) 0 P f vs w R := callsIn_wide.2 h
theorem opIn {P : Program} {rr : Option Nat} {o : Oper} {a : Act} {w : World} {next : Act → World → Prop} {Q : Exit → Act → World → Prop} (hs : ∀ c, o.op ≠ .defer c) (h : o.uponIn (FW rr) 0 P a next Q ((execOp a.eval o).run P w)) : o.wpIn (FW rr) 0 P a w next Q :=
  ⟨fun _ _ => trivial, by rw [Oper.semAt_eq _ _ _ hs]; exact h⟩
theorem cmp_nodefer {P : Program} {op : Op} {s : SOp} (h : cmp P op = some s) : ∀ c, op ≠ .defer c := by
  rintro c rfl
  simp [cmp] at h
section
variable {rr : Option Nat} {P : Program} {T : Nat} {U : Nat → Prop} {N : Nat → Prop} {w0 : World} {M0 : Nat → Prop} {β0 : Nat → Option Nat} {ds : List Deferred} {β : Nat → Option Nat} {fr : Regs} {σ : Hp} {F : Nat → Prop} {a : Act} {w : World}

theorem call_run (R : SRel N w0 M0 β0 ds β fr σ F a w) {o : Oper} {c : Call} {f : Operand} {g : FuncId} {caps : List AV} (ho : o.op = .call c) (hc : c.callee = .value f) (hf : (cOpd f).get fr = .fn g caps) (hgo : goFn P g = true) :
    ∃ vs : Array Value, (execOp a.eval o).run P w = .ok (.enter g vs) w ∧ Cells (live N β σ) w β vs ((c.args.toList.map cOpd).map (Opd.get fr) ++ caps) := by
  have hfr := rel_get R f
  rw [hf] at hfr
  generalize hfv : a.eval f = fv at hfr
  cases hfr with
  | fn _ vs _ hn hr =>
    refine ⟨c.args.map a.eval ++ vs, by simp [execOp, ho, resolve, hc, hfv, Deferred.ofValue, invoke, run_callFunc hgo], by simp [hn], fun i u z hu hz => ?_⟩
    rw [List.getElem?_append] at hz
    rw [Array.getElem?_append] at hu
    simp only [List.length_map, Array.length_toList, Array.size_map] at hz hu
    split at hz
    · rename_i hi
      rw [if_pos hi] at hu
      rw [Array.getElem?_map] at hu
      rw [List.map_map, List.getElem?_map, Array.getElem?_toList] at hz
      cases hc' : c.args[i]? with
      | none => simp [hc'] at hu
      | some y =>
        rw [hc', Option.map_some] at hu hz
        cases hu; cases hz
        exact rel_get R y
    · rename_i hi
      rw [if_neg hi] at hu
      exact hr _ _ _ hu hz
theorem live_lt (R : SRel N w0 M0 β0 ds β fr σ F a w) : ∀ b, live N β σ b → b < w.heap.size := by
  rintro b (h | ⟨i, x, h1, _, h3⟩)
  · exact Nat.lt_of_lt_of_le (R.away.1 b h) R.frame.size
  · exact R.heap.lt h3 (by simp [h1])
theorem aw_now (R : SRel N w0 M0 β0 ds β fr σ F a w) : Aw N (own β σ) w := by
  obtain ⟨h1, h2, h3, m, h4⟩ := R.away
  have hlt : GB < w0.heap.size := World.block_lt_of_cell? w0 _ h4
  exact ⟨fun b hb => Nat.lt_of_lt_of_le (h1 b hb) R.frame.size, h2, fun h => h3 (R.old _ h hlt), m, by simpa only [World.cell?, R.frame.block GB hlt h3] using h4⟩
theorem aw_live (R : SRel N w0 M0 β0 ds β fr σ F a w) : Aw (live N β σ) (live N β σ) w := by
  obtain ⟨_, h2, h3, h4⟩ := aw_now R
  have h : ¬ live N β σ GB := fun h => h.elim h2 h3
  exact ⟨live_lt R, h, h, h4⟩
theorem wp_call {o : Oper} {g : FuncId} {vs : Array Value} (hdf : ∀ c, o.op ≠ .defer c) (hrun : (execOp a.eval o).run P w = .ok (.enter g vs) w) {Post : Ending → World → Prop} (hcalls : Calls P g vs w Post) {next : Act → World → Prop} {Q : Exit → Act → World → Prop}
    (hret : ∀ u w', Post (.returned u) w' → next (a.put o.dst u) w') (hpan : ∀ ch w', Post (.panicked ch) w' → Q (.panic ch) a w') (hout : ∀ w', ¬ Post .outgrown w') : o.wpIn (FW rr) 0 P a w next Q := by
  refine opIn hdf ?_
  rw [hrun, Oper.uponIn_enter]
  refine ⟨fun h => (by cases h), (calls_FW rr hcalls).mono ?_⟩
  intro e w' he
  cases e with
  | returned u => exact hret u w' he
  | panicked ch => exact hpan ch w' he
  | outgrown => exact absurd he (hout w')
/-- what a call leads to -/
structure Onward (P : Program) (o : Oper) (N : Nat → Prop) (w0 : World) (M0 : Nat → Prop) (β0 : Nat → Option Nat) (ds : List Deferred) (fr : Regs) (a : Act) (next : Act → World → Prop) (Q : Exit → Act → World → Prop) (σ' : Hp) (F' : Nat → Prop) (r : AEnd) : Prop where
  ret : ∀ v, r = .ret v → ∀ u w' β', SRel N w0 M0 β0 ds β' fr σ' F' a w' → Rel (live N β' σ') w' β' u v → next (a.put o.dst u) w'
  pan : ∀ x, r = .pan x → ∀ w' β', SRel N w0 M0 β0 ds β' fr σ' F' a w' → Q (.panic [{ v := x, recovered := false }]) a w'
theorem callC_sound (R : SRel N w0 M0 β0 ds β fr σ F a w) {o : Oper} {c : Call} {f : Operand} (ho : o.op = .call c) (hc : c.callee = .value f) {K : AEnd → Wr → List Nat → Prop} {next : Act → World → Prop} {Q : Exit → Act → World → Prop}
    (h : callC P ((cOpd f).get fr) ((c.args.toList.map cOpd).map (Opd.get fr)) σ K) (hK : ∀ r wr I, K r wr I → (∀ p ∈ wr, p.1 ∈ I ∧ (σ p.1).isSome) → Onward P o N w0 M0 β0 ds fr a next Q (applyW σ wr) F r) : o.wpIn (FW rr) 0 P a w next Q := by
  unfold callC at h
  split at h
  · rename_i g caps hf
    obtain ⟨cs, I, r, hb, hcon, hk⟩ := h
    obtain ⟨vs, hrun, hcells⟩ := call_run R ho hc hf hcon.1
    obtain ⟨g1, g2⟩ := brwL_get σ 6 _ cs I hb
    have hIs := brwL_some hb
    obtain ⟨l1, l2⟩ := frz_off R.heap hIs
    have R1 := (R.less (frz_less σ I)).1
    have hargs : Cells (live N β (applyW σ (frz σ I))) w nob vs cs := by
      refine ⟨by rw [g1]; exact hcells.1, fun i u z hu hz => ?_⟩
      have hlt := (List.getElem?_eq_some_iff.1 hz).1
      have hx : ((c.args.toList.map cOpd).map (Opd.get fr) ++ caps)[i]? = some (((c.args.toList.map cOpd).map (Opd.get fr) ++ caps)[i]'(by omega)) := List.getElem?_eq_getElem (by omega)
      generalize ((c.args.toList.map cOpd).map (Opd.get fr) ++ caps)[i]'(by omega) = x at hx
      obtain ⟨c', J, a1, a2, a3⟩ := g2 i x hx
      rw [hz] at a1; cases a1
      exact brw_rel R.heap l1 6 x z J u a2 (hcells.2 i u x hu hx) (fun j hj => l2 j (a3 j hj))
    have hMlt : Aw (live N β (applyW σ (frz σ I))) (live N β (applyW σ (frz σ I))) w := ⟨fun b hb => live_lt R b (l1 b hb), fun hb => (aw_live R).2.1 (l1 _ hb), fun hb => (aw_live R).2.1 (l1 _ hb), (aw_live R).2.2.2⟩
    have hids : ∀ p ∈ frz σ I, p.1 ∈ I ∧ (σ p.1).isSome := by
      intro p hp
      have : p.1 ∈ I := by
        clear hcells hargs hk g1 g2 hIs l1 l2 R1 hb hMlt
        induction I with
        | nil => cases hp
        | cons i I ih =>
          simp only [frz, List.mem_cons] at hp
          rcases hp with rfl | hp
          · exact List.mem_cons_self
          · exact List.mem_cons_of_mem _ (ih hp)
      exact ⟨this, hIs _ this⟩
    have hon := hK _ _ _ hk (fun p hp => by
      cases r with
      | pan x => cases hp
      | ret v =>
        simp only at hp
        split at hp
        · cases hp
        · exact hids p hp)
    refine wp_call (fun c' => by rw [ho]; exact fun h => by cases h) hrun (hcon.2 _ w _ hMlt hargs) ?_ ?_ (fun w' he => by cases r <;> exact he.1.elim)
    · rintro u w' ⟨he, hfrm⟩
      cases r with
      | pan x => exact he.elim
      | ret v =>
        simp only at hon
        have Rw : ∀ {σ1}, SRel N w0 M0 β0 ds β fr σ1 F a w → SRel N w0 M0 β0 ds β fr σ1 F a w' := fun R => R.world hfrm.os hfrm.tape hfrm.output hfrm.size (fun b hb => hfrm.block b hb (fun h => h))
        by_cases hs : scal v = true
        · simp only [hs, if_true, applyW] at hon
          exact hon.ret v rfl u w' β (Rw R) (scal_rel he hs)
        · simp only [hs] at hon
          exact hon.ret v rfl u w' β (Rw R1) (Rel.lift he)
    · rintro ch w' ⟨he, hfrm⟩
      cases r with
      | ret v => exact he.elim
      | pan x =>
        have : ch = [{ v := x, recovered := false }] := he
        subst this
        exact hon.pan x rfl w' β (R.world hfrm.os hfrm.tape hfrm.output hfrm.size (fun b hb => hfrm.block b hb (fun h => h)))
  · exact h.elim
theorem callW_sound (R : SRel N w0 M0 β0 ds β fr σ F a w) {o : Oper} {c : Call} {f : Operand} {id : Nat} {tl : Nat} (hid : ∀ j, id ≤ j → j < id + 16 → F j) (htl : id + 16 ≤ tl) (hB : ∀ j, tl ≤ j → F j) (ho : o.op = .call c) (hc : c.callee = .value f) {K : AEnd → Wr → List Nat → Prop} {next : Act → World → Prop} {Q : Exit → Act → World → Prop}
    (h : callW P ((cOpd f).get fr) ((c.args.toList.map cOpd).map (Opd.get fr)) σ id K) (hK : ∀ r wr I, K r wr I → ∀ tl', tl ≤ tl' → Onward P o N w0 M0 β0 ds fr a next Q (applyW σ wr) (fun j => F j ∧ ¬ (id ≤ j ∧ j < id + 16) ∧ (j < tl ∨ tl' ≤ j)) r) : o.wpIn (FW rr) 0 P a w next Q := by
  unfold callW at h
  split at h
  · rename_i g caps hf
    obtain ⟨pre, r, wr, hpre, hcon, hk⟩ := h
    obtain ⟨vs, hrun, hcells⟩ := call_run R ho hc hf hcon.1
    have hon := hK _ _ _ hk
    refine wp_call (fun c' => by rw [ho]; exact fun h => by cases h) hrun (hcon.2 N β σ F w vs hpre hid tl htl hB (aw_now R) R.heap hcells) ?_ ?_ ?_
    · rintro u w' ⟨β', tl', htl', hl⟩
      have hon := hon tl' htl'
      have R' := R.after hl
      obtain ⟨_, _, he, _, _⟩ := hl
      cases r with
      | pan x => exact he.elim
      | ret v => exact hon.ret v rfl u w' β' R' he
    · rintro ch w' ⟨β', tl', htl', hl⟩
      have hon := hon tl' htl'
      have R' := R.after hl
      obtain ⟨_, _, he, _, _⟩ := hl
      cases r with
      | ret v => exact he.elim
      | pan x =>
        have : ch = [{ v := x, recovered := false }] := he
        subst this
        exact hon.pan x rfl w' β' R'
    · rintro w' ⟨β', _, _, _, _, he, _⟩
      cases r <;> exact he.elim
  · exact h.elim
theorem callH_sound {n : Nat} (R : SRel N w0 M0 β0 ds β fr σ (Fn T U n) a w) (hT : T ≤ n) {o : Oper} {c : Call} {f : Operand} (ho : o.op = .call c) (hc : c.callee = .value f) {K : AEnd → Hp → Nat → Prop} {next : Act → World → Prop} {Q : Exit → Act → World → Prop}
    (h : callH P ((cOpd f).get fr) ((c.args.toList.map cOpd).map (Opd.get fr)) σ n K) (hK : ∀ r σ' n', K r σ' n' → n ≤ n' → Onward P o N w0 M0 β0 ds fr a next Q σ' (Fn T U n') r) : o.wpIn (FW rr) 0 P a w next Q := by
  unfold callH at h
  split at h
  · rename_i g caps hf
    obtain ⟨RR, hcon, hk⟩ := h
    obtain ⟨vs, hrun, hcells⟩ := call_run R ho hc hf hcon.1
    refine wp_call (fun c' => by rw [ho]; exact fun h => by cases h) hrun (hcon.2 N T U β w vs hT (aw_now R) R.heap hcells) ?_ ?_ ?_
    · rintro u w' ⟨β', r, σ', n', hr, hn, hl⟩
      have R' := R.after hl
      have hon := hK _ _ _ (hk r σ' n' hr hn) hn
      obtain ⟨_, _, he, _, _⟩ := hl
      cases r with
      | pan x => exact he.elim
      | ret v => exact hon.ret v rfl u w' β' R' he
    · rintro ch w' ⟨β', r, σ', n', hr, hn, hl⟩
      have R' := R.after hl
      have hon := hK _ _ _ (hk r σ' n' hr hn) hn
      obtain ⟨_, _, he, _, _⟩ := hl
      cases r with
      | ret v => exact he.elim
      | pan x =>
        have : ch = [{ v := x, recovered := false }] := he
        subst this
        exact hon.pan x rfl w' β' R'
    · rintro w' ⟨β', r, σ', n', hr, _, _, _, he, _⟩
      cases r <;> exact he.elim
  · exact h.elim
theorem callY_sound {n : Nat} (R : SRel N w0 M0 β0 ds β fr σ (Fn T U n) a w) (hT : T ≤ n) {o : Oper} {c : Call} {f : Operand} (ho : o.op = .call c) (hc : c.callee = .value f) {K : AEnd → Hp → Nat → Prop} {next : Act → World → Prop} {Q : Exit → Act → World → Prop}
    (h : callY P ((cOpd f).get fr) ((c.args.toList.map cOpd).map (Opd.get fr)) σ n K) (hK : ∀ r σ' n', K r σ' n' → n ≤ n' → Onward P o N w0 M0 β0 ds fr a next Q σ' (Fn T U n') r) : o.wpIn (FW rr) 0 P a w next Q := by
  unfold callY at h
  split at h
  · rename_i y hf
    obtain ⟨RR, hcon, hk⟩ := h
    have hfr := rel_get R f
    rw [hf] at hfr
    generalize hfv : a.eval f = fv at hfr
    cases hfr with
    | yl _ l hl =>
      have hcells : Cells (live N β σ) w β (c.args.map a.eval) ((c.args.toList.map cOpd).map (Opd.get fr)) := by
        refine ⟨by simp, fun i u z hu hz => ?_⟩
        rw [Array.getElem?_map] at hu
        rw [List.map_map, List.getElem?_map, Array.getElem?_toList] at hz
        cases hc' : c.args[i]? with
        | none => simp [hc'] at hu
        | some x =>
          rw [hc', Option.map_some] at hu hz
          cases hu; cases hz
          exact rel_get R x
      obtain ⟨fn, tm, as, bo, hy, hround⟩ := hcon N T U β w _ l hT (aw_now R) R.heap hl hcells
      refine opIn (fun c' => by rw [ho]; exact fun h => by cases h) ?_
      have hrun : (execOp a.eval o).run P w = .ok (.round l fn tm as bo) w := by
        simp [execOp, ho, resolve, hc, hfv, Deferred.ofValue, invoke, hy]
      rw [hrun, Oper.uponIn_round]
      refine ⟨fun h => (by cases h), RoundIn.mono (F := FW rr) hround ?_⟩
      rintro e w' ⟨β', r, σ', n', hr, hn, hl⟩
      have R' := R.after hl
      have hon := hK _ _ _ (hk r σ' n' hr hn) hn
      obtain ⟨_, _, he, _, _⟩ := hl
      cases e with
      | returned u =>
        cases r with
        | pan x => exact he.elim
        | ret v => exact hon.ret v rfl u w' β' R' he
      | panicked ch =>
        cases r with
        | ret v => exact he.elim
        | pan x =>
          have : ch = [{ v := x, recovered := false }] := he
          subst this
          exact hon.pan x rfl w' β' R'
      | outgrown => cases r <;> exact he.elim
  · exact h.elim
/-- one operation -/
theorem step_sound {S : Nat} {so : SOper} {o : Oper} {n : Nat} {K : AV → Hp → Nat → Prop} {Kp : Value → Kn} {next : Act → World → Prop} {Q : Exit → Act → World → Prop} (R : SRel N w0 M0 β0 ds β fr σ (Fn T U n) a w) (hT : T ≤ n) (hS : a.tmps.size = S) (hd : ∀ t, o.dst = some t → t < a.tmps.size)
    (hcop : cmp P o.op = some so.op) (htag : okTag o.op so.op = true)
    (hK : ∀ β' v σ' n' u w', n ≤ n' → SRel N w0 M0 β0 ds β' (put fr o.dst v) σ' (Fn T U n') (a.put o.dst u) w' → K v σ' n' → next (a.put o.dst u) w')
    (hKp : ∀ x β fr σ n a w, T ≤ n → a.tmps.size = S → SRel N w0 M0 β0 ds β fr σ (Fn T U n) a w → Kp x fr σ n → Q (.panic [{ v := x, recovered := false }]) a w)
    (h : step P so.op fr σ n Kp K) : o.wpIn (FW rr) 0 P a w next Q := by
  have hn1 : ∀ i, Fn T U (n + 16) i → Fn T U n i ∧ i ≠ n := fun i hi => by
    rcases hi with h | ⟨h1, h2⟩
    · exact ⟨.inl (by omega), by omega⟩
    · exact ⟨.inr ⟨h1, h2⟩, by omega⟩
  have onw : ∀ σ' F' n' r, n ≤ n' → onEnd r (fun v => K v σ' n') (fun x => Kp x fr σ' n') → (∀ i, Fn T U n' i → F' i) → Onward P o N w0 M0 β0 ds fr a next Q σ' F' r := by
    intro σ' F' n' r hnn hr hF
    constructor
    · rintro v rfl u w' β' R' hu
      exact hK β' v σ' n' u w' hnn ((R'.put o.dst hd hu).free hF) hr
    · rintro x rfl w' β' R'
      exact hKp x β' fr σ' n' a w' (by omega) hS (R'.free hF) hr
  have plain : (if quiet so.op = true then bindP (semR σ (Opd.get fr) so.op) (fun v => K v σ n) else bindS (semH σ n (Opd.get fr) so.op) σ n K) → o.wpIn (FW rr) 0 P a w next Q := by
    intro h
    split at h
    · rename_i hq
      cases hs : semR σ (Opd.get fr) so.op with
      | none => rw [hs] at h; exact h.elim
      | some v =>
        rw [hs] at h
        obtain ⟨u, hrun, hu⟩ := soundR R hcop hq hs
        refine opIn (cmp_nodefer hcop) ?_
        rw [hrun]
        exact hK β v σ n u w (Nat.le_refl _) (R.put o.dst hd hu) h
    · cases hs : semH σ n (Opd.get fr) so.op with
      | none => rw [hs] at h; exact h.elim
      | some vw =>
        obtain ⟨v, wr⟩ := vw
        rw [hs] at h
        obtain ⟨u, w', β', g1, g2, g3, g4⟩ := soundH R (.inl (Nat.le_refl n)) hcop hs
        have R' := (g3.put o.dst hd g4).free (F' := Fn T U (n + 16)) hn1
        have := hK β' v _ (n + 16) u w' (by omega) R' h
        refine opIn (cmp_nodefer hcop) ?_
        rcases g1 with g1 | ⟨g1, rfl⟩
        · rw [g1]; exact this
        · rw [g1]; exact this
  cases hop : so.op with
  | call f args =>
    rw [hop] at hcop htag h
    obtain ⟨c, f', hoc, hcal, rfl, rfl⟩ := cmp_call hcop htag
    simp only [step] at h
    rcases h with h | h | h | h
    · exact callC_sound R hoc hcal h (fun r wr I hk _ => onw _ _ n r (Nat.le_refl _) hk (fun i hi => hi))
    · exact callW_sound R (fun j h1 _ => .inl h1) (Nat.le_refl (n + 16)) (fun j hj => .inl (by omega)) hoc hcal h (fun r wr I hk tl' htl' => onw _ _ tl' r (by omega) (hk tl' htl') (fun i hi => by
        rcases hi with h | ⟨h1, h2⟩
        · exact ⟨.inl (by omega), by omega, .inr h⟩
        · exact ⟨.inr ⟨h1, h2⟩, by omega, .inl (by omega)⟩))
    · exact callH_sound R hT hoc hcal h (fun r σ' n' hk hn => onw _ _ n' r hn hk (fun i hi => hi))
    · exact callY_sound R hT hoc hcal h (fun r σ' n' hk hn => onw _ _ n' r hn hk (fun i hi => hi))
  | pan x =>
    rw [hop] at hcop htag h
    obtain ⟨x', hoc, rfl⟩ := cmp_pan hcop htag
    simp only [step, PAN] at h
    split at h
    · rename_i t v hx
      have hr := rel_get R x'
      rw [hx] at hr
      have hv := rel_sc hr
      refine opIn (fun c' => by rw [hoc]; exact fun h => by cases h) ?_
      have : (execOp a.eval o).run P w = .halt (.panic (.iface t v)) w := by simp [execOp, hoc, hv, Instr.panic, goPanic, Sem.run]
      rw [this, Oper.uponIn_panic]
      exact hKp _ β fr σ n a w hT hS R h
    · exact h.elim
  | len s x =>
    rw [hop] at h plain
    simp only [step] at h
    refine plain ?_
    simp only [quiet, if_true, semR]
    cases hs : aLen s (x.get fr) with
    | none => rw [hs] at h; exact h.elim
    | some v =>
      rw [hs] at h
      refine h ?_
      rw [hop] at hcop
      have : ∃ x', x = cOpd x' := by
        generalize o.op = op at hcop
        cases op <;> simp only [cmp, cmpBin, cmpCall, cmpEq, reduceCtorEq, Option.some.injEq] at hcop
        case call c =>
          (repeat' split at hcop) <;> first | (cases hcop; done) | (cases hcop; exact ⟨_, rfl⟩)
        case makeFunc fn first caps =>
          cases fn <;> simp only [reduceCtorEq] at hcop
          split at hcop <;> cases hcop
        case makeSlice t l c =>
          unfold cmpMks at hcop
          (repeat' split at hcop) <;> cases hcop
        case makeMap t n =>
          cases n <;> simp only [reduceCtorEq] at hcop
          (repeat' split at hcop) <;> cases hcop
        case typeAssert x0 xt t ok =>
          cases ok <;> simp only [reduceCtorEq] at hcop
          (repeat' split at hcop) <;> cases hcop
        all_goals first
          | (obtain ⟨_, _, hx⟩ := Option.map_eq_some_iff.1 hcop; cases hx; done)
          | ((repeat' split at hcop) <;> first | (cases hcop; done) | (obtain ⟨_, _, hx⟩ := Option.map_eq_some_iff.1 hcop; cases hx; done))
      obtain ⟨x', rfl⟩ := this
      exact bnd_of R x'
  | _ => rw [hop] at h plain; simp only [step] at h; exact plain h
theorem sops_soundT {S : Nat} {ops : Array Oper} {K : Kn} {Kp : Value → Kn} {Q : Exit → Act → World → Prop} (tail : List Oper)
    (hK : ∀ β fr σ n a w, T ≤ n → a.tmps.size = S → SRel N w0 M0 β0 ds β fr σ (Fn T U n) a w → K fr σ n → wpListIn (FW rr) 0 P ops Q tail a w)
    (hKp : ∀ x β fr σ n a w, T ≤ n → a.tmps.size = S → SRel N w0 M0 β0 ds β fr σ (Fn T U n) a w → Kp x fr σ n → Q (.panic [{ v := x, recovered := false }]) a w) :
    ∀ (l : List Oper) (sl : List SOper) (β : Nat → Option Nat) (fr : Regs) (σ : Hp) (n : Nat) (a : Act) (w : World), cmpL P S ops l = some sl → T ≤ n → a.tmps.size = S → SRel N w0 M0 β0 ds β fr σ (Fn T U n) a w → sops P K Kp sl fr σ n → wpListIn (FW rr) 0 P ops Q (l ++ tail) a w
  | [], sl, β, fr, σ, n, a, w, hc, hT, hS, R, h => by
    simp only [cmpL, Option.some.injEq] at hc
    subst hc
    exact hK β fr σ n a w hT hS R h
  | o :: l, sl, β, fr, σ, n, a, w, hc, hT, hS, R, h => by
    unfold cmpL at hc
    split at hc
    · rename_i so sl' hso hsl
      split at hc
      · rename_i hdst0
        obtain ⟨hdst, htag⟩ := hdst0
        cases hc
        have hd : ∀ t, o.dst = some t → t < a.tmps.size := by
          intro t ht
          rw [ht] at hdst
          rw [hS]; simpa [dstOk] using hdst
        obtain ⟨hcop, hdeq⟩ := cmpO_op hso
        have hnext : ∀ β' v σ' n' u w', n ≤ n' → SRel N w0 M0 β0 ds β' (put fr o.dst v) σ' (Fn T U n') (a.put o.dst u) w' → sops P K Kp sl' (put fr so.dst v) σ' n' → wpListIn (FW rr) 0 P ops Q (l ++ tail) (a.put o.dst u) w' := by
          intro β' v σ' n' u w' hnn R' h'
          rw [hdeq] at h'
          exact sops_soundT tail hK hKp l sl' β' _ σ' n' _ w' hsl (by omega) (by rw [put_size, hS]) R' h'
        unfold sops at h
        rw [List.cons_append]
        unfold wpListIn
        split at h
        · rename_i hg
          rw [if_pos (wanted_none hso hg _)]
          exact (step_sound R hT hS hd hcop htag hnext hKp h)
        · rename_i d want hg
          obtain ⟨hw1, hw2⟩ := wanted_of (P := P) R hso hg
          have hskip : sops P K Kp sl' (put fr so.dst (.tp [])) σ n → (∀ f, o.about P w a.eval = some f → (FW rr).fn f) ∧ wpListIn (FW rr) 0 P ops Q (l ++ tail) (a.put o.dst undef) w := fun h => ⟨fun _ _ => trivial, hnext β (.tp []) σ n undef w (Nat.le_refl _) (put_undef R o.dst hd) h⟩
          split at h
          · rename_i hq
            replace h := h.h
            unfold guardP' at h
            split at h
            · rename_i b hb
              obtain ⟨v, hv, h⟩ := h
              rw [hw1 b hb]
              by_cases hbw : b = want
              · rw [if_pos (by simp [hbw])]
                have hs := hv hbw
                rw [show (b == want) = true by simp [hbw]] at h
                obtain ⟨u, hrun, hu⟩ := soundR R hcop hq hs
                refine opIn (cmp_nodefer hcop) ?_
                rw [hrun]
                exact hnext β v σ n u w (Nat.le_refl _) (R.put o.dst hd hu) h
              · rw [if_neg (by simp [hbw])]
                rw [show (b == want) = false by simp [hbw]] at h
                exact hskip h
            · rename_i hb
              rw [hw2 hb, if_neg (by simp)]
              exact hskip h
            · exact h.elim
          · replace h := h.h
            unfold guardK' at h
            split at h
            · rename_i b hb
              rw [hw1 b hb]
              split at h
              · rename_i hbw
                rw [if_pos (by simp [hbw])]
                exact (step_sound R hT hS hd hcop htag hnext hKp h)
              · rename_i hbw
                rw [if_neg (by simp [hbw])]
                exact hskip h
            · rename_i hb
              rw [hw2 hb, if_neg (by simp)]
              exact hskip h
            · exact h.elim
      · cases hc
    · cases hc
theorem sops_sound {S : Nat} {ops : Array Oper} {K : Kn} {Kp : Value → Kn} {Q : Exit → Act → World → Prop}
    (hK : ∀ β fr σ n a w, T ≤ n → a.tmps.size = S → SRel N w0 M0 β0 ds β fr σ (Fn T U n) a w → K fr σ n → Q .normal a w)
    (hKp : ∀ x β fr σ n a w, T ≤ n → a.tmps.size = S → SRel N w0 M0 β0 ds β fr σ (Fn T U n) a w → Kp x fr σ n → Q (.panic [{ v := x, recovered := false }]) a w)
    (l : List Oper) (sl : List SOper) (β : Nat → Option Nat) (fr : Regs) (σ : Hp) (n : Nat) (a : Act) (w : World) (hc : cmpL P S ops l = some sl) (hT : T ≤ n) (hS : a.tmps.size = S) (R : SRel N w0 M0 β0 ds β fr σ (Fn T U n) a w) (h : sops P K Kp sl fr σ n) : wpListIn (FW rr) 0 P ops Q l a w := by
  have := sops_soundT (rr := rr) (Q := Q) [] (fun β fr σ n a w h1 h2 h3 h4 => hK β fr σ n a w h1 h2 h3 h4) hKp l sl β fr σ n a w hc hT hS R h
  rwa [List.append_nil] at this
end
end Go.Proofs.Ytlhnncmflnjinaa.Am

set_option linter.unusedSimpArgs false
set_option linter.unusedVariables false
namespace Go.Proofs.Ytlhnncmflnjinaa.Am
open Go Go.RowKit

/-- what an operation leaves: its slot's value, blocks told anew; rd: the blocks that it looked at; dead: it is not come to, or panics -/
structure Eff where
  dst : Option Nat
  v : AV
  wr : Wr
  rd : List Nat
  dead : Bool
abbrev St := Regs × Hp
def effApp (e : Eff) (st : St) : St := (Am.put st.1 e.dst e.v, applyW st.2 e.wr)
/-- the state behind those operations that are listed -/
def stL (L : Nat → Bool) : Nat → List Eff → St → St
  | _, [], st => st
  | i, e :: es, st => stL L (i + 1) es (bif L i then effApp e st else st)
def names (wr : Wr) : List Nat := wr.map (·.1)
/-- the blocks that an operation looks at that changes nothing -/
def rdA : AV → List Nat
  | .rf i _ _ _ => [i]
  | _ => []
def rdY : AV → List Nat
  | .ow i _ _ _ => [i]
  | _ => []
def rdM : AV → List Nat
  | .mp i => [i]
  | _ => []
def rdR (g : Opd → AV) : SOp → List Nat
  | .ld _ x => rdA (g x)
  | .cvb x => rdY (g x)
  | .lkp _ _ x _ => rdM (g x)
  | _ => []
/-- one panic alone may be -/
def once (pn : Option Value) (A : Prop) : Prop := match pn with
  | none => A
  | some _ => False
theorem once_iff {pn : Option Value} {A : Prop} : once pn A ↔ pn = none ∧ A := by cases pn <;> simp [once]
def rdH (g : Opd → AV) (op : SOp) (wr : Wr) : List Nat := match op with
  | .app _ _ x y => rdY (g x) ++ (rdY (g y) ++ names wr)
  | _ => names wr
inductive callD (P : Program) (f : AV) (args : List AV) (σ : Hp) (id : Nat) (K : AEnd → Wr → List Nat → Prop) : Prop
  | c (h : callC P f args σ K)
  | w (h : callW P f args σ id K)
def dstep (P : Program) (op : SOp) (fr : Regs) (σ : Hp) (id : Nat) (Kp : Value → List Nat → Prop) (K : AV → Wr → List Nat → Prop) : Prop := match op with
  | .call f args => callD P (f.get fr) (args.map (Opd.get fr)) σ id (fun r wr rd => onEnd r (fun v => K v wr rd) (fun x => Kp x rd))
  | .pan x => PAN (x.get fr) (fun v => Kp v [])
  | op => if quiet op = true then bindP (semR σ (Opd.get fr) op) (fun v => K v [] (rdR (Opd.get fr) op)) else bindH (semH σ id (Opd.get fr) op) (fun v wr => K v wr (rdH (Opd.get fr) op wr))
def guardD' (g : AV) (want : Bool) (e : (AV → Wr → List Nat → Prop) → Prop) (K : AV → Wr → List Nat → Prop) : Prop := match g with
  | .sc (.bool b) => if b = want then e K else K (.tp []) [] []
  | .tp [] => K (.tp []) [] []
  | _ => False
structure guardD (g : AV) (want : Bool) (e : (AV → Wr → List Nat → Prop) → Prop) (K : AV → Wr → List Nat → Prop) : Prop where
  h : guardD' g want e K
/-- nothing that one writes does the other one look at -/
def Apt (w r w' r' : List Nat) : Prop := (∀ x ∈ w, x ∉ r' ∧ x ∉ w') ∧ (∀ x ∈ w', x ∉ r)
/-- looks an operation at memory at all? -/
def inert : SOp → Bool
  | .ld _ _ => false
  | .cvb _ => false
  | .lkp _ _ _ _ => false
  | op => quiet op
def side1 (anc : List Nat) (w r : List Nat) : Nat → List (SOper × List Nat) → List Eff → Prop → Prop
  | i, (o, _) :: l, e :: es, X => bif inert o.op || anc.contains i then side1 anc w r (i + 1) l es X else Apt (names e.wr) e.rd w r ∧ side1 anc w r (i + 1) l es X
  | _, _, _, X => X
def sideL (l0 : List (SOper × List Nat)) (effs : List Eff) : Nat → List (SOper × List Nat) → List Eff → Prop → Prop
  | j, (o, anc) :: l, e :: es, X => bif inert o.op then sideL l0 effs (j + 1) l es X else side1 anc (names e.wr) e.rd 0 (l0.take j) effs (sideL l0 effs (j + 1) l es X)
  | _, _, _, X => X
def dops (P : Program) (K : Kn) (Kp : Value → Kn) (l0 : List (SOper × List Nat)) (st0 : St) (n : Nat) : List (SOper × List Nat) → List Eff → Option Value → Prop
  | [], effs, none => sideL l0 effs 0 l0 effs (∀ n', n + 16 * l0.length ≤ n' → K (stL (fun _ => true) 0 effs st0).1 (stL (fun _ => true) 0 effs st0).2 n')
  | [], effs, some x => sideL l0 effs 0 l0 effs (∀ fr σ n, Kp x fr σ n)
  | (o, anc) :: rest, effs, pn =>
    bif anc.any (fun i => (effs[i]?).any (·.dead)) then dops P K Kp l0 st0 n rest (effs ++ [⟨o.dst, .tp [], [], [], true⟩]) pn else
    match o.guard with
    | none => dstep P o.op (stL (fun j => anc.contains j) 0 effs st0).1 (stL (fun j => anc.contains j) 0 effs st0).2 (n + 16 * effs.length)
        (fun x rd => once pn (dops P K Kp l0 st0 n rest (effs ++ [⟨o.dst, .tp [], [], rd, true⟩]) (some x)))
        (fun v wr rd => dops P K Kp l0 st0 n rest (effs ++ [⟨o.dst, v, wr, rd, false⟩]) pn)
    | some (d, want) => if quiet o.op = true then guardP ((stL (fun j => anc.contains j) 0 effs st0).1 d) want (semR (stL (fun j => anc.contains j) 0 effs st0).2 (Opd.get (stL (fun j => anc.contains j) 0 effs st0).1) o.op)
          (fun v => dops P K Kp l0 st0 n rest (effs ++ [⟨o.dst, v, [], rdR (Opd.get (stL (fun j => anc.contains j) 0 effs st0).1) o.op, false⟩]) pn)
      else guardD ((stL (fun j => anc.contains j) 0 effs st0).1 d) want (dstep P o.op (stL (fun j => anc.contains j) 0 effs st0).1 (stL (fun j => anc.contains j) 0 effs st0).2 (n + 16 * effs.length)
        (fun x rd => once pn (dops P K Kp l0 st0 n rest (effs ++ [⟨o.dst, .tp [], [], rd, true⟩]) (some x))))
        (fun v wr rd => dops P K Kp l0 st0 n rest (effs ++ [⟨o.dst, v, wr, rd, false⟩]) pn)

/-! what is asked of the operations' order, once and for all -/
def opds (op : SOp) : List Opd := match op with
  | .mv x => [x]
  | .pick c a b => [c, a, b]
  | .alloc _ => []
  | .box x => [x]
  | .build _ ps => ps.map (·.2.2)
  | .bsl _ _ _ ps => ps.map (·.2)
  | .ld _ x => [x]
  | .st _ x v => [x, v]
  | .fad _ x => [x]
  | .fld _ _ x => [x]
  | .iad _ x i => [x, i]
  | .istr x i => [x, i]
  | .iarr _ _ _ x i => [x, i]
  | .bin _ x y => [x, y]
  | .eqs _ _ x y => [x, y]
  | .eqb _ x y => [x, y]
  | .eqp _ x y => [x, y]
  | .mxn _ x y => [x, y]
  | .eqn _ x => [x]
  | .un _ x => [x]
  | .cvi _ x => [x]
  | .cvs x => [x]
  | .cvb x => [x]
  | .len _ x => [x]
  | .slc _ x lo hi mx => x :: (lo.toList ++ (hi.toList ++ mx.toList))
  | .sstr x lo hi => x :: (lo.toList ++ hi.toList)
  | .app _ _ x y => [x, y]
  | .ext x _ => [x]
  | .mkf _ caps => caps
  | .nck x => [x]
  | .mki _ x => [x]
  | .tas _ _ x => [x]
  | .mkm => []
  | .lkp _ _ x k => [x, k]
  | .mup x k v => [x, k, v]
  | .clm x => [x]
  | .call f args => f :: args
  | .pan x => [x]
def optmps (o : SOper) : List Nat := (opds o.op).filterMap (fun | Opd.t i => some i | Opd.c _ => none) ++ (o.guard.map (·.1)).toList
def direct (o : Oper) : List Nat := o.after.toList.filterMap fun e => if Region.binds .any e = true then some e.on else none
/-- every operation's ancestors -/
def ancOf (ops : List Oper) : List (List Nat) :=
  ops.foldl (fun acc o => acc ++ [(direct o).foldl (fun s d => (if s.contains d then s else s ++ [d]) ++ ((acc.getD d []).filter fun k => !(s.contains k || k == d))) []]) []
def ancOk (ops : List Oper) (ancs : List (List Nat)) : Bool :=
  decide (ancs.length = ops.length) && (List.range ops.length).all fun i => match ops[i]?, ancs[i]? with
    | some o, some anc => (anc.all fun j => decide (j < i) && ((ancs.getD j []).all fun k => anc.contains k) && ((direct o).contains j || (direct o).any fun d => (ancs.getD d []).contains j)) && ((direct o).all fun d => anc.contains d)
    | _, _ => false
def tmpOk (l : List (SOper × List Nat)) : Bool :=
  (List.range l.length).all fun i => (List.range l.length).all fun j => match l[i]?, l[j]? with
    | some (oi, ai), some (oj, aj) => i == j || (match oj.dst with
        | some d => oi.dst != some d && (!(optmps oi).contains d || ai.contains j || aj.contains i)
        | none => true)
    | _, _ => false
def cmpD (P : Program) (S : Nat) (ops : Array Oper) : Option (List (SOper × List Nat)) := match cmpL P S ops ops.toList with
  | some sl => if ancOk ops.toList (ancOf ops.toList) = true ∧ tmpOk (sl.zip (ancOf ops.toList)) = true ∧ P.follows .mixedOrders = true then some (sl.zip (ancOf ops.toList)) else none
  | none => none

section
variable {P : Program} {K : Kn} {Kp : Value → Kn} {l0 : List (SOper × List Nat)} {st0 : St} {n : Nat}

def Runs (P : Program) (op : SOp) (st : St) (id : Nat) (v : AV) (wr : Wr) (rd : List Nat) : Prop :=
  (quiet op = true ∧ semR st.2 (Opd.get st.1) op = some v ∧ wr = [] ∧ rd = rdR (Opd.get st.1) op) ∨ (semH st.2 id (Opd.get st.1) op = some (v, wr) ∧ rd = rdH (Opd.get st.1) op wr) ∨
  (∃ f args, op = .call f args ∧ callD P (f.get st.1) (args.map (Opd.get st.1)) st.2 id (fun r w d => r = .ret v ∧ w = wr ∧ d = rd))
def Pans (P : Program) (op : SOp) (st : St) (id : Nat) (x : Value) (rd : List Nat) : Prop :=
  (∃ f args, op = .call f args ∧ callD P (f.get st.1) (args.map (Opd.get st.1)) st.2 id (fun r _ d => r = .pan x ∧ d = rd)) ∨ (∃ y, op = .pan y ∧ PAN (y.get st.1) (fun z => z = x))
def Asked (st : St) (o : SOper) : Prop := o.guard = none ∨ ∃ d want, o.guard = some (d, want) ∧ st.1 d = .sc (.bool want)
def Skipped (st : St) (o : SOper) : Prop := ∃ d want, o.guard = some (d, want) ∧ ((∃ b, st.1 d = .sc (.bool b) ∧ b ≠ want) ∨ st.1 d = .tp [])
def OpOk (P : Program) (Kp : Value → Kn) (st : St) (id : Nat) (o : SOper) (e : Eff) : Prop :=
  (e.dead = false ∧ ((Skipped st o ∧ e.v = .tp [] ∧ e.wr = [] ∧ (inert o.op = true → e.rd = [])) ∨ (Asked st o ∧ Runs P o.op st id e.v e.wr e.rd))) ∨ (e.dead = true ∧ ∃ x, Asked st o ∧ Pans P o.op st id x e.rd ∧ ∀ fr σ n, Kp x fr σ n)
theorem callD_split {f : AV} {args : List AV} {σ : Hp} {id : Nat} {K : AEnd → Wr → List Nat → Prop} (h : callD P f args σ id K) : ∃ r wr rd, callD P f args σ id (fun r' w d => r' = r ∧ w = wr ∧ d = rd) ∧ K r wr rd := by
  rcases h with h | h
  · unfold callC at h
    split at h
    · obtain ⟨cs, I, r, h1, h2, h3⟩ := h
      exact ⟨r, _, I, .c ⟨cs, I, r, h1, h2, rfl, rfl, rfl⟩, h3⟩
    · exact h.elim
  · unfold callW at h
    split at h
    · obtain ⟨pre, r, wr, h1, h2, h3⟩ := h
      exact ⟨r, wr, _, .w ⟨pre, r, wr, h1, h2, rfl, rfl, rfl⟩, h3⟩
    · exact h.elim
theorem callD_mono {f : AV} {args : List AV} {σ : Hp} {id : Nat} {K K' : AEnd → Wr → List Nat → Prop} (h : callD P f args σ id K) (hk : ∀ r wr rd, K r wr rd → K' r wr rd) : callD P f args σ id K' := by
  rcases h with h | h
  · unfold callC at h
    split at h
    · obtain ⟨cs, I, r, h1, h2, h3⟩ := h
      exact .c ⟨cs, I, r, h1, h2, hk _ _ _ h3⟩
    · exact h.elim
  · unfold callW at h
    split at h
    · obtain ⟨pre, r, wr, h1, h2, h3⟩ := h
      exact .w ⟨pre, r, wr, h1, h2, hk _ _ _ h3⟩
    · exact h.elim
theorem dstep_split {op : SOp} {fr : Regs} {σ : Hp} {id : Nat} {Kx : Value → List Nat → Prop} {K : AV → Wr → List Nat → Prop} (h : dstep P op fr σ id Kx K) :
    (∃ v wr rd, Runs P op (fr, σ) id v wr rd ∧ K v wr rd) ∨ (∃ x rd, Pans P op (fr, σ) id x rd ∧ Kx x rd) := by
  have plain : (if quiet op = true then bindP (semR σ (Opd.get fr) op) (fun v => K v [] (rdR (Opd.get fr) op)) else bindH (semH σ id (Opd.get fr) op) (fun v wr => K v wr (rdH (Opd.get fr) op wr))) → ∃ v wr rd, Runs P op (fr, σ) id v wr rd ∧ K v wr rd := by
    intro h
    split at h
    · rename_i hq
      unfold bindP at h
      split at h
      · rename_i v hv; exact ⟨v, [], _, .inl ⟨hq, hv, rfl, rfl⟩, h⟩
      · exact h.elim
    · unfold bindH at h
      split at h
      · rename_i v wr hv; exact ⟨v, wr, _, .inr (.inl ⟨hv, rfl⟩), h⟩
      · exact h.elim
  cases op with
  | call f args =>
    simp only [dstep] at h
    obtain ⟨r, wr, rd, h1, h2⟩ := callD_split h
    cases r with
    | ret v => exact .inl ⟨v, wr, rd, .inr (.inr ⟨f, args, rfl, h1⟩), h2⟩
    | pan x => exact .inr ⟨x, rd, .inl ⟨f, args, rfl, callD_mono h1 (fun _ _ _ h => ⟨h.1, h.2.2⟩)⟩, h2⟩
  | pan y =>
    simp only [dstep, PAN] at h
    split at h
    · rename_i t v hv
      exact .inr ⟨_, _, .inr ⟨y, rfl, by unfold PAN; rw [hv]⟩, h⟩
    · exact h.elim
  | _ => simp only [dstep] at h; exact .inl (plain h)
end
end Go.Proofs.Ytlhnncmflnjinaa.Am

set_option linter.unusedSimpArgs false
set_option linter.unusedVariables false
namespace Go.Proofs.Ytlhnncmflnjinaa.Am
open Go Go.RowKit

theorem brwL_frame' {σ σ' : Hp} {d : Nat} (hd : ∀ x c I, brw σ d x = some (c, I) → (∀ i ∈ I, σ i = σ' i) → brw σ' d x = some (c, I)) : ∀ (l cs : List AV) (I : List Nat), brwL σ d l = some (cs, I) → (∀ i ∈ I, σ i = σ' i) → brwL σ' d l = some (cs, I)
  | [], cs, I, h, _ => h
  | x :: l, cs, I, h, hI => by
    simp only [brwL, List.foldr_cons] at h ⊢
    split at h
    · rename_i c J cs' I' h1 h2
      simp only [Option.some.injEq, Prod.mk.injEq] at h
      obtain ⟨rfl, rfl⟩ := h
      have h3 := brwL_frame' hd l cs' I' h2 (fun i hi => hI i (List.mem_append_right _ hi))
      simp only [brwL] at h3
      rw [hd _ _ _ h1 (fun i hi => hI i (List.mem_append_left _ hi)), h3]
    · cases h
theorem brwR_frame' {σ σ' : Hp} {d : Nat} (hd : ∀ x c I, brw σ d x = some (c, I) → (∀ i ∈ I, σ i = σ' i) → brw σ' d x = some (c, I)) : ∀ (l cs : List (List AV)) (I : List Nat), brwR σ d l = some (cs, I) → (∀ i ∈ I, σ i = σ' i) → brwR σ' d l = some (cs, I)
  | [], cs, I, h, _ => h
  | x :: l, cs, I, h, hI => by
    simp only [brwR, List.foldr_cons] at h ⊢
    split at h
    · rename_i c J cs' I' h1 h2
      simp only [Option.some.injEq, Prod.mk.injEq] at h
      obtain ⟨rfl, rfl⟩ := h
      have h3 := brwR_frame' hd l cs' I' h2 (fun i hi => hI i (List.mem_append_right _ hi))
      simp only [brwR] at h3
      rw [brwL_frame' hd _ _ _ h1 (fun i hi => hI i (List.mem_append_left _ hi)), h3]
    · cases h
theorem brw_frame {σ σ' : Hp} : ∀ (d : Nat) (x c : AV) (I : List Nat), brw σ d x = some (c, I) → (∀ i ∈ I, σ i = σ' i) → brw σ' d x = some (c, I) := by
  intro d
  induction d with
  | zero => intro x c I h hI; cases x <;> exact h
  | succ d ih =>
    intro x c I h hI
    cases x with
    | fn f l =>
      change (brwL σ d l).map (fun p => (AV.fn f p.1, p.2)) = some (c, I) at h
      change (brwL σ' d l).map (fun p => (AV.fn f p.1, p.2)) = some (c, I)
      obtain ⟨q, h1, h2⟩ := Option.map_eq_some_iff.1 h
      cases h2
      rw [brwL_frame' ih l q.1 q.2 h1 hI]; rfl
    | ag l =>
      change (brwL σ d l).map (fun p => (AV.ag p.1, p.2)) = some (c, I) at h
      change (brwL σ' d l).map (fun p => (AV.ag p.1, p.2)) = some (c, I)
      obtain ⟨q, h1, h2⟩ := Option.map_eq_some_iff.1 h
      cases h2
      rw [brwL_frame' ih l q.1 q.2 h1 hI]; rfl
    | tp l =>
      change (brwL σ d l).map (fun p => (AV.tp p.1, p.2)) = some (c, I) at h
      change (brwL σ' d l).map (fun p => (AV.tp p.1, p.2)) = some (c, I)
      obtain ⟨q, h1, h2⟩ := Option.map_eq_some_iff.1 h
      cases h2
      rw [brwL_frame' ih l q.1 q.2 h1 hI]; rfl
    | ow i k off len =>
      change (match σ i with
        | some (.c x) => if x.k = k ∧ x.cl = true ∧ off + len ≤ x.rows.length ∧ 0 < k then some (AV.tr ((x.rows.drop off).take len), [i])
          else if x.k = k ∧ off + len ≤ x.rows.length ∧ 0 < k then (brwR σ d ((x.rows.drop off).take len)).map (fun p => (AV.tr p.1, i :: p.2)) else none
        | _ => none) = some (c, I) at h
      change (match σ' i with
        | some (.c x) => if x.k = k ∧ x.cl = true ∧ off + len ≤ x.rows.length ∧ 0 < k then some (AV.tr ((x.rows.drop off).take len), [i])
          else if x.k = k ∧ off + len ≤ x.rows.length ∧ 0 < k then (brwR σ' d ((x.rows.drop off).take len)).map (fun p => (AV.tr p.1, i :: p.2)) else none
        | _ => none) = some (c, I)
      split at h
      · rename_i x hσ
        split at h
        · rename_i hc
          simp only [Option.some.injEq, Prod.mk.injEq] at h
          obtain ⟨rfl, rfl⟩ := h
          rw [← hI i (by simp), hσ]
          simp only
          rw [if_pos hc]
        · rename_i hc
          split at h
          · rename_i hc2
            obtain ⟨q, h1, h2⟩ := Option.map_eq_some_iff.1 h
            cases h2
            rw [← hI i (by simp), hσ]
            simp only
            rw [if_neg hc, if_pos hc2, brwR_frame' ih _ q.1 q.2 h1 (fun j hj => hI j (by simp [hj]))]; rfl
          · cases h
      · cases h
    | rf i k rr cc =>
      change (match σ i with
        | some (.c x) => if x.k = k then (match x.rows[rr]? with
          | some row => if cc < row.length then ((brwL σ d (row.drop cc)).map fun p => (AV.fp p.1, i :: p.2)) else none
          | none => none) else none
        | _ => none) = some (c, I) at h
      change (match σ' i with
        | some (.c x) => if x.k = k then (match x.rows[rr]? with
          | some row => if cc < row.length then ((brwL σ' d (row.drop cc)).map fun p => (AV.fp p.1, i :: p.2)) else none
          | none => none) else none
        | _ => none) = some (c, I)
      split at h
      · rename_i x hσ
        split at h
        · rename_i hk
          cases hrow : x.rows[rr]? with
          | none => simp [hrow] at h
          | some row =>
            simp only [hrow] at h
            split at h
            · rename_i hc
              obtain ⟨q, h1, h2⟩ := Option.map_eq_some_iff.1 h
              cases h2
              rw [← hI i (by simp), hσ]
              simp only
              rw [if_pos hk, hrow]
              simp only
              rw [if_pos hc, brwL_frame' ih _ q.1 q.2 h1 (fun j hj => hI j (by simp [hj]))]; rfl
            · cases h
        · cases h
      · cases h
    | _ => exact h
theorem brwL_frame {σ σ' : Hp} {d : Nat} {l cs : List AV} {I : List Nat} (h : brwL σ d l = some (cs, I)) (hI : ∀ i ∈ I, σ i = σ' i) : brwL σ' d l = some (cs, I) := brwL_frame' (brw_frame d) l cs I h hI
theorem frz_frame {σ σ' : Hp} : ∀ (I : List Nat), (∀ i ∈ I, σ i = σ' i) → frz σ I = frz σ' I
  | [], _ => rfl
  | i :: I, h => by
    simp only [frz]
    rw [frz_frame I (fun j hj => h j (List.mem_cons_of_mem _ hj)), h i List.mem_cons_self]
theorem frz_names (σ : Hp) : ∀ I : List Nat, names (frz σ I) = I
  | [] => rfl
  | i :: I => by simp only [frz, names, List.map_cons]; exact congrArg (i :: ·) (frz_names σ I)
theorem fillR_mem {σ : Hp} {k : Nat} : ∀ (ps : List (Nat × AV)) (l rows : List (List AV)) (I I' : List Nat), fillR σ k ps l I = some (rows, I') → ∀ i ∈ I, i ∈ I'
  | [], l, rows, I, I', h, i, hi => by simp only [fillR, Option.some.injEq, Prod.mk.injEq] at h; rw [← h.2]; exact hi
  | (j, x) :: ps, l, rows, I, I', h, i, hi => by
    simp only [fillR] at h
    split at h
    · split at h
      · split at h
        · exact fillR_mem ps _ _ _ _ h i (List.mem_append_right _ hi)
        · cases h
      · cases h
    · cases h
theorem fillR_frame {σ σ' : Hp} {k : Nat} : ∀ (ps : List (Nat × AV)) (l rows : List (List AV)) (I I' : List Nat), fillR σ k ps l I = some (rows, I') → (∀ i ∈ I', σ i = σ' i) → fillR σ' k ps l I = some (rows, I')
  | [], l, rows, I, I', h, _ => h
  | (j, x) :: ps, l, rows, I, I', h, hI => by
    simp only [fillR] at h ⊢
    split at h
    · rename_i c J hb
      split at h
      · rename_i cs hc
        split at h
        · rename_i hk
          rw [brw_frame 6 x c J hb (fun i hi => hI i (fillR_mem ps _ _ _ _ h i (List.mem_append_left _ hi)))]
          simp only [hc]
          rw [if_pos hk]
          exact fillR_frame ps _ _ _ _ h hI
        · cases h
      · cases h
    · cases h
section
variable {P : Program}
theorem get_congr {g g' : Opd → AV} : ∀ {l : List Opd}, (∀ x ∈ l, g x = g' x) → l.map g = l.map g' := fun h => List.map_congr_left h
theorem semR_frame {σ σ' : Hp} {g g' : Opd → AV} {op : SOp} (hg : ∀ x ∈ opds op, g x = g' x) (hs : ∀ i ∈ rdR g op, σ i = σ' i) : semR σ g op = semR σ' g' op := by
  cases op <;> simp only [opds, List.mem_cons, List.not_mem_nil, or_false, forall_eq_or_imp, forall_eq, List.mem_append, Option.mem_toList] at hg <;> try (simp only [semR, hg]; done)
  case build zs ps =>
    simp only [semR]
    congr 1
    apply List.map_congr_left
    intro p hp
    rw [hg p.2.2 (List.mem_map.2 ⟨p, hp, rfl⟩)]
  case ld m x =>
    simp only [semR]
    rw [← hg]
    simp only [rdR, rdA] at hs
    unfold aLd
    split
    · rename_i i k r c hx
      rw [hx] at hs
      rw [hs i (by simp)]
    · rfl
    · rfl
  case lkp z ok x k =>
    simp only [semR]
    rw [← hg.1, ← hg.2]
    simp only [rdR] at hs
    unfold aLkp
    split
    · rename_i i l hx hk
      rw [hx] at hs
      rw [hs i (by simp [rdM])]
    · rfl
  case cvb x =>
    simp only [semR]
    rw [← hg]
    simp only [rdR] at hs
    unfold aCvb
    have hy : rowsOf σ 1 (g x) = rowsOf σ' 1 (g x) := by
      unfold rowsOf
      split
      · rfl
      · rfl
      · rename_i i k' off len hyv
        rw [hs i (by simp [rdY, hyv])]
      · rfl
    rw [hy]
  case slc k x lo hi mx =>
    obtain ⟨h1, h2⟩ := hg
    have e1 : lo.map g = lo.map g' := by cases lo <;> simp_all
    have e2 : hi.map g = hi.map g' := by cases hi <;> simp_all
    have e3 : mx.map g = mx.map g' := by cases mx <;> simp_all
    simp only [semR, h1, e1, e2, e3]
  case sstr x lo hi =>
    obtain ⟨h1, h2⟩ := hg
    have e1 : lo.map g = lo.map g' := by cases lo <;> simp_all
    have e2 : hi.map g = hi.map g' := by cases hi <;> simp_all
    simp only [semR, h1, e1, e2]
  case mkf f caps => simp only [semR]; rw [get_congr hg]
theorem semH_frame {σ σ' : Hp} {id : Nat} {g g' : Opd → AV} {op : SOp} {v : AV} {wr : Wr} (h : semH σ id g op = some (v, wr)) (hg : ∀ x ∈ opds op, g x = g' x) (hs : ∀ i ∈ rdH g op wr, σ i = σ' i) : semH σ' id g' op = some (v, wr) := by
  cases op <;> simp only [semH, reduceCtorEq] at h <;> simp only [opds, List.mem_cons, List.not_mem_nil, or_false, forall_eq_or_imp, forall_eq] at hg
  case alloc zs => exact h
  case mkm => exact h
  case mup x k u =>
    simp only [semH]
    rw [← hg.1, ← hg.2.1, ← hg.2.2]
    unfold hMup at h ⊢
    split at h
    · rename_i i l uu hx hk hu
      split at h
      · rename_i es hσ
        have hi : σ i = σ' i := hs i (by
          split at h
          · cases h; simp [rdH, names]
          · cases h; simp [rdH, names]
          · cases h)
        rw [← hi, hσ]; exact h
      · cases h
    · cases h
  case clm x =>
    simp only [semH]
    rw [← hg]
    unfold hClm at h ⊢
    split at h
    · rename_i i hx
      split at h
      · rename_i es hσ
        cases h
        have hi : σ i = σ' i := hs i (by simp [rdH, names])
        rw [← hi, hσ]
      · cases h
    · cases h
  case box x => simp only [semH]; rw [← hg]; exact h
  case bsl k zs len ps =>
    have e : ps.map (fun p => (p.1, g p.2)) = ps.map (fun p => (p.1, g' p.2)) := by
      apply List.map_congr_left
      intro p hp
      rw [hg p.2 (List.mem_map.2 ⟨p, hp, rfl⟩)]
    simp only [semH]
    rw [← e]
    unfold hBsl at h ⊢
    split at h
    · rename_i rows I hf
      simp only [Option.some.injEq, Prod.mk.injEq] at h
      obtain ⟨rfl, rfl⟩ := h
      have hI : ∀ i ∈ I, σ i = σ' i := fun i hi => hs i (by
        simp only [rdH, names, List.map_append, List.mem_append]
        exact .inl (by rw [show (frz σ I).map (·.1) = I from frz_names σ I]; exact hi))
      rw [fillR_frame _ _ _ _ _ hf hI, frz_frame I hI]
    · cases h
  case st m x y =>
    simp only [semH]
    rw [← hg.1, ← hg.2]
    unfold hSt at h ⊢
    split at h
    · rename_i i k r c hx
      split at h
      · rename_i b hσ
        split at h
        · rename_i hk
          split at h
          · rename_i row l h1 h2
            split at h
            · rename_i hc
              simp only [Option.some.injEq, Prod.mk.injEq] at h
              obtain ⟨rfl, rfl⟩ := h
              rw [← hs i (by simp [rdH, names]), hσ]
              simp only
              rw [if_pos hk, h1, h2]
              simp only
              rw [if_pos hc]
            · cases h
          · cases h
        · cases h
      · cases h
    · cases h
  case app k b x y =>
    simp only [semH]
    rw [← hg.1, ← hg.2]
    have hy : ∀ news, rowsOf σ k (g y) = some news → rowsOf σ' k (g y) = some news := by
      intro news hn
      unfold rowsOf at hn ⊢
      split at hn
      · exact hn
      · exact hn
      · rename_i i k' off len hyv
        rw [← hs i (by simp [rdH, rdY, hyv])]
        exact hn
      · cases hn
    unfold hApp at h ⊢
    split at h
    · rename_i news hn
      rw [hy news hn]
      simp only
      split at h
      · rename_i hl
        rw [if_pos hl]
        split at h
        · exact h
        · rename_i i k' len hxv
          rw [← hs i (by simp [rdH, rdY, hxv])]
          exact h
        · cases h
      · cases h
    · cases h
theorem callD_frame {f : AV} {args : List AV} {σ σ' : Hp} {id : Nat} {Q : AEnd → Prop} {wr : Wr} {rd : List Nat} (h : callD P f args σ id (fun r w d => Q r ∧ w = wr ∧ d = rd)) (hs : ∀ i ∈ rd, σ i = σ' i) : callD P f args σ' id (fun r w d => Q r ∧ w = wr ∧ d = rd) := by
  rcases h with h | h
  · unfold callC at h
    split at h
    · obtain ⟨cs, I, r, h1, h2, h3, h4, rfl⟩ := h
      exact .c ⟨cs, I, r, brwL_frame h1 hs, h2, h3, by rw [← h4, frz_frame I hs], rfl⟩
    · exact h.elim
  · unfold callW at h
    split at h
    · obtain ⟨pre, r, w, h1, h2, h3, h4, rfl⟩ := h
      exact .w ⟨pre, r, w, fun p hp => by rw [← hs p.1 (List.mem_map.2 ⟨p, hp, rfl⟩)]; exact h1 p hp, h2, h3, h4, rfl⟩
    · exact h.elim
theorem opds_of {fr fr' : Regs} {o : SOper} (h : ∀ t ∈ optmps o, fr t = fr' t) : ∀ x ∈ opds o.op, Opd.get fr x = Opd.get fr' x := by
  intro x hx
  cases x with
  | t i => exact h i (by unfold optmps; exact List.mem_append_left _ (List.mem_filterMap.2 ⟨.t i, hx, rfl⟩))
  | c a => rfl
theorem rdR_congr {g g' : Opd → AV} {op : SOp} (hg : ∀ x ∈ opds op, g x = g' x) : rdR g op = rdR g' op := by
  cases op <;> try rfl
  case ld m x => simp only [rdR]; rw [hg x (by simp [opds])]
  case cvb x => simp only [rdR]; rw [hg x (by simp [opds])]
  case lkp z ok x k => simp only [rdR]; rw [hg x (by simp [opds])]
theorem rdH_congr {g g' : Opd → AV} {op : SOp} {wr : Wr} (hg : ∀ x ∈ opds op, g x = g' x) : rdH g op wr = rdH g' op wr := by
  cases op <;> try rfl
  case app k b x y => simp only [rdH]; rw [hg x (by simp [opds]), hg y (by simp [opds])]
theorem Runs.frame {st st' : St} {o : SOper} {id : Nat} {v : AV} {wr : Wr} {rd : List Nat} (h : Runs P o.op st id v wr rd) (hr : ∀ t ∈ optmps o, st.1 t = st'.1 t) (hs : ∀ i ∈ rd, st.2 i = st'.2 i) : Runs P o.op st' id v wr rd := by
  have hg := opds_of hr
  rcases h with ⟨h1, h2, h3, h4⟩ | ⟨h1, h2⟩ | ⟨f, args, h1, h2⟩
  · exact .inl ⟨h1, by rw [← semR_frame hg (by rw [← h4]; exact hs)]; exact h2, h3, by rw [← rdR_congr hg]; exact h4⟩
  · exact .inr (.inl ⟨semH_frame h1 hg (by rw [← h2]; exact hs), by rw [← rdH_congr hg]; exact h2⟩)
  · rw [h1] at hg
    simp only [opds, List.mem_cons, forall_eq_or_imp] at hg
    refine .inr (.inr ⟨f, args, h1, ?_⟩)
    rw [← hg.1, ← get_congr hg.2]
    exact callD_frame (Q := fun r => r = .ret v) h2 hs
theorem Pans.frame {st st' : St} {o : SOper} {id : Nat} {x : Value} {rd : List Nat} (h : Pans P o.op st id x rd) (hr : ∀ t ∈ optmps o, st.1 t = st'.1 t) (hs : ∀ i ∈ rd, st.2 i = st'.2 i) : Pans P o.op st' id x rd := by
  have hg := opds_of hr
  rcases h with ⟨f, args, h1, h2⟩ | ⟨y, h1, h2⟩
  · rw [h1] at hg
    simp only [opds, List.mem_cons, forall_eq_or_imp] at hg
    refine .inl ⟨f, args, h1, ?_⟩
    rw [← hg.1, ← get_congr hg.2]
    obtain ⟨r, w, d, h3, h4⟩ := callD_split h2
    obtain ⟨rfl, rfl⟩ := h4
    exact callD_mono (callD_frame (Q := fun r => r = .pan x) h3 hs) (fun _ _ _ h => ⟨h.1, h.2.2⟩)
  · rw [h1] at hg
    exact .inr ⟨y, h1, by rw [← hg y (by simp [opds])]; exact h2⟩
end
/-! states behind some of the operations -/
theorem stL_append (L : Nat → Bool) : ∀ (i : Nat) (es es' : List Eff) (st : St), stL L i (es ++ es') st = stL L (i + es.length) es' (stL L i es st)
  | i, [], es', st => by simp [stL]
  | i, e :: es, es', st => by
    simp only [List.cons_append, stL, List.length_cons]
    rw [stL_append L (i + 1) es es']
    congr 1; omega
theorem stL_congr {L L' : Nat → Bool} : ∀ (i : Nat) (es : List Eff) (st : St), (∀ j, i ≤ j → j < i + es.length → L j = L' j) → stL L i es st = stL L' i es st
  | i, [], st, h => rfl
  | i, e :: es, st, h => by
    simp only [stL]
    rw [h i (Nat.le_refl _) (by simp)]
    exact stL_congr (i + 1) es _ (fun j h1 h2 => h j (by omega) (by simp; omega))
theorem stL_none {L : Nat → Bool} : ∀ (i : Nat) (es : List Eff) (st : St), (∀ j, i ≤ j → j < i + es.length → L j = false) → stL L i es st = st
  | i, [], st, h => rfl
  | i, e :: es, st, h => by
    simp only [stL]
    rw [h i (Nat.le_refl _) (by simp)]
    simp only [cond_false]
    exact stL_none (i + 1) es _ (fun j h1 h2 => h j (by omega) (by simp; omega))
theorem applyW_get : ∀ (wr : Wr) (σ : Hp) (i : Nat), i ∉ names wr → applyW σ wr i = σ i
  | [], σ, i, h => rfl
  | (j, x) :: wr, σ, i, h => by
    simp only [names, List.map_cons, List.mem_cons, not_or] at h
    simp only [applyW]
    rw [applyW_get wr _ i h.2, upd_ne _ _ h.1]
theorem applyW_congr : ∀ (wr : Wr) (σ σ' : Hp) (i : Nat), σ i = σ' i → applyW σ wr i = applyW σ' wr i
  | [], σ, σ', i, h => h
  | (j, x) :: wr, σ, σ', i, h => by
    simp only [applyW]
    refine applyW_congr wr _ _ i ?_
    unfold upd
    split
    · rfl
    · exact h
theorem applyW_mem : ∀ (wr : Wr) (σ σ' : Hp) (i : Nat), i ∈ names wr → applyW σ wr i = applyW σ' wr i
  | [], σ, σ', i, h => by cases h
  | (j, x) :: wr, σ, σ', i, h => by
    simp only [applyW]
    by_cases hin : i ∈ names wr
    · exact applyW_mem wr _ _ i hin
    · have hj : i = j := by simp only [names, List.map_cons, List.mem_cons] at h; exact h.resolve_right hin
      subst hj
      rw [applyW_get wr _ i hin, applyW_get wr _ i hin, upd_same, upd_same]
theorem applyW_comm {wr wr' : Wr} (h : ∀ x ∈ names wr, x ∉ names wr') (σ : Hp) : applyW (applyW σ wr) wr' = applyW (applyW σ wr') wr := by
  funext i
  by_cases h1 : i ∈ names wr
  · rw [applyW_get wr' _ i (h i h1)]
    exact applyW_mem wr _ _ i h1
  · rw [applyW_get wr _ i h1]
    exact applyW_congr wr' _ _ i (applyW_get wr _ i h1)
theorem put_comm {fr : Regs} {d d' : Option Nat} {v v' : AV} (h : ∀ t, d = some t → d' ≠ some t) : Am.put (Am.put fr d v) d' v' = Am.put (Am.put fr d' v') d v := by
  cases d with
  | none => rfl
  | some d =>
    cases d' with
    | none => rfl
    | some d' =>
      have hne : d ≠ d' := fun e => h d rfl (by rw [e])
      funext t
      simp only [Am.put]
      by_cases e1 : t = d
      · subst e1; simp [hne]
      · by_cases e2 : t = d'
        · simp [e1, e2, Ne.symm hne]
        · simp [e1, e2]
theorem effApp_comm {e f : Eff} (h1 : ∀ t, e.dst = some t → f.dst ≠ some t) (h2 : ∀ x ∈ names e.wr, x ∉ names f.wr) (st : St) : effApp f (effApp e st) = effApp e (effApp f st) := by
  unfold effApp
  simp only
  rw [put_comm h1, applyW_comm h2]
/-- a state's slot: the listed operations that tell it -/
theorem stL_reg {t : Nat} {L L' : Nat → Bool} : ∀ (i : Nat) (es : List Eff) (st st' : St), st.1 t = st'.1 t → (∀ j e, es[j]? = some e → e.dst = some t → L (i + j) = L' (i + j)) → (stL L i es st).1 t = (stL L' i es st').1 t
  | i, [], st, st', h, _ => h
  | i, e :: es, st, st', h, hL => by
    simp only [stL]
    refine stL_reg (i + 1) es _ _ ?_ (fun j f hf hd => by have := hL (j + 1) f (by simpa using hf) hd; rwa [show i + (j + 1) = i + 1 + j by omega] at this)
    by_cases hd : e.dst = some t
    · have := hL 0 e rfl hd
      rw [Nat.add_zero] at this
      rw [this]
      cases L' i
      · exact h
      · simp [effApp, Am.put, hd]
    · have hp : ∀ st : St, (effApp e st).1 t = st.1 t := by
        intro st
        unfold effApp Am.put
        cases he : e.dst with
        | none => rfl
        | some d =>
          simp only
          rw [if_neg (fun hh => hd (by rw [he, hh]))]
      cases L i <;> cases L' i <;> simp only [cond_false, cond_true, hp, h]
theorem stL_mem {x : Nat} {L L' : Nat → Bool} : ∀ (i : Nat) (es : List Eff) (st st' : St), st.2 x = st'.2 x → (∀ j e, es[j]? = some e → x ∈ names e.wr → L (i + j) = L' (i + j)) → (stL L i es st).2 x = (stL L' i es st').2 x
  | i, [], st, st', h, _ => h
  | i, e :: es, st, st', h, hL => by
    simp only [stL]
    refine stL_mem (i + 1) es _ _ ?_ (fun j f hf hd => by have := hL (j + 1) f (by simpa using hf) hd; rwa [show i + (j + 1) = i + 1 + j by omega] at this)
    by_cases hd : x ∈ names e.wr
    · have := hL 0 e rfl hd
      rw [Nat.add_zero] at this
      rw [this]
      cases L' i
      · exact h
      · exact applyW_mem _ _ _ _ hd
    · have hp : ∀ st : St, (effApp e st).2 x = st.2 x := fun st => applyW_get _ _ _ hd
      cases L i <;> cases L' i <;> simp only [cond_false, cond_true, hp, h]
/-- one operation more is listed -/
theorem stL_insert {L : Nat → Bool} {k : Nat} : ∀ (i : Nat) (es : List Eff) (st : St) (e : Eff), es[k]? = some e → L (i + k) = false → (∀ j f, k < j → es[j]? = some f → L (i + j) = true → (∀ t, e.dst = some t → f.dst ≠ some t) ∧ ∀ x ∈ names e.wr, x ∉ names f.wr) →
    stL (fun j => L j || j == i + k) i es st = effApp e (stL L i es st) := by
  have push : ∀ (i : Nat) (es : List Eff) (st : St) (e : Eff), (∀ j f, es[j]? = some f → L (i + j) = true → (∀ t, e.dst = some t → f.dst ≠ some t) ∧ ∀ x ∈ names e.wr, x ∉ names f.wr) → stL L i es (effApp e st) = effApp e (stL L i es st) := by
    intro i es
    induction es generalizing i with
    | nil => intro st e _; rfl
    | cons f es ih =>
      intro st e h
      simp only [stL]
      cases hL : L i with
      | false => simp only [cond_false]; exact ih (i + 1) st e (fun j g hg hl => h (j + 1) g (by simpa using hg) (by rw [show i + (j + 1) = i + 1 + j by omega]; exact hl))
      | true =>
        simp only [cond_true]
        obtain ⟨h1, h2⟩ := h 0 f rfl hL
        rw [effApp_comm h1 h2]
        exact ih (i + 1) _ e (fun j g hg hl => h (j + 1) g (by simpa using hg) (by rw [show i + (j + 1) = i + 1 + j by omega]; exact hl))
  induction k with
  | zero =>
    intro i es st e he hL hc
    cases es with
    | nil => cases he
    | cons f es =>
      simp only [List.getElem?_cons_zero, Option.some.injEq] at he
      subst he
      rw [Nat.add_zero] at hL
      simp only [stL, Nat.add_zero, beq_self_eq_true, Bool.or_true, cond_true, hL, cond_false]
      rw [stL_congr (L := fun j => L j || j == i) (L' := L) (i + 1) es _ (fun j h1 _ => by simp [show ¬ j = i by omega])]
      exact push (i + 1) es st f (fun j g hg hl => hc (j + 1) g (by omega) (by simpa using hg) (by rw [show i + (j + 1) = i + 1 + j by omega]; exact hl))
  | succ k ih =>
    intro i es st e he hL hc
    cases es with
    | nil => cases he
    | cons f es =>
      simp only [List.getElem?_cons_succ] at he
      simp only [stL]
      have h0 : (i == i + (k + 1)) = false := by simp
      rw [h0, Bool.or_false]
      have := ih (i + 1) es (bif L i then effApp f st else st) e he (by rw [show i + 1 + k = i + (k + 1) by omega]; exact hL) (fun j g hj hg hl => hc (j + 1) g (by omega) (by simpa using hg) (by rw [show i + (j + 1) = i + 1 + j by omega]; exact hl))
      rw [show i + 1 + k = i + (k + 1) by omega] at this
      exact this
end Go.Proofs.Ytlhnncmflnjinaa.Am

set_option linter.unusedSimpArgs false
set_option linter.unusedVariables false
namespace Go.Proofs.Ytlhnncmflnjinaa.Am
open Go Go.RowKit

section
variable {P : Program} {K : Kn} {Kp : Value → Kn} {l0 : List (SOper × List Nat)} {st0 : St} {n : Nat}
def deadAnc (anc : List Nat) (effs : List Eff) : Bool := anc.any (fun i => (effs[i]?).any (·.dead))
/-- what was reckoned -/
structure Trace (P : Program) (K : Kn) (Kp : Value → Kn) (l0 : List (SOper × List Nat)) (st0 : St) (n : Nat) (effs : List Eff) : Prop where
  len : effs.length = l0.length
  ok : ∀ (i : Nat) (o : SOper) (anc : List Nat) (e : Eff), l0[i]? = some (o, anc) → effs[i]? = some e → e.dst = o.dst ∧ (deadAnc anc (effs.take i) = true ∧ e.dead = true ∨ deadAnc anc (effs.take i) = false ∧ OpOk P Kp (stL (fun j => anc.contains j) 0 (effs.take i) st0) (n + 16 * i) o e)
  apt : ∀ (i j : Nat) (oi oj : SOper) (ai aj : List Nat) (ei ej : Eff), i < j → l0[i]? = some (oi, ai) → l0[j]? = some (oj, aj) → effs[i]? = some ei → effs[j]? = some ej → inert oi.op = false → inert oj.op = false → aj.contains i = false → Apt (names ei.wr) ei.rd (names ej.wr) ej.rd
  fin : (∀ e ∈ effs, e.dead = false) → ∀ n', n + 16 * l0.length ≤ n' → K (stL (fun _ => true) 0 effs st0).1 (stL (fun _ => true) 0 effs st0).2 n'
theorem side1_out {anc : List Nat} {w r : List Nat} : ∀ (i : Nat) (l : List (SOper × List Nat)) (es : List Eff) (X : Prop), side1 anc w r i l es X → X ∧ ∀ (k : Nat) (o : SOper) (a : List Nat) (e : Eff), l[k]? = some (o, a) → es[k]? = some e → inert o.op = false → anc.contains (i + k) = false → Apt (names e.wr) e.rd w r
  | i, [], es, X, h => ⟨h, fun k o a e h1 => by simp at h1⟩
  | i, (o, a) :: l, [], X, h => ⟨h, fun k o a e _ h1 => by simp at h1⟩
  | i, (o, a) :: l, e :: es, X, h => by
    simp only [side1] at h
    cases hb : (inert o.op || anc.contains i) with
    | true =>
      rw [hb, cond_true] at h
      obtain ⟨h1, h2⟩ := side1_out (i + 1) l es X h
      refine ⟨h1, fun k o' a' e' hk he hi ha => ?_⟩
      cases k with
      | zero =>
        simp only [List.getElem?_cons_zero, Option.some.injEq, Prod.mk.injEq] at hk
        obtain ⟨rfl, rfl⟩ := hk
        rw [Nat.add_zero] at ha
        rw [hi, ha] at hb; cases hb
      | succ k => exact h2 k o' a' e' (by simpa using hk) (by simpa using he) hi (by rwa [show i + 1 + k = i + (k + 1) by omega])
    | false =>
      rw [hb, cond_false] at h
      obtain ⟨h1, h2⟩ := side1_out (i + 1) l es X h.2
      refine ⟨h1, fun k o' a' e' hk he hi ha => ?_⟩
      cases k with
      | zero =>
        simp only [List.getElem?_cons_zero, Option.some.injEq, Prod.mk.injEq] at hk he
        subst he
        exact h.1
      | succ k => exact h2 k o' a' e' (by simpa using hk) (by simpa using he) hi (by rwa [show i + 1 + k = i + (k + 1) by omega])
theorem sideL_out {l0 : List (SOper × List Nat)} {effs : List Eff} (hlen : effs.length = l0.length) : ∀ (j : Nat) (l : List (SOper × List Nat)) (es : List Eff) (X : Prop), l = l0.drop j → es = effs.drop j → sideL l0 effs j l es X →
    X ∧ ∀ (i k : Nat) (oi oj : SOper) (ai aj : List Nat) (ei ej : Eff), i < k → j ≤ k → l0[i]? = some (oi, ai) → l0[k]? = some (oj, aj) → effs[i]? = some ei → effs[k]? = some ej → inert oi.op = false → inert oj.op = false → aj.contains i = false → Apt (names ei.wr) ei.rd (names ej.wr) ej.rd
  | j, [], es, X, hl, he, h => ⟨h, fun i k oi oj ai aj ei ej _ hjk _ hk => by
      have := (List.getElem?_eq_some_iff.1 hk).1
      have : l0.length ≤ j := List.drop_eq_nil_iff.1 hl.symm
      omega⟩
  | j, (o, a) :: l, [], X, hl, he, h => by
    have h1 : effs.length ≤ j := List.drop_eq_nil_iff.1 he.symm
    have h2 : l0.drop j = [] := List.drop_eq_nil_iff.2 (by omega)
    rw [h2] at hl; cases hl
  | j, (o, a) :: l, e :: es, X, hl, he, h => by
    have hl' : l = l0.drop (j + 1) := by rw [← List.drop_drop, ← hl]; rfl
    have he' : es = effs.drop (j + 1) := by rw [← List.drop_drop, ← he]; rfl
    have hoj : l0[j]? = some (o, a) := by have := congrArg (·[0]?) hl; simpa using this.symm
    have hej : effs[j]? = some e := by have := congrArg (·[0]?) he; simpa using this.symm
    simp only [sideL] at h
    cases hb : inert o.op with
    | true =>
      rw [hb, cond_true] at h
      obtain ⟨h1, h2⟩ := sideL_out hlen (j + 1) l es X hl' he' h
      refine ⟨h1, fun i k oi oj ai aj ei ej hik hjk a1 a2 a3 a4 a5 a6 a7 => ?_⟩
      by_cases hjk' : j = k
      · subst hjk'
        rw [hoj] at a2; cases a2
        rw [a6] at hb; cases hb
      · exact h2 i k oi oj ai aj ei ej hik (by omega) a1 a2 a3 a4 a5 a6 a7
    | false =>
      rw [hb, cond_false] at h
      obtain ⟨h0, h3⟩ := side1_out 0 _ _ _ h
      obtain ⟨h1, h2⟩ := sideL_out hlen (j + 1) l es X hl' he' h0
      refine ⟨h1, fun i k oi oj ai aj ei ej hik hjk a1 a2 a3 a4 a5 a6 a7 => ?_⟩
      by_cases hjk' : j = k
      · subst hjk'
        rw [hoj] at a2; cases a2
        rw [hej] at a4; cases a4
        exact h3 i oi ai ei (by rw [List.getElem?_take, if_pos hik]; exact a1) a3 a5 (by rw [Nat.zero_add]; exact a7)
      · exact h2 i k oi oj ai aj ei ej hik (by omega) a1 a2 a3 a4 a5 a6 a7
theorem trace_of : ∀ (rest : List (SOper × List Nat)) (effs : List Eff) (pn : Option Value), rest = l0.drop effs.length → effs.length ≤ l0.length →
    (∀ (i : Nat) (o : SOper) (anc : List Nat) (e : Eff), l0[i]? = some (o, anc) → effs[i]? = some e → e.dst = o.dst ∧ (deadAnc anc (effs.take i) = true ∧ e.dead = true ∨ deadAnc anc (effs.take i) = false ∧ ((∀ x, (e.dead = true → pn = some x → ∀ fr σ n, Kp x fr σ n)) → (e.dead = true → ∃ x, pn = some x) → OpOk P Kp (stL (fun j => anc.contains j) 0 (effs.take i) st0) (n + 16 * i) o e) ∧ (e.dead = true → ∃ x, pn = some x))) →
    ((∃ e ∈ effs, e.dead = true) → ∃ x, pn = some x) → (pn.isSome → ∃ e ∈ effs, e.dead = true) →
    dops P K Kp l0 st0 n rest effs pn → ∃ effs', Trace P K Kp l0 st0 n effs'
  | [], effs, pn, hr, hle, hok, hd1, hd2, h => by
    have hlen : effs.length = l0.length := by
      have : l0.length ≤ effs.length := List.drop_eq_nil_iff.1 hr.symm
      omega
    have fin : ∀ X : Prop, sideL l0 effs 0 l0 effs X → (X → (∀ x, pn = some x → ∀ fr σ n, Kp x fr σ n)) → (X → pn = none → ∀ n', n + 16 * l0.length ≤ n' → K (stL (fun _ => true) 0 effs st0).1 (stL (fun _ => true) 0 effs st0).2 n') → ∃ effs', Trace P K Kp l0 st0 n effs' := by
      intro X hX h1 h2
      obtain ⟨hx, hap⟩ := sideL_out hlen 0 l0 effs X rfl rfl hX
      refine ⟨effs, hlen, fun i o anc e a1 a2 => ?_, fun i j oi oj ai aj ei ej hij a1 a2 a3 a4 a5 a6 a7 => hap i j oi oj ai aj ei ej hij (Nat.zero_le _) a1 a2 a3 a4 a5 a6 a7, fun hnd => h2 hx ?_⟩
      · obtain ⟨b1, b2⟩ := hok i o anc e a1 a2
        exact ⟨b1, b2.imp (fun h => h) (fun h => ⟨h.1, h.2.1 (fun x _ hp => h1 hx x hp) h.2.2⟩)⟩
      · cases hp : pn with
        | none => rfl
        | some x =>
          obtain ⟨e, he, hde⟩ := hd2 (by simp [hp])
          rw [hnd e he] at hde; cases hde
    cases pn with
    | none => simp only [dops] at h; exact fin _ h (fun _ x hx => by cases hx) (fun hx _ => hx)
    | some x => simp only [dops] at h; exact fin _ h (fun hx y hy => by cases hy; exact hx) (fun _ hx => by cases hx)
  | (o, anc) :: rest, effs, pn, hr, hle, hok, hd1, hd2, h => by
    have hlt : effs.length < l0.length := by
      rcases Nat.lt_or_ge effs.length l0.length with h | h
      · exact h
      · rw [List.drop_eq_nil_iff.2 h] at hr; cases hr
    have hr' : rest = l0.drop (effs.length + 1) := by rw [← List.drop_drop, ← hr]; rfl
    have hoj : l0[effs.length]? = some (o, anc) := by have := congrArg (·[0]?) hr; simpa using this.symm
    -- one more
    have more : ∀ (e : Eff) (pn' : Option Value), e.dst = o.dst → (pn = none ∨ pn' = pn) → (pn'.isSome = true → pn.isSome = true ∨ e.dead = true) → (e.dead = true → deadAnc anc effs = true ∨ pn'.isSome = true) →
        (deadAnc anc effs = true ∧ e.dead = true ∨ deadAnc anc effs = false ∧ ((∀ x, (e.dead = true → pn' = some x → ∀ fr σ n, Kp x fr σ n)) → OpOk P Kp (stL (fun j => anc.contains j) 0 effs st0) (n + 16 * effs.length) o e)) →
        dops P K Kp l0 st0 n rest (effs ++ [e]) pn' → ∃ effs', Trace P K Kp l0 st0 n effs' := by
      intro e pn' hed hpn hpn2 hde hone hgo
      have hdeadpn : (∃ e ∈ effs, e.dead = true) → ∃ x, pn' = some x := by
        intro hx
        obtain ⟨x, hx'⟩ := hd1 hx
        rcases hpn with h | h
        · rw [h] at hx'; cases hx'
        · exact ⟨x, h.trans hx'⟩
      have hda : deadAnc anc effs = true → ∃ e ∈ effs, e.dead = true := by
        intro hda
        unfold deadAnc at hda
        obtain ⟨i, _, hi2⟩ := List.any_eq_true.1 hda
        cases hei : effs[i]? with
        | none => rw [hei] at hi2; cases hi2
        | some e => rw [hei] at hi2; exact ⟨e, List.mem_of_getElem? hei, by simpa using hi2⟩
      refine trace_of rest (effs ++ [e]) pn' (by simpa using hr') (by simp; omega) ?_ ?_ ?_ hgo
      · intro i o' anc' e' a1 a2
        rcases Nat.lt_trichotomy i effs.length with hi | hi | hi
        · rw [List.getElem?_append_left hi] at a2
          rw [List.take_append_of_le_length (by omega)]
          obtain ⟨b1, b2⟩ := hok i o' anc' e' a1 a2
          refine ⟨b1, b2.imp (fun h => h) (fun ⟨h1, h2, h3⟩ => ⟨h1, fun q1 q2 => h2 (fun x hx hp => ?_) h3, fun hx => hdeadpn ⟨e', List.mem_of_getElem? a2, hx⟩⟩)⟩
          rcases hpn with h | h
          · rw [h] at hp; cases hp
          · exact q1 x hx (h.trans hp)
        · subst hi
          rw [hoj] at a1; cases a1
          simp at a2
          subst a2
          rw [List.take_append_of_le_length (Nat.le_refl _), List.take_length]
          refine ⟨hed, hone.imp (fun h => h) (fun ⟨h1, h2⟩ => ⟨h1, fun q1 _ => h2 q1, fun hx => ?_⟩)⟩
          rcases hde hx with h | h
          · rw [h1] at h; cases h
          · exact Option.isSome_iff_exists.1 h
        · rw [List.getElem?_eq_none (by simp; omega)] at a2; cases a2
      · rintro ⟨e', he', hd'⟩
        rcases List.mem_append.1 he' with he' | he'
        · exact hdeadpn ⟨e', he', hd'⟩
        · simp only [List.mem_singleton] at he'
          subst he'
          rcases hde hd' with h | h
          · exact hdeadpn (hda h)
          · exact Option.isSome_iff_exists.1 h
      · intro hs
        rcases hpn2 hs with h | h
        · obtain ⟨e', he', hd'⟩ := hd2 h
          exact ⟨e', List.mem_append_left _ he', hd'⟩
        · exact ⟨e, by simp, h⟩
    unfold dops at h
    rw [show anc.any (fun i => (effs[i]?).any (·.dead)) = deadAnc anc effs from rfl] at h
    cases hdd : deadAnc anc effs with
    | true =>
      rw [hdd, cond_true] at h
      exact more _ pn rfl (.inr rfl) (fun h => .inl h) (fun _ => .inl hdd) (.inl ⟨hdd, rfl⟩) h
    | false =>
      rw [hdd, cond_false] at h
      have ran : ∀ v wr rd, Asked (stL (fun j => anc.contains j) 0 effs st0) o → Runs P o.op (stL (fun j => anc.contains j) 0 effs st0) (n + 16 * effs.length) v wr rd → dops P K Kp l0 st0 n rest (effs ++ [⟨o.dst, v, wr, rd, false⟩]) pn → ∃ effs', Trace P K Kp l0 st0 n effs' :=
        fun v wr rd ha hr hgo => more _ pn rfl (.inr rfl) (fun h => .inl h) (fun h => by cases h) (.inr ⟨hdd, fun _ => .inl ⟨rfl, .inr ⟨ha, hr⟩⟩⟩) hgo
      have skp : ∀ rd, (inert o.op = true → rd = []) → Skipped (stL (fun j => anc.contains j) 0 effs st0) o → dops P K Kp l0 st0 n rest (effs ++ [⟨o.dst, .tp [], [], rd, false⟩]) pn → ∃ effs', Trace P K Kp l0 st0 n effs' :=
        fun rd hin ha hgo => more _ pn rfl (.inr rfl) (fun h => .inl h) (fun h => by cases h) (.inr ⟨hdd, fun _ => .inl ⟨rfl, .inl ⟨ha, rfl, rfl, hin⟩⟩⟩) hgo
      have stp : Asked (stL (fun j => anc.contains j) 0 effs st0) o → dstep P o.op (stL (fun j => anc.contains j) 0 effs st0).1 (stL (fun j => anc.contains j) 0 effs st0).2 (n + 16 * effs.length)
        (fun x rd => once pn (dops P K Kp l0 st0 n rest (effs ++ [⟨o.dst, .tp [], [], rd, true⟩]) (some x)))
        (fun v wr rd => dops P K Kp l0 st0 n rest (effs ++ [⟨o.dst, v, wr, rd, false⟩]) pn) → ∃ effs', Trace P K Kp l0 st0 n effs' := by
        intro ha h
        rcases dstep_split h with ⟨v, wr, rd, h1, h2⟩ | ⟨x, rd, h1, h2⟩
        · exact ran v wr rd ha h1 h2
        · obtain ⟨h2, h3⟩ := once_iff.1 h2
          exact more _ (some x) rfl (.inl h2) (fun _ => .inr rfl) (fun _ => .inr rfl) (.inr ⟨hdd, fun hk => .inr ⟨rfl, x, ha, h1, hk x rfl rfl⟩⟩) h3
      split at h
      · rename_i hg; exact stp (.inl hg) h
      · rename_i d want hg
        split at h
        · rename_i hq
          have hin : inert o.op = true → rdR (Opd.get (stL (fun j => anc.contains j) 0 effs st0).1) o.op = [] := by
            intro hi
            generalize o.op = op at hi
            cases op <;> first | rfl | (simp [inert] at hi)
          replace h := h.h
          unfold guardP' at h
          split at h
          · rename_i b hb
            obtain ⟨v, hv, h⟩ := h
            by_cases hbw : b = want
            · subst hbw
              simp only [beq_self_eq_true, cond_true] at h
              exact ran v [] _ (.inr ⟨d, b, hg, hb⟩) (.inl ⟨hq, hv rfl, rfl, rfl⟩) h
            · rw [show (b == want) = false by simp [hbw], cond_false] at h
              exact skp _ hin ⟨d, want, hg, .inl ⟨b, hb, hbw⟩⟩ h
          · rename_i hb
            exact skp _ hin ⟨d, want, hg, .inr hb⟩ h
          · exact h.elim
        · replace h := h.h
          unfold guardD' at h
          split at h
          · rename_i b hb
            split at h
            · rename_i hbw; subst hbw
              exact stp (.inr ⟨d, b, hg, hb⟩) h
            · rename_i hbw
              exact skp [] (fun _ => rfl) ⟨d, want, hg, .inl ⟨b, hb, hbw⟩⟩ h
          · rename_i hb
            exact skp [] (fun _ => rfl) ⟨d, want, hg, .inr hb⟩ h
          · exact h.elim
end
end Go.Proofs.Ytlhnncmflnjinaa.Am

set_option linter.unusedSimpArgs false
set_option linter.unusedVariables false
namespace Go.Proofs.Ytlhnncmflnjinaa.Am
open Go Go.RowKit

theorem cmpL_get {P : Program} {S : Nat} {ops : Array Oper} : ∀ (l : List Oper) (sl : List SOper), cmpL P S ops l = some sl → sl.length = l.length ∧ ∀ (i : Nat) (o : Oper), l[i]? = some o → ∃ so, sl[i]? = some so ∧ cmpO P ops o = some so ∧ dstOk S o.dst = true ∧ okTag o.op so.op = true
  | [], sl, h => by simp only [cmpL, Option.some.injEq] at h; subst h; exact ⟨rfl, fun i o h => by simp at h⟩
  | o :: l, sl, h => by
    unfold cmpL at h
    split at h
    · rename_i so sl' hso hsl
      split at h
      · rename_i hc
        cases h
        obtain ⟨h1, h2⟩ := cmpL_get l sl' hsl
        refine ⟨by simp [h1], fun i o' hi => ?_⟩
        cases i with
        | zero => simp at hi; subst hi; exact ⟨so, rfl, hso, hc.1, hc.2⟩
        | succ i => exact h2 i o' (by simpa using hi)
      · cases h
    · cases h
theorem inert_wr {P : Program} {Kp : Value → Kn} {st : St} {id : Nat} {o : SOper} {e : Eff} (h : OpOk P Kp st id o e) (hi : inert o.op = true) (hw : e.dead = false) : names e.wr = [] ∧ e.rd = [] := by
  have hq : quiet o.op = true ∧ ∀ g, rdR g o.op = [] := by
    generalize o.op = op at hi
    cases op <;> first | exact ⟨rfl, fun _ => rfl⟩ | (simp [inert, quiet] at hi)
  rcases h with ⟨_, ⟨_, _, h2, h3⟩ | ⟨_, h⟩⟩ | ⟨hd, _⟩
  · exact ⟨by rw [h2]; rfl, h3 hi⟩
  · rcases h with ⟨_, _, h3, h4⟩ | ⟨h1, _⟩ | ⟨f, args, h1, _⟩
    · exact ⟨by rw [h3]; rfl, by rw [h4]; exact hq.2 _⟩
    · exfalso
      generalize o.op = op at hq h1
      cases op <;> first | (simp [semH] at h1; done) | (simp [quiet] at hq)
    · rw [h1] at hq; simp [quiet] at hq
  · rw [hw] at hd; cases hd
section
variable {rr : Option Nat} {P : Program} {T : Nat} {U : Nat → Prop} {N : Nat → Prop} {w0 : World} {M0 : Nat → Prop} {β0 : Nat → Option Nat} {ds : List Deferred}
theorem setD_get (A : Array Bool) (i j : Nat) (hi : i < A.size) : (A.setIfInBounds i true).getD j false = (A.getD j false || j == i) := by
  simp only [Array.getD_eq_getD_getElem?, Array.getElem?_setIfInBounds]
  by_cases h : i = j
  · subst h; simp [hi]
  · simp [h, Ne.symm h]
/-- names not used while a region goes on -/
def FL (T : Nat) (U : Nat → Prop) (n m : Nat) (L : Nat → Bool) (tl : Nat) : Nat → Prop := fun j => (n ≤ j ∧ j < n + 16 * m ∧ ∀ i, i < m → L i = true → ¬ (n + 16 * i ≤ j ∧ j < n + 16 * i + 16)) ∨ tl ≤ j ∨ (U j ∧ j < T)
set_option maxHeartbeats 2000000 in
theorem dops_sound {S : Nat} {ops : Array Oper} {K : Kn} {Kp : Value → Kn} {Q : Exit → Act → World → Prop} {sl : List SOper} {ancs : List (List Nat)} {st0 : St} {n : Nat} {effs : List Eff}
    (hK : ∀ β fr σ n a w, T ≤ n → a.tmps.size = S → SRel N w0 M0 β0 ds β fr σ (Fn T U n) a w → K fr σ n → Q .normal a w)
    (hKp : ∀ x β fr σ n a w, T ≤ n → a.tmps.size = S → SRel N w0 M0 β0 ds β fr σ (Fn T U n) a w → Kp x fr σ n → Q (.panic [{ v := x, recovered := false }]) a w) (hT : T ≤ n)
    (hsl : cmpL P S ops ops.toList = some sl) (hanc : ancOk ops.toList ancs = true) (htmp : tmpOk (sl.zip ancs) = true) (Tr : Trace P K Kp (sl.zip ancs) st0 n effs) :
    ∀ (fuel : Nat) (listed : Array Bool) (tl : Nat) (β : Nat → Option Nat) (a : Act) (w : World), n + 16 * ops.size ≤ tl → listed.size = ops.size → ((List.range ops.size).filter fun i => !listed.getD i false).length ≤ fuel → a.tmps.size = S →
      (∀ (i : Nat) (anc : List Nat), ancs[i]? = some anc → listed.getD i false = true → ∀ k ∈ anc, listed.getD k false = true) → (∀ (i : Nat) (e : Eff), effs[i]? = some e → listed.getD i false = true → e.dead = false) →
      SRel N w0 M0 β0 ds β (stL (fun i => listed.getD i false) 0 effs st0).1 (stL (fun i => listed.getD i false) 0 effs st0).2 (FL T U n ops.size (fun i => listed.getD i false) tl) a w →
      wpAnyIn (FW rr) 0 P .any ops Q fuel listed a w := by
  obtain ⟨hlen1, hget⟩ := cmpL_get _ _ hsl
  simp only [Array.length_toList] at hlen1
  have hal : ancs.length = ops.size := by
    unfold ancOk at hanc
    simp only [Bool.and_eq_true, decide_eq_true_eq] at hanc
    simpa using hanc.1
  have hzl : (sl.zip ancs).length = ops.size := by simp [hlen1, hal]
  have hel : effs.length = ops.size := Tr.len.trans hzl
  -- what is known of an operation
  have anc_spec : ∀ (i : Nat) (o : Oper) (anc : List Nat), ops[i]? = some o → ancs[i]? = some anc → (∀ j ∈ anc, j < i ∧ ((direct o).contains j = true ∨ ∃ d ∈ direct o, (ancs.getD d []).contains j = true)) ∧ (∀ d ∈ direct o, d ∈ anc) := by
    intro i o anc h1 h2
    unfold ancOk at hanc
    simp only [Bool.and_eq_true, List.all_eq_true, List.mem_range, Array.length_toList] at hanc
    have hi : i < ops.size := (Array.getElem?_eq_some_iff.1 h1).1
    have := hanc.2 i hi
    rw [show ops.toList[i]? = some o by simpa using h1, h2] at this
    simp only [Bool.and_eq_true, List.all_eq_true, Bool.or_eq_true, List.any_eq_true, decide_eq_true_eq] at this
    refine ⟨fun j hj => ?_, fun d hd => ?_⟩
    · obtain ⟨⟨q1, _⟩, q2⟩ := this.1 j hj
      exact ⟨q1, q2.imp (fun h => h) (fun ⟨d, h1, h2⟩ => ⟨d, h1, h2⟩)⟩
    · simpa using this.2 d hd
  have tmp_spec : ∀ (i j : Nat) (oi oj : SOper) (ai aj : List Nat), (sl.zip ancs)[i]? = some (oi, ai) → (sl.zip ancs)[j]? = some (oj, aj) → i ≠ j → ∀ d, oj.dst = some d → oi.dst ≠ some d ∧ (d ∈ optmps oi → ai.contains j = true ∨ aj.contains i = true) := by
    intro i j oi oj ai aj h1 h2 hne d hd
    unfold tmpOk at htmp
    simp only [List.all_eq_true, List.mem_range] at htmp
    have := htmp i (List.getElem?_eq_some_iff.1 h1).1 j (List.getElem?_eq_some_iff.1 h2).1
    rw [h1, h2] at this
    simp only [hd, Bool.or_eq_true, beq_iff_eq, hne, false_or, Bool.and_eq_true, bne_iff_ne, Bool.not_eq_true'] at this
    refine ⟨this.1, fun hm => ?_⟩
    rcases this.2 with (h | h) | h
    · rw [show (optmps oi).contains d = true by simpa using hm] at h; cases h
    · exact .inl h
    · exact .inr h
  intro fuel
  induction fuel with
  | zero =>
    intro listed tl β a w htl hls hcnt hS hclosed hnd R
    have hall : ∀ i, i < ops.size → listed.getD i false = true := by
      intro i hi
      cases hl : listed.getD i false with
      | true => rfl
      | false =>
        exfalso
        have : i ∈ (List.range ops.size).filter fun i => !listed.getD i false := List.mem_filter.2 ⟨List.mem_range.2 hi, by rw [hl]; rfl⟩
        have := List.length_pos_of_mem this
        omega
    refine ⟨?_, ?_⟩
    · unfold Region.ready
      rw [List.filter_eq_nil_iff]
      intro i hi
      have h1 := hall i (List.mem_range.1 hi)
      have : listed.getD i true = true := by
        rw [Array.getD_eq_getD_getElem?] at h1 ⊢
        cases hx : listed[i]? with
        | none => rw [hx] at h1; cases h1
        | some b => rw [hx] at h1; exact h1
      simp [this]
    · have hst : stL (fun i => listed.getD i false) 0 effs st0 = stL (fun _ => true) 0 effs st0 := stL_congr 0 effs st0 (fun j _ hj => hall j (by omega))
      rw [hst] at R
      have := Tr.fin (fun e he => by
        obtain ⟨i, hi⟩ := List.mem_iff_getElem?.1 he
        exact hnd i e hi (hall i (by rw [← hel]; exact (List.getElem?_eq_some_iff.1 hi).1)))
      exact hK β _ _ tl a w (by omega) hS (R.free (fun j hj => Or.inr hj)) (this tl (by rw [hzl]; exact htl))
  | succ fuel ih =>
    intro listed tl β a w htl hls hcnt hS hclosed hnd R
    have key : ∀ i, i < ops.size → listed.getD i false = false → (∀ o, ops[i]? = some o → ∀ d ∈ direct o, listed.getD d false = true) → ∃ o so anc e, ops[i]? = some o ∧ sl[i]? = some so ∧ ancs[i]? = some anc ∧ effs[i]? = some e := by
      intro i hi _ _
      have h1 : ops[i]? = some ops[i] := by simp [hi]
      obtain ⟨so, h2, _⟩ := hget i ops[i] (by simp [hi])
      exact ⟨_, so, ancs[i]'(by omega), effs[i]'(by omega), h1, h2, List.getElem?_eq_getElem (by omega), List.getElem?_eq_getElem (by omega)⟩
    have ready_iff : ∀ i, i ∈ Region.ready .any ops listed ↔ i < ops.size ∧ listed.getD i false = false ∧ ∀ o, ops[i]? = some o → ∀ d ∈ direct o, listed.getD d false = true := by
      intro i
      unfold Region.ready
      rw [List.mem_filter, List.mem_range]
      constructor
      · rintro ⟨hi, h⟩
        have h1 : ops[i]? = some ops[i] := by simp [hi]
        rw [h1] at h
        simp only [Bool.and_eq_true, Bool.not_eq_true', Option.map_some, Option.getD_some] at h
        refine ⟨hi, ?_, fun o ho d hd => ?_⟩
        · have h0 := h.1
          have hil : i < listed.size := by rw [hls]; exact hi
          simp only [Array.getD_eq_getD_getElem?, Array.getElem?_eq_getElem hil, Option.getD_some] at h0 ⊢
          exact h0
        · rw [h1] at ho; cases ho
          unfold direct at hd
          obtain ⟨e, he1, he2⟩ := List.mem_filterMap.1 hd
          split at he2
          · rename_i hb
            cases he2
            have := Array.all_eq_true'.1 h.2 e (by simpa using he1)
            simp [hb] at this; simpa using this
          · cases he2
      · rintro ⟨hi, h1, h2⟩
        have ho : ops[i]? = some ops[i] := by simp [hi]
        refine ⟨hi, ?_⟩
        rw [ho]
        simp only [Bool.and_eq_true, Bool.not_eq_true', Option.map_some, Option.getD_some]
        refine ⟨?_, ?_⟩
        · have hil : i < listed.size := by rw [hls]; exact hi
          simp only [Array.getD_eq_getD_getElem?, Array.getElem?_eq_getElem hil, Option.getD_some] at h1 ⊢
          exact h1
        · rw [Array.all_eq_true']
          intro e he
          simp only [Bool.or_eq_true, Bool.not_eq_true']
          cases hb : Region.binds .any e with
          | false => exact .inl rfl
          | true => exact .inr (h2 _ ho e.on (by unfold direct; exact List.mem_filterMap.2 ⟨e, by simpa using he, by simp [hb]⟩))
    refine ⟨fun hnil => ?_, fun i hi => ?_⟩
    · -- none is ready: all are listed
      have hall : ∀ i, i < ops.size → listed.getD i false = true := by
        intro i
        induction i using Nat.strongRecOn with
        | _ i ihi =>
          intro hi
          cases hl : listed.getD i false with
          | true => rfl
          | false =>
            exfalso
            have : i ∈ Region.ready .any ops listed := (ready_iff i).2 ⟨hi, hl, fun o ho d hd => by
              have hanci : ancs[i]? = some (ancs[i]'(by omega)) := List.getElem?_eq_getElem (by omega)
              obtain ⟨q1, q2⟩ := anc_spec i o _ ho hanci
              have := (q1 d (q2 d hd)).1
              exact ihi d this (by omega)⟩
            rw [hnil] at this; cases this
      have hst : stL (fun i => listed.getD i false) 0 effs st0 = stL (fun _ => true) 0 effs st0 := stL_congr 0 effs st0 (fun j _ hj => hall j (by omega))
      rw [hst] at R
      have := Tr.fin (fun e he => by
        obtain ⟨i, hi⟩ := List.mem_iff_getElem?.1 he
        exact hnd i e hi (hall i (by rw [← hel]; exact (List.getElem?_eq_some_iff.1 hi).1)))
      exact hK β _ _ tl a w (by omega) hS (R.free (fun j hj => Or.inr hj)) (this tl (by rw [hzl]; exact htl))
    · obtain ⟨hi, hl, hdir⟩ := (ready_iff i).1 hi
      obtain ⟨o, so, anc, e, ho, hso, hanci, he⟩ := key i hi hl hdir
      obtain ⟨so', hso', hcO, hdst, htag⟩ := hget i o (by simpa using ho)
      rw [hso] at hso'; cases hso'
      have hzi : (sl.zip ancs)[i]? = some (so, anc) := by simp [List.getElem?_zip_eq_some, hso, hanci]
      obtain ⟨hspec1, hspec2⟩ := anc_spec i o anc ho hanci
      have hancl : ∀ k ∈ anc, listed.getD k false = true := by
        intro k hk
        rcases (hspec1 k hk).2 with h | ⟨d, hd, h⟩
        · exact hdir o ho k (by simpa using h)
        · have hdl := hdir o ho d hd
          cases hda : ancs[d]? with
          | none => rw [List.getD_eq_getElem?_getD, hda] at h; simp at h
          | some ad =>
            rw [List.getD_eq_getElem?_getD, hda] at h
            exact hclosed d ad hda hdl k (by simpa using h)
      obtain ⟨hed, hok⟩ := Tr.ok i so anc e hzi he
      have hndanc : deadAnc anc (effs.take i) = false := by
        cases hd : deadAnc anc (effs.take i) with
        | false => rfl
        | true =>
          exfalso
          unfold deadAnc at hd
          obtain ⟨k, hk1, hk2⟩ := List.any_eq_true.1 hd
          cases hek : (effs.take i)[k]? with
          | none => rw [hek] at hk2; cases hk2
          | some f =>
            rw [hek] at hk2
            rw [List.getElem?_take] at hek
            split at hek
            · have := hnd k f hek (hancl k hk1)
              simp [this] at hk2
            · cases hek
      have hok : OpOk P Kp (stL (fun j => anc.contains j) 0 (effs.take i) st0) (n + 16 * i) so e := by
        rcases hok with ⟨h, _⟩ | ⟨_, h⟩
        · rw [hndanc] at h; cases h
        · exact h
      -- the state behind its ancestors and the state behind all that are listed tell it the same
      have hst : stL (fun j => anc.contains j) 0 (effs.take i) st0 = stL (fun j => anc.contains j) 0 effs st0 := by
        have h1 := stL_append (fun j => anc.contains j) 0 (effs.take i) (effs.drop i) st0
        rw [List.take_append_drop] at h1
        rw [h1]
        refine (stL_none _ _ _ (fun j hj _ => ?_)).symm
        cases hc : anc.contains j with
        | false => rfl
        | true =>
          have := (hspec1 j (by simpa using hc)).1
          simp at hj
          omega
      rw [hst] at hok
      generalize hgA : stL (fun j => anc.contains j) 0 effs st0 = stA at hok
      generalize hgL : stL (fun i => listed.getD i false) 0 effs st0 = stB at R
      have order : ∀ (j : Nat) (oj : SOper) (aj : List Nat), (sl.zip ancs)[j]? = some (oj, aj) → (anc.contains j = true → listed.getD j false = true) ∧ (aj.contains i = true → anc.contains j = false ∧ listed.getD j false = false) := by
        intro j oj aj hzj
        obtain ⟨_, hancj⟩ := (List.getElem?_zip_eq_some.1 hzj)
        refine ⟨fun h => hancl j (by simpa using h), fun h => ⟨?_, ?_⟩⟩
        · have hjs : j < ops.size := by rw [← hal]; exact (List.getElem?_eq_some_iff.1 hancj).1
          have h1 := ((anc_spec j ops[j] aj (by simp [hjs]) hancj).1 i (by simpa using h)).1
          cases hc : anc.contains j with
          | false => rfl
          | true => have := (hspec1 j (by simpa using hc)).1; omega
        · cases hc : listed.getD j false with
          | false => rfl
          | true => have := hclosed j aj hancj hc i (by simpa using h); rw [hl] at this; cases this
      have hii : anc.contains i = false := by
        cases hc : anc.contains i with
        | false => rfl
        | true => have := (hspec1 i (by simpa using hc)).1; omega
      have effat : ∀ (j : Nat) (f : Eff), effs[j]? = some f → ∃ oj aj, (sl.zip ancs)[j]? = some (oj, aj) ∧ f.dst = oj.dst := by
        intro j f hf
        have hj : j < (sl.zip ancs).length := by rw [hzl, ← hel]; exact (List.getElem?_eq_some_iff.1 hf).1
        have hz : (sl.zip ancs)[j]? = some (sl.zip ancs)[j] := List.getElem?_eq_getElem hj
        exact ⟨_, _, hz, (Tr.ok j _ _ f hz hf).1⟩
      have hregs : ∀ t ∈ optmps so, stA.1 t = stB.1 t := by
        intro t ht
        rw [← hgA, ← hgL]
        refine stL_reg 0 effs st0 st0 rfl (fun j f hf hd => ?_)
        simp only [Nat.zero_add]
        obtain ⟨oj, aj, hzj, hfd⟩ := effat j f hf
        by_cases hij : i = j
        · subst hij; rw [hii, hl]
        · obtain ⟨_, h2⟩ := tmp_spec i j so oj anc aj hzi hzj hij t (by rw [← hfd]; exact hd)
          rcases h2 ht with h | h
          · rw [h, (order j oj aj hzj).1 h]
          · obtain ⟨q1, q2⟩ := (order j oj aj hzj).2 h
            rw [q1, q2]
      have apart : ∀ (j : Nat) (f : Eff) (oj : SOper) (aj : List Nat), effs[j]? = some f → (sl.zip ancs)[j]? = some (oj, aj) → i ≠ j → f.dead = false → aj.contains i = false → anc.contains j = false → (∀ x ∈ names f.wr, x ∉ e.rd ∧ (e.dead = false → x ∉ names e.wr)) := by
        intro j f oj aj hf hzj hij hfd h1 h2 x hx
        have okj : OpOk P Kp (stL (fun q => aj.contains q) 0 (effs.take j) st0) (n + 16 * j) oj f := by
          rcases (Tr.ok j oj aj f hzj hf).2 with ⟨_, h⟩ | ⟨_, h⟩
          · rw [hfd] at h; cases h
          · exact h
        cases hin : inert oj.op with
        | true => rw [(inert_wr okj hin hfd).1] at hx; cases hx
        | false =>
          cases hin' : inert so.op with
          | true =>
            cases hed' : e.dead with
            | false => have := inert_wr hok hin' hed'; rw [this.1, this.2]; exact ⟨by simp, fun _ => by simp⟩
            | true =>
              refine ⟨?_, fun h => by cases h⟩
              exfalso
              rcases hok with ⟨h, _⟩ | ⟨_, y, _, hp, _⟩
              · rw [hed'] at h; cases h
              · rcases hp with ⟨f', args, h, _⟩ | ⟨y, h, _⟩ <;> (rw [h] at hin'; simp [inert, quiet] at hin')
          | false =>
            rcases Nat.lt_or_ge i j with hlt | hge
            · obtain ⟨p1, p2⟩ := Tr.apt i j so oj anc aj e f hlt hzi hzj he hf hin' hin h1
              exact ⟨p2 x hx, fun _ hx' => (p1 x hx').2 hx⟩
            · obtain ⟨p1, p2⟩ := Tr.apt j i oj so aj anc f e (by omega) hzj hzi hf he hin hin' h2
              exact ⟨(p1 x hx).1, fun _ => (p1 x hx).2⟩
      have hmem : ∀ x ∈ e.rd, stA.2 x = stB.2 x := by
        intro x hx
        rw [← hgA, ← hgL]
        refine stL_mem 0 effs st0 st0 rfl (fun j f hf hd => ?_)
        simp only [Nat.zero_add]
        obtain ⟨oj, aj, hzj, _⟩ := effat j f hf
        by_cases hij : i = j
        · subst hij; rw [hii, hl]
        · obtain ⟨q1, q2⟩ := order j oj aj hzj
          cases h1 : aj.contains i with
          | true => obtain ⟨r1, r2⟩ := q2 h1; rw [r1, r2]
          | false =>
            cases h2 : anc.contains j with
            | true => rw [q1 h2]
            | false =>
              cases h3 : listed.getD j false with
              | false => rfl
              | true => exact absurd hx (apart j f oj aj hf hzj hij (hnd j f hf h3) h1 h2 x hd).1
      have hd : ∀ t, o.dst = some t → t < a.tmps.size := by
        intro t ht
        rw [ht] at hdst
        rw [hS]; simpa [dstOk] using hdst
      obtain ⟨hcop, hdeq⟩ := cmpO_op hcO
      -- the next state
      have hnext : e.dead = false → ∀ β' u w' tl', tl ≤ tl' → SRel N w0 M0 β0 ds β' (Am.put stB.1 o.dst e.v) (applyW stB.2 e.wr) (fun j => FL T U n ops.size (fun i => listed.getD i false) tl j ∧ ¬ (n + 16 * i ≤ j ∧ j < n + 16 * i + 16) ∧ (j < tl ∨ tl' ≤ j)) (a.put o.dst u) w' →
          wpAnyIn (FW rr) 0 P .any ops Q fuel (listed.setIfInBounds i true) (a.put o.dst u) w' := by
        intro hed' β' u w' tl' htl' R'
        have hsz : i < listed.size := by rw [hls]; exact hi
        have hfun : (fun j => (listed.setIfInBounds i true).getD j false) = fun j => listed.getD j false || j == i := by funext j; exact setD_get listed i j hsz
        have hins : stL (fun j => (listed.setIfInBounds i true).getD j false) 0 effs st0 = effApp e stB := by
          rw [hfun, ← hgL]
          have := stL_insert (L := fun j => listed.getD j false) (k := i) 0 effs st0 e he (by rw [Nat.zero_add]; exact hl) (fun j f hij hf hlj => by
            rw [Nat.zero_add] at hlj
            obtain ⟨oj, aj, hzj, hfd⟩ := effat j f hf
            have h1 : aj.contains i = false := by
              cases hc : aj.contains i with
              | false => rfl
              | true => have := ((order j oj aj hzj).2 hc).2; rw [hlj] at this; cases this
            have h2 : anc.contains j = false := by
              cases hc : anc.contains j with
              | false => rfl
              | true => have := (hspec1 j (by simpa using hc)).1; omega
            refine ⟨fun t ht hft => ?_, fun x hx hxf => ?_⟩
            · exact (tmp_spec i j so oj anc aj hzi hzj (by omega) t (by rw [← hfd]; exact hft)).1 (by rw [← hed]; exact ht)
            · exact (apart j f oj aj hf hzj (by omega) (hnd j f hf hlj) h1 h2 x hxf).2 hed' hx)
          simpa using this
        refine ih (listed.setIfInBounds i true) tl' β' _ w' (by omega) (by simpa using hls) ?_ (by rw [put_size, hS]) ?_ ?_ ?_
        · have hlt : ((List.range ops.size).filter fun j => !(listed.setIfInBounds i true).getD j false).length < ((List.range ops.size).filter fun j => !listed.getD j false).length := by
            have : ((List.range ops.size).filter fun j => !(listed.setIfInBounds i true).getD j false) = ((List.range ops.size).filter fun j => !listed.getD j false).filter fun j => j != i := by
              rw [List.filter_filter]
              apply List.filter_congr
              intro j _
              rw [setD_get listed i j hsz]
              cases listed.getD j false <;> cases hji : (j == i) <;> simp_all [bne]
            rw [this]
            refine List.length_filter_lt_length_iff_exists.2 ⟨i, List.mem_filter.2 ⟨List.mem_range.2 hi, by rw [hl]; rfl⟩, by simp⟩
          omega
        · intro j aj haj hlj k hk
          rw [setD_get listed i j hsz] at hlj
          rw [setD_get listed i k hsz]
          rcases Bool.or_eq_true_iff.1 hlj with h | h
          · rw [hclosed j aj haj h k hk]; rfl
          · have : j = i := by simpa using h
            subst this
            rw [hanci] at haj; cases haj
            rw [hancl k hk]; rfl
        · intro j f hf hlj
          rw [setD_get listed i j hsz] at hlj
          rcases Bool.or_eq_true_iff.1 hlj with h | h
          · exact hnd j f hf h
          · have : j = i := by simpa using h
            subst this
            rw [he] at hf; cases hf
            exact hed'
        · rw [hins]
          have : effApp e stB = (Am.put stB.1 o.dst e.v, applyW stB.2 e.wr) := by unfold effApp; rw [hed, hdeq]
          rw [this]
          refine R'.free (fun j hj => ?_)
          rcases hj with ⟨q1, q2, q3⟩ | hj | hj
          · exact ⟨.inl ⟨q1, q2, fun k hk hlk => q3 k hk (by simp only [setD_get listed i k hsz, hlk, Bool.true_or])⟩, q3 i hi (by simp only [setD_get listed i i hsz]; simp), .inl (by omega)⟩
          · exact ⟨.inr (.inl (by omega)), by omega, .inr hj⟩
          · exact ⟨.inr (.inr hj), by have := hj.2; omega, .inl (by have := hj.2; omega)⟩
      have hBnd : ∀ j, tl ≤ j → FL T U n ops.size (fun i => listed.getD i false) tl j := fun j hj => .inr (.inl hj)
      have hidF : ∀ j, n + 16 * i ≤ j → j < n + 16 * i + 16 → FL T U n ops.size (fun i => listed.getD i false) tl j := fun j h1 h2 => .inl ⟨by omega, by omega, fun k hk hlk hc => by
        have : k = i := by omega
        subst this
        simp only at hlk
        rw [hl] at hlk; cases hlk⟩
      have hwin : ∀ j, FL T U n ops.size (fun i => listed.getD i false) tl j → ¬ (n + 16 * i ≤ j ∧ j < n + 16 * i + 16) → True := fun _ _ _ => trivial
      have hpan : ∀ x β' w' tl', tl ≤ tl' → (∀ fr σ n, Kp x fr σ n) → ∀ σ' F', (∀ j, Fn T U tl' j → F' j) → SRel N w0 M0 β0 ds β' stB.1 σ' F' a w' → Q (.panic [{ v := x, recovered := false }]) a w' := fun x β' w' tl' htl' hk σ' F' hF R' =>
        hKp x β' _ _ tl' a w' (by omega) hS (R'.free hF) (hk _ _ _)
      unfold wpOpIn
      rw [ho]
      simp only
      have guardreg : ∀ d want, so.guard = some (d, want) → stA.1 d = stB.1 d := fun d want hg => hregs d (by unfold optmps; rw [hg]; simp)
      have asked : Asked stA so → Region.wanted o (yielded ops a.tmps) = true := by
        rintro (hg | ⟨d, want, hg, hv⟩)
        · exact wanted_none hcO hg _
        · rw [guardreg d want hg] at hv
          rw [(wanted_of (P := P) R hcO hg).1 want hv]; simp
      rcases hok with ⟨hed', h⟩ | ⟨hed', x, hask, hp, hk⟩
      · rcases h with ⟨⟨d, want, hg, hv⟩, h1, h2, _⟩ | ⟨hask, hr⟩
        · have hw : Region.wanted o (yielded ops a.tmps) = false := by
            rw [guardreg d want hg] at hv
            rcases hv with ⟨b, hb, hne⟩ | hv
            · rw [(wanted_of (P := P) R hcO hg).1 b hb]; simp [hne]
            · exact (wanted_of (P := P) R hcO hg).2 hv
          rw [hw]
          simp only [Bool.false_eq_true, if_false]
          refine ⟨fun _ _ => trivial, hnext hed' β undef w tl (Nat.le_refl _) ?_⟩
          rw [h1, h2]
          exact (put_undef R o.dst hd).free (fun j hj => hj.1)
        · rw [if_pos (asked hask)]
          have hr := hr.frame hregs hmem
          rcases hr with ⟨hq, hs, hwr, _⟩ | ⟨hs, _⟩ | ⟨f, args, hop, hc⟩
          · obtain ⟨u, hrun, hu⟩ := soundR R hcop hq hs
            refine opIn (cmp_nodefer hcop) ?_
            rw [hrun]
            refine hnext hed' β u w tl (Nat.le_refl _) ?_
            rw [hwr]
            exact (R.put o.dst hd hu).free (fun j hj => hj.1)
          · obtain ⟨u, w', β', g1, g2, g3, g4⟩ := soundH R (hidF _ (Nat.le_refl _) (by omega)) hcop hs
            have R' := (g3.put o.dst hd g4).free (F' := fun j => FL T U n ops.size (fun i => listed.getD i false) tl j ∧ ¬ (n + 16 * i ≤ j ∧ j < n + 16 * i + 16) ∧ (j < tl ∨ tl ≤ j)) (fun j hj => ⟨hj.1, fun h => hj.2.1 ⟨by omega, by omega⟩⟩)
            refine opIn (cmp_nodefer hcop) ?_
            rcases g1 with g1 | ⟨g1, rfl⟩
            · rw [g1]; exact hnext hed' β' u w' tl (Nat.le_refl _) R'
            · rw [g1]; exact hnext hed' β' _ w' tl (Nat.le_refl _) R'
          · rw [hop] at hcop htag
            obtain ⟨c, f', hoc, hcal, rfl, rfl⟩ := cmp_call hcop htag
            have onw : ∀ σ' F' tl', tl ≤ tl' → σ' = applyW stB.2 e.wr → (∀ j, (FL T U n ops.size (fun i => listed.getD i false) tl j ∧ ¬ (n + 16 * i ≤ j ∧ j < n + 16 * i + 16) ∧ (j < tl ∨ tl' ≤ j)) → F' j) → ∀ r, r = .ret e.v → Onward P o N w0 M0 β0 ds stB.1 a (wpAnyIn (FW rr) 0 P .any ops Q fuel (listed.setIfInBounds i true)) Q σ' F' r := by
              rintro σ' F' tl' htl' rfl hF r rfl
              constructor
              · rintro v hv u w' β' R' hu
                cases hv
                exact hnext hed' β' u w' tl' htl' ((R'.put o.dst hd hu).free hF)
              · rintro x hx; cases hx
            rcases hc with hc | hc
            · exact callC_sound R hoc hcal hc (fun r wr I hk _ => onw _ _ tl (Nat.le_refl _) (by rw [hk.2.1]) (fun j hj => hj.1) r hk.1)
            · exact callW_sound R hidF (by omega) hBnd hoc hcal hc (fun r wr I hk tl' htl' => onw _ _ tl' htl' (by rw [hk.2.1]) (fun j hj => hj) r hk.1)
      · rw [if_pos (asked hask)]
        have hp := hp.frame hregs hmem
        rcases hp with ⟨f, args, hop, hc⟩ | ⟨y, hop, hc⟩
        · rw [hop] at hcop htag
          obtain ⟨c, f', hoc, hcal, rfl, rfl⟩ := cmp_call hcop htag
          have onw : ∀ σ' F' tl', tl ≤ tl' → (∀ j, Fn T U tl' j → F' j) → ∀ r, r = .pan x → Onward P o N w0 M0 β0 ds stB.1 a (wpAnyIn (FW rr) 0 P .any ops Q fuel (listed.setIfInBounds i true)) Q σ' F' r := by
            rintro σ' F' tl' htl' hF r rfl
            constructor
            · rintro v hv; cases hv
            · rintro z hz w' β' R'
              cases hz
              exact hpan x β' w' tl' htl' hk _ _ hF R'
          rcases hc with hc | hc
          · exact callC_sound R hoc hcal hc (fun r wr I hk _ => onw _ _ tl (Nat.le_refl _) (fun j hj => hj.elim (fun h => .inr (.inl h)) (fun h => .inr (.inr h))) r hk.1)
          · exact callW_sound R hidF (by omega) hBnd hoc hcal hc (fun r wr I hk tl' htl' => onw _ _ tl' htl' (fun j hj => hj.elim (fun h => ⟨.inr (.inl (by omega)), by omega, .inr h⟩) (fun h => ⟨.inr (.inr h), by have := h.2; omega, .inl (by have := h.2; omega)⟩)) r hk.1)
        · rw [hop] at hcop htag
          obtain ⟨x', hoc, rfl⟩ := cmp_pan hcop htag
          unfold PAN at hc
          split at hc
          · rename_i t v hx
            subst hc
            have hr := rel_get R x'
            rw [hx] at hr
            have hv := rel_sc hr
            refine opIn (fun c' => by rw [hoc]; exact fun h => by cases h) ?_
            have : (execOp a.eval o).run P w = .halt (.panic (.iface t v)) w := by simp [execOp, hoc, hv, Instr.panic, goPanic, Sem.run]
            rw [this, Oper.uponIn_panic]
            exact hpan _ β w tl (Nat.le_refl _) hk _ _ (fun j hj => hj.elim (fun h => .inr (.inl h)) (fun h => .inr (.inr h))) R
          · exact hc.elim
end
end Go.Proofs.Ytlhnncmflnjinaa.Am

set_option linter.unusedSimpArgs false
set_option linter.unusedVariables false
namespace Go.Proofs.Ytlhnncmflnjinaa.Am
open Go Go.RowKit

inductive SCode where
  | skip
  | reg (ops : List SOper)
  | regD (ops : List (SOper × List Nat))
  | seq (a b : SCode)
  | seqJ (live mods : List Nat) (a b : SCode)
  | cond (c : Opd) (a b : SCode)
  | block (id : Nat) (c : SCode)
  | loop (live mods : List Nat) (c : SCode)
  | scope (l : Nat) (live mods : List Nat) (c : SCode)
  | exit (id : Nat)
  | goto (l : Nat)
  | ret
/-- the slots that are told anew -/
def modsOf : SCode → List Nat
  | .reg ops => ops.filterMap (·.dst)
  | .regD ops => ops.filterMap (·.1.dst)
  | .seq a b => modsOf a ++ modsOf b
  | .seqJ _ _ a b => modsOf a ++ modsOf b
  | .cond _ a b => modsOf a ++ modsOf b
  | .block _ c => modsOf c
  | .loop _ _ c => modsOf c
  | .scope _ _ _ c => modsOf c
  | _ => []
def dedup (l : List Nat) : List Nat := l.foldr (fun x acc => if acc.contains x then acc else x :: acc) []
def rdOps : List SOper → List Nat × List Nat
  | [] => ([], [])
  | o :: l => match rdOps l with
    | (r, w) => (optmps o ++ r.filter (fun t => o.dst != some t), o.dst.toList ++ w)
/-- the slots that a region reads and does not tell itself -/
def expo : SCode → List Nat
  | .reg ops => (rdOps ops).1
  | .regD ops => (rdOps (ops.map (·.1))).1
  | .seq a b => expo a ++ expo b
  | .seqJ _ _ a b => expo a ++ expo b
  | .cond c a b => (match c with | .t i => [i] | .c _ => []) ++ (expo a ++ expo b)
  | .block _ c => expo c
  | .loop _ _ c => expo c
  | .scope _ _ _ c => expo c
  | _ => []
def liveOf (X : List Nat) (c : SCode) : List Nat := (dedup (modsOf c)).filter fun t => X.contains t
/-- on how many ways a piece ends with what follows it; those that leave block id -/
def exitsTo (id : Nat) : SCode → Nat
  | .seq a b => exitsTo id a + exitsTo id b
  | .seqJ _ _ a b => exitsTo id a + exitsTo id b
  | .cond _ a b => exitsTo id a + exitsTo id b
  | .block _ c => exitsTo id c
  | .loop _ _ c => exitsTo id c
  | .scope _ _ _ c => exitsTo id c
  | .exit i => if i = id then 1 else 0
  | _ => 0
def ends : SCode → Nat
  | .skip => 1
  | .reg _ => 1
  | .regD _ => 1
  | .seq a b => if ends a = 0 then 0 else ends b
  | .seqJ _ _ a b => if ends a = 0 then 0 else ends b
  | .cond _ a b => ends a + ends b
  | .block id c => ends c + exitsTo id c
  | .loop _ _ _ => 0
  | .scope _ _ _ c => ends c
  | _ => 0
/-- X: the slots that are kept from one region to another -/
def cmpC (P : Program) (S : Nat) (X : List Nat) : Code → Option SCode
  | .skip => some .skip
  | .region _ ops false => (cmpL P S ops ops.toList).map .reg
  | .region _ ops true => (cmpD P S ops).map .regD
  | .seq a b => match cmpC P S X a, cmpC P S X b with
    | some x, some y => if 1 < ends x then some (.seqJ (liveOf X x) (modsOf x) x y) else some (.seq x y)
    | _, _ => none
  | .cond c a b => match cmpC P S X a, cmpC P S X b with
    | some x, some y => some (.cond (cOpd c) x y)
    | _, _ => none
  | .block id c => (cmpC P S X c).map (.block id)
  | .loop c => (cmpC P S X c).map fun sc => .loop (liveOf X sc) (modsOf sc) sc
  | .scope (.seq (.label l) c) => (cmpC P S X c).map fun sc => .scope l (liveOf X sc) (modsOf sc) sc
  | .exit id => some (.exit id)
  | .goto l => some (.goto l)
  | .ret => some .ret
  | _ => none
inductive SExit where
  | normal
  | exit (id : Nat)
  | goto (l : Nat)
  | ret
  | pan (v : Value)
def SExit.conv : SExit → Exit
  | .normal => .normal
  | .exit id => .exit id
  | .goto l => .goto l
  | .ret => .ret
  | .pan v => .panic [{ v, recovered := false }]
abbrev Ks := SExit → Kn
def thenK (next : Kn) (Q : Ks) : Ks
  | .normal => next
  | .exit id => Q (.exit id)
  | .goto l => Q (.goto l)
  | .ret => Q .ret
  | .pan v => Q (.pan v)
def blockK (id : Nat) (Q : Ks) : Ks
  | .normal => Q .normal
  | .exit id' => if id' = id then Q .normal else Q (.exit id')
  | .goto l => Q (.goto l)
  | .ret => Q .ret
  | .pan v => Q (.pan v)
def gotoK (l : Nat) (next : Kn) (Q : Ks) : Ks
  | .normal => Q .normal
  | .exit id => Q (.exit id)
  | .goto l' => if l' = l then next else fun _ _ _ => False
  | .ret => Q .ret
  | .pan v => Q (.pan v)
/-- what a loop's slots and memory say may be said with less, or in other words -/
inductive Wk : List AV → Hp → Nat → List AV → Hp → Nat → Prop
  | refl (s : List AV) (σ : Hp) (n : Nat) : Wk s σ n s σ n
  | trans {s s1 s2 : List AV} {σ σ1 σ2 : Hp} {n n1 n2 : Nat} (h : Wk s σ n s1 σ1 n1) (h' : Wk s1 σ1 n1 s2 σ2 n2) : Wk s σ n s2 σ2 n2
  | less (s : List AV) (σ σ' : Hp) (n : Nat) (h : ∀ i x, σ' i = some x → ∃ y, σ i = some y ∧ Ob.le x y) : Wk s σ n s σ' n
  | more (s : List AV) (σ : Hp) (n n' : Nat) (h : n ≤ n') : Wk s σ n s σ n'
  | emp (s : List AV) (σ : Hp) (n i k : Nat) (cl : Bool) (h : s[i]? = some .em) : Wk s σ n (s.set i (.ow n k 0 0)) (upd σ n (some (.c ⟨k, [], true, cl⟩))) (n + 16)
  | nil (s : List AV) (σ : Hp) (n i : Nat) (h : s[i]? = some .em) : Wk s σ n (s.set i (.tr [])) σ n
  | any (s : List AV) (σ : Hp) (n i : Nat) : Wk s σ n (s.set i .any) σ n
  | frz (s : List AV) (σ : Hp) (n i : Nat) (v c : AV) (I : List Nat) (h : s[i]? = some v) (hb : brw σ 6 v = some (c, I)) : Wk s σ n (s.set i c) (applyW σ (frz σ I)) n
def Weak (J : List AV → Hp → Nat → Prop) (s : List AV) (σ : Hp) (n : Nat) : Prop := ∃ s' σ' n', Wk s σ n s' σ' n' ∧ n ≤ n' ∧ s'.length = s.length ∧ J s' σ' n'
theorem Weak.refl {J : List AV → Hp → Nat → Prop} {s : List AV} {σ : Hp} {n : Nat} (h : J s σ n) : Weak J s σ n := ⟨s, σ, n, .refl _ _ _, Nat.le_refl _, rfl, h⟩
def LOOP (body : (List AV → Hp → Nat → Prop) → List AV → Hp → Nat → Prop) (s : List AV) (σ : Hp) (n : Nat) : Prop :=
  ∃ I : Nat → List AV → Hp → Nat → Prop, (∃ m, Weak (I m) s σ n) ∧ ∀ m s' σ' n', n ≤ n' → s'.length = s.length → I m s' σ' n' → body (fun s σ n => ∃ m', m' < m ∧ Weak (I m') s σ n) s' σ' n'
structure JOIN (K : List AV → Hp → Nat → Prop) (F : (List AV → Hp → Nat → Prop) → Prop) : Prop where
  h : F K
def COND (c : AV) (A B : Prop) : Prop := match c with
  | .sc (.bool t) => (t = true → A) ∧ (t = false → B)
  | .bo => A ∧ B
  | _ => False
def idx (t : Nat) : List Nat → Nat → Option Nat
  | [], _ => none
  | x :: l, i => if x = t then some i else idx t l (i + 1)
def emb (fr : Regs) (live mods : List Nat) (s : List AV) : Regs := fun t => match idx t live 0 with
  | some i => s.getD i .any
  | none => if mods.contains t then .any else fr t
def swp (P : Program) : SCode → Ks → Kn
  | .skip, Q => Q .normal
  | .reg ops, Q => sops P (Q .normal) (fun v => Q (.pan v)) ops
  | .regD l, Q => fun fr σ n => dops P (Q .normal) (fun v => Q (.pan v)) l (fr, σ) n l [] none
  | .seq a b, Q => swp P a (thenK (swp P b Q) Q)
  | .seqJ live mods a b, Q => fun fr σ n => JOIN (fun s => swp P b Q (emb fr live mods s)) (fun K => swp P a (thenK (fun fr' => K (live.map fr')) Q) fr σ n)
  | .cond c a b, Q => fun fr σ n => COND (c.get fr) (swp P a Q fr σ n) (swp P b Q fr σ n)
  | .block id c, Q => swp P c (blockK id Q)
  | .loop live mods c, Q => fun fr σ n => LOOP (fun K s => swp P c (thenK (fun fr' => K (live.map fr')) Q) (emb fr live mods s)) (live.map fr) σ n
  | .scope l live mods c, Q => fun fr σ n => LOOP (fun K s => swp P c (gotoK l (fun fr' => K (live.map fr')) Q) (emb fr live mods s)) (live.map fr) σ n
  | .exit id, Q => Q (.exit id)
  | .goto l, Q => Q (.goto l)
  | .ret, Q => Q .ret

/-! slots that a piece of code does not tell anew -/
def Keep (M : List Nat) (fr0 : Regs) (K : Kn) : Kn := fun fr σ n => K fr σ n ∧ ∀ t, t ∉ M → fr t = fr0 t
end Go.Proofs.Ytlhnncmflnjinaa.Am

set_option linter.unusedSimpArgs false
set_option linter.unusedVariables false
namespace Go.Proofs.Ytlhnncmflnjinaa.Am
open Go Go.RowKit

section
variable {P : Program}
theorem bindP_mono {o : Option AV} {K K' : AV → Prop} (h : bindP o K) (hk : ∀ v, K v → K' v) : bindP o K' := by
  unfold bindP at h ⊢
  split at h
  · exact hk _ h
  · exact h.elim
theorem bindH_mono {o : Option (AV × Wr)} {K K' : AV → Wr → Prop} (h : bindH o K) (hk : ∀ v w, K v w → K' v w) : bindH o K' := by
  unfold bindH at h ⊢
  split at h
  · exact hk _ _ h
  · exact h.elim
theorem callC_mono {f : AV} {args : List AV} {σ : Hp} {K K' : AEnd → Wr → List Nat → Prop} (h : callC P f args σ K) (hk : ∀ r wr rd, K r wr rd → K' r wr rd) : callC P f args σ K' := by
  unfold callC at h ⊢
  split at h
  · obtain ⟨cs, I, r, h1, h2, h3⟩ := h; exact ⟨cs, I, r, h1, h2, hk _ _ _ h3⟩
  · exact h.elim
theorem callW_mono {f : AV} {args : List AV} {σ : Hp} {id : Nat} {K K' : AEnd → Wr → List Nat → Prop} (h : callW P f args σ id K) (hk : ∀ r wr rd, K r wr rd → K' r wr rd) : callW P f args σ id K' := by
  unfold callW at h ⊢
  split at h
  · obtain ⟨pre, r, wr, h1, h2, h3⟩ := h; exact ⟨pre, r, wr, h1, h2, hk _ _ _ h3⟩
  · exact h.elim
theorem callH_mono {f : AV} {args : List AV} {σ : Hp} {n : Nat} {K K' : AEnd → Hp → Nat → Prop} (h : callH P f args σ n K) (hk : ∀ r σ n, K r σ n → K' r σ n) : callH P f args σ n K' := by
  unfold callH at h ⊢
  split at h
  · obtain ⟨R, h1, h2⟩ := h; exact ⟨R, h1, fun r σ' n' a b => hk _ _ _ (h2 r σ' n' a b)⟩
  · exact h.elim
theorem callY_mono {f : AV} {args : List AV} {σ : Hp} {n : Nat} {K K' : AEnd → Hp → Nat → Prop} (h : callY P f args σ n K) (hk : ∀ r σ n, K r σ n → K' r σ n) : callY P f args σ n K' := by
  unfold callY at h ⊢
  split at h
  · obtain ⟨R, h1, h2⟩ := h; exact ⟨R, h1, fun r σ' n' a b => hk _ _ _ (h2 r σ' n' a b)⟩
  · exact h.elim
theorem CALL_mono {f : AV} {args : List AV} {σ : Hp} {n : Nat} {K K' : AEnd → Hp → Nat → Prop} (h : CALL P f args σ n K) (hk : ∀ r σ n, K r σ n → K' r σ n) : CALL P f args σ n K' := by
  rcases h with h | h | h | h
  · exact .c (callC_mono h fun _ _ _ h => hk _ _ _ h)
  · exact .w (callW_mono h fun _ _ _ h n' hn => hk _ _ _ (h n' hn))
  · exact .h (callH_mono h hk)
  · exact .y (callY_mono h hk)
theorem PAN_mono {x : AV} {K K' : Value → Prop} (h : PAN x K) (hk : ∀ v, K v → K' v) : PAN x K' := by
  unfold PAN at h ⊢
  split at h
  · exact hk _ h
  · exact h.elim
theorem step_mono {op : SOp} {fr : Regs} {σ : Hp} {n : Nat} {Kp Kp' : Value → Kn} {K K' : AV → Hp → Nat → Prop} (h : step P op fr σ n Kp K) (hk : ∀ v σ n, K v σ n → K' v σ n) (hp : ∀ v fr σ n, Kp v fr σ n → Kp' v fr σ n) : step P op fr σ n Kp' K' := by
  have plain : (if quiet op = true then bindP (semR σ (Opd.get fr) op) (fun v => K v σ n) else bindS (semH σ n (Opd.get fr) op) σ n K) →
      (if quiet op = true then bindP (semR σ (Opd.get fr) op) (fun v => K' v σ n) else bindS (semH σ n (Opd.get fr) op) σ n K') := by
    intro h
    split at h
    · rename_i hq; rw [if_pos hq]; exact bindP_mono h (fun v => hk _ _ _)
    · rename_i hq; rw [if_neg hq]; exact bindH_mono h (fun v w => hk _ _ _)
  cases op with
  | call f args =>
    simp only [step] at h ⊢
    refine CALL_mono h (fun r σ n hr => ?_)
    cases r with
    | ret v => exact hk _ _ _ hr
    | pan x => exact hp _ _ _ _ hr
  | pan x => simp only [step] at h ⊢; exact PAN_mono h (fun v => hp _ _ _ _)
  | len s x => simp only [step] at h ⊢; exact bindP_mono h (fun v h hb => hk _ _ _ (h hb))
  | _ => simp only [step] at h plain ⊢; exact plain h
theorem guardP_mono {g : AV} {want : Bool} {o : Option AV} {K K' : AV → Prop} (h : guardP g want o K) (hk : ∀ v, K v → K' v) : guardP g want o K' := by
  refine ⟨?_⟩
  replace h := h.h
  unfold guardP' at h ⊢
  split at h
  · obtain ⟨v, h1, h2⟩ := h; exact ⟨v, h1, hk _ h2⟩
  · exact hk _ h
  · exact h.elim
theorem guardK_mono {g : AV} {want : Bool} {e e' : (AV → Hp → Nat → Prop) → Prop} {σ : Hp} {n : Nat} {K K' : AV → Hp → Nat → Prop} (h : guardK g want e σ n K) (hk : ∀ v σ n, K v σ n → K' v σ n) (he : e K → e' K') : guardK g want e' σ n K' := by
  refine ⟨?_⟩
  replace h := h.h
  unfold guardK' at h ⊢
  split at h
  · split at h
    · rename_i hb; rw [if_pos hb]; exact he h
    · rename_i hb; rw [if_neg hb]; exact hk _ _ _ h
  · exact hk _ _ _ h
  · exact h.elim
theorem sops_mono {K K' : Kn} {Kp Kp' : Value → Kn} (hp : ∀ v fr σ n, Kp v fr σ n → Kp' v fr σ n) (M : List Nat) (fr0 : Regs) (hk : ∀ fr σ n, K fr σ n → (∀ t, t ∉ M → fr t = fr0 t) → K' fr σ n) : ∀ (l : List SOper) (fr : Regs) (σ : Hp) (n : Nat), (∀ o ∈ l, ∀ d, o.dst = some d → d ∈ M) → (∀ t, t ∉ M → fr t = fr0 t) → sops P K Kp l fr σ n → sops P K' Kp' l fr σ n
  | [], fr, σ, n, _, ha, h => hk fr σ n h ha
  | o :: l, fr, σ, n, hl, ha, h => by
    have hput : ∀ v, ∀ t, t ∉ M → put fr o.dst v t = fr0 t := by
      intro v t ht
      cases hd : o.dst with
      | none => exact ha t ht
      | some d =>
        simp only [put]
        rw [if_neg (fun (e : t = d) => ht (e ▸ hl o (by simp) d hd))]
        exact ha t ht
    have hrest : ∀ v σ n, sops P K Kp l (put fr o.dst v) σ n → sops P K' Kp' l (put fr o.dst v) σ n := fun v σ n h =>
      sops_mono hp M fr0 hk l _ σ n (fun o ho => hl o (List.mem_cons_of_mem _ ho)) (hput v) h
    unfold sops at h ⊢
    split at h
    · exact step_mono h hrest hp
    · split at h
      · rename_i hq; rw [if_pos hq]; exact guardP_mono h (fun v => hrest v σ n)
      · rename_i hq; rw [if_neg hq]; exact guardK_mono h hrest (fun h => step_mono h hrest hp)
theorem side1_mono {anc w r : List Nat} {X Y : Prop} (hxy : X → Y) : ∀ (i : Nat) (l : List (SOper × List Nat)) (es : List Eff), side1 anc w r i l es X → side1 anc w r i l es Y
  | i, [], es, h => hxy h
  | i, (o, a) :: l, [], h => hxy h
  | i, (o, a) :: l, e :: es, h => by
    simp only [side1] at h ⊢
    cases hb : (inert o.op || anc.contains i) with
    | true => rw [hb, cond_true] at h; rw [cond_true]; exact side1_mono hxy _ l es h
    | false => rw [hb, cond_false] at h; rw [cond_false]; exact ⟨h.1, side1_mono hxy _ l es h.2⟩
theorem sideL_mono {l0 : List (SOper × List Nat)} {effs : List Eff} {X Y : Prop} (hxy : X → Y) : ∀ (j : Nat) (l : List (SOper × List Nat)) (es : List Eff), sideL l0 effs j l es X → sideL l0 effs j l es Y
  | j, [], es, h => hxy h
  | j, (o, a) :: l, [], h => hxy h
  | j, (o, a) :: l, e :: es, h => by
    simp only [sideL] at h ⊢
    cases hb : inert o.op with
    | true => rw [hb, cond_true] at h; rw [cond_true]; exact sideL_mono hxy _ l es h
    | false => rw [hb, cond_false] at h; rw [cond_false]; exact side1_mono (fun h => sideL_mono hxy _ l es h) _ _ _ h
theorem dstep_mono {op : SOp} {fr : Regs} {σ : Hp} {id : Nat} {Kp Kp' : Value → List Nat → Prop} {K K' : AV → Wr → List Nat → Prop} (h : dstep P op fr σ id Kp K) (hk : ∀ v w r, K v w r → K' v w r) (hp : ∀ v r, Kp v r → Kp' v r) : dstep P op fr σ id Kp' K' := by
  have plain : (if quiet op = true then bindP (semR σ (Opd.get fr) op) (fun v => K v [] (rdR (Opd.get fr) op)) else bindH (semH σ id (Opd.get fr) op) (fun v wr => K v wr (rdH (Opd.get fr) op wr))) →
      (if quiet op = true then bindP (semR σ (Opd.get fr) op) (fun v => K' v [] (rdR (Opd.get fr) op)) else bindH (semH σ id (Opd.get fr) op) (fun v wr => K' v wr (rdH (Opd.get fr) op wr))) := by
    intro h
    split at h
    · rename_i hq; rw [if_pos hq]; exact bindP_mono h (fun v => hk _ _ _)
    · rename_i hq; rw [if_neg hq]; exact bindH_mono h (fun v w => hk _ _ _)
  cases op with
  | call f args =>
    simp only [dstep] at h ⊢
    refine callD_mono h (fun r wr rd hr => ?_)
    cases r with
    | ret v => exact hk _ _ _ hr
    | pan x => exact hp _ _ hr
  | pan x => simp only [dstep] at h ⊢; exact PAN_mono h (fun v => hp _ _)
  | _ => simp only [dstep] at h plain ⊢; exact plain h
theorem guardD_mono {g : AV} {want : Bool} {e e' : (AV → Wr → List Nat → Prop) → Prop} {K K' : AV → Wr → List Nat → Prop} (h : guardD g want e K) (hk : ∀ v w r, K v w r → K' v w r) (he : e K → e' K') : guardD g want e' K' := by
  refine ⟨?_⟩
  replace h := h.h
  unfold guardD' at h ⊢
  split at h
  · split at h
    · rename_i hb; rw [if_pos hb]; exact he h
    · rename_i hb; rw [if_neg hb]; exact hk _ _ _ h
  · exact hk _ _ _ h
  · exact h.elim
theorem stL_keep {M : List Nat} {L : Nat → Bool} : ∀ (i : Nat) (es : List Eff) (st : St), (∀ e ∈ es, ∀ d, e.dst = some d → d ∈ M) → ∀ t, t ∉ M → (stL L i es st).1 t = st.1 t
  | i, [], st, _, t, _ => rfl
  | i, e :: es, st, h, t, ht => by
    simp only [stL]
    rw [stL_keep (i + 1) es _ (fun e he => h e (List.mem_cons_of_mem _ he)) t ht]
    cases L i with
    | false => rfl
    | true =>
      simp only [cond_true, effApp]
      cases hd : e.dst with
      | none => rfl
      | some d => simp only [put]; rw [if_neg (fun (hh : t = d) => ht (hh ▸ h e (by simp) d hd))]
theorem dops_mono {K K' : Kn} {Kp Kp' : Value → Kn} {l0 : List (SOper × List Nat)} {st0 : St} {n : Nat} (hp : ∀ v fr σ n, Kp v fr σ n → Kp' v fr σ n) (M : List Nat) (hk : ∀ fr σ n, K fr σ n → (∀ t, t ∉ M → fr t = st0.1 t) → K' fr σ n) :
    ∀ (l : List (SOper × List Nat)) (effs : List Eff) (pn : Option Value), (∀ p ∈ l, ∀ d, p.1.dst = some d → d ∈ M) → (∀ e ∈ effs, ∀ d, e.dst = some d → d ∈ M) → dops P K Kp l0 st0 n l effs pn → dops P K' Kp' l0 st0 n l effs pn
  | [], effs, none, _, he, h => by simp only [dops] at h ⊢; exact sideL_mono (fun h n' hn => hk _ _ _ (h n' hn) (fun t ht => stL_keep 0 effs st0 he t ht)) _ _ _ h
  | [], effs, some x, _, _, h => by simp only [dops] at h ⊢; exact sideL_mono (fun h fr σ n => hp _ _ _ _ (h fr σ n)) _ _ _ h
  | (o, anc) :: l, effs, pn, hl, he, h => by
    have hrest : ∀ (e : Eff) pn, e.dst = o.dst → dops P K Kp l0 st0 n l (effs ++ [e]) pn → dops P K' Kp' l0 st0 n l (effs ++ [e]) pn := fun e pn hed h =>
      dops_mono hp M hk l _ pn (fun p hp => hl p (List.mem_cons_of_mem _ hp)) (fun f hf => by
        rcases List.mem_append.1 hf with hf | hf
        · exact he f hf
        · simp only [List.mem_singleton] at hf; subst hf; intro d hd; exact hl (o, anc) (by simp) d (by rw [← hed]; exact hd)) h
    unfold dops at h ⊢
    cases hb : anc.any (fun i => (effs[i]?).any (·.dead)) with
    | true => rw [hb, cond_true] at h; rw [cond_true]; exact hrest _ _ rfl h
    | false =>
      rw [hb, cond_false] at h
      rw [cond_false]
      split at h
      · exact dstep_mono h (fun v w r => hrest _ _ rfl) (fun v r h => once_iff.2 ((once_iff.1 h).imp id (hrest _ _ rfl)))
      · split at h
        · rename_i hq; rw [if_pos hq]; exact guardP_mono h (fun v => hrest _ _ rfl)
        · rename_i hq; rw [if_neg hq]; exact guardD_mono h (fun v w r => hrest _ _ rfl) (fun h => dstep_mono h (fun v w r => hrest _ _ rfl) (fun v r h => once_iff.2 ((once_iff.1 h).imp id (hrest _ _ rfl))))
/-- the slots that a piece may tell, its loops' own among them -/
def modsW : SCode → List Nat
  | .reg ops => ops.filterMap (·.dst)
  | .regD ops => ops.filterMap (·.1.dst)
  | .seq a b => modsW a ++ modsW b
  | .seqJ live mods a b => live ++ mods ++ modsW a ++ modsW b
  | .cond _ a b => modsW a ++ modsW b
  | .block _ c => modsW c
  | .loop live mods c => live ++ mods ++ modsW c
  | .scope _ live mods c => live ++ mods ++ modsW c
  | _ => []
theorem emb_keep {fr : Regs} {live mods : List Nat} {s : List AV} {t : Nat} (h1 : t ∉ live) (h2 : t ∉ mods) : emb fr live mods s t = fr t := by
  have : ∀ (l : List Nat) (i : Nat), t ∉ l → idx t l i = none := by
    intro l
    induction l with
    | nil => intro i _; rfl
    | cons x l ih => intro i h; simp only [List.mem_cons, not_or] at h; simp only [idx]; rw [if_neg (Ne.symm h.1)]; exact ih _ h.2
  unfold emb
  rw [this live 0 h1]
  simp only
  rw [if_neg (by simpa using h2)]
theorem swp_mono : ∀ (c : SCode) (Q Q' : Ks) (M : List Nat) (fr0 : Regs), (∀ t ∈ modsW c, t ∈ M) → (∀ v fr σ n, Q (.pan v) fr σ n → Q' (.pan v) fr σ n) → (∀ e fr σ n, (∀ v, e ≠ .pan v) → Q e fr σ n → (∀ t, t ∉ M → fr t = fr0 t) → Q' e fr σ n) →
    ∀ (fr : Regs) (σ : Hp) (n : Nat), (∀ t, t ∉ M → fr t = fr0 t) → swp P c Q fr σ n → swp P c Q' fr σ n := by
  intro c
  induction c with
  | skip => intro Q Q' M fr0 hM hp hk fr σ n ha h; exact hk .normal fr σ n (fun v h => by cases h) h ha
  | reg ops =>
    intro Q Q' M fr0 hM hp hk fr σ n ha h
    exact sops_mono hp M fr0 (fun fr σ n h ha => hk .normal fr σ n (fun v h => by cases h) h ha) ops fr σ n (fun o ho d hd => hM d (List.mem_filterMap.2 ⟨o, ho, hd⟩)) ha h
  | regD ops =>
    intro Q Q' M fr0 hM hp hk fr σ n ha h
    exact dops_mono hp M (fun fr' σ n h ha' => hk .normal fr' σ n (fun v h => by cases h) h (fun t ht => (ha' t ht).trans (ha t ht))) ops [] none (fun p hp d hd => hM d (List.mem_filterMap.2 ⟨p, hp, hd⟩)) (fun e he => by cases he) h
  | seq a b iha ihb =>
    intro Q Q' M fr0 hM hp hk fr σ n ha h
    refine iha (thenK (swp P b Q) Q) (thenK (swp P b Q') Q') M fr0 (fun t ht => hM t (List.mem_append_left _ ht)) hp (fun e fr σ n he hq ha => ?_) fr σ n ha h
    cases e with
    | normal => exact ihb Q Q' M fr0 (fun t ht => hM t (List.mem_append_right _ ht)) hp hk fr σ n ha hq
    | pan v => exact absurd rfl (he v)
    | exit id => exact hk (.exit id) _ _ _ he hq ha
    | goto l => exact hk (.goto l) _ _ _ he hq ha
    | ret => exact hk .ret _ _ _ he hq ha
  | seqJ live mods a b iha ihb =>
    intro Q Q' M fr0 hM hp hk fr σ n ha h
    simp only [swp] at h ⊢
    refine ⟨?_⟩
    replace h := h.h
    try simp only at h ⊢
    have hM0 : ∀ t ∈ live ++ mods, t ∈ M := fun t ht => hM t (List.mem_append_left _ (List.mem_append_left _ ht))
    have hMa : ∀ t ∈ modsW a, t ∈ M := fun t ht => hM t (List.mem_append_left _ (List.mem_append_right _ ht))
    have hemb : ∀ s t, t ∉ M → emb fr live mods s t = fr0 t := fun s t ht => (emb_keep (fun h => ht (hM0 t (List.mem_append_left _ h))) (fun h => ht (hM0 t (List.mem_append_right _ h)))).trans (ha t ht)
    refine iha (thenK (fun fr' => swp P b Q (emb fr live mods (live.map fr'))) Q) (thenK (fun fr' => swp P b Q' (emb fr live mods (live.map fr'))) Q') M fr0 hMa hp (fun e fr1 σ n he hq ha1 => ?_) fr σ n ha h
    cases e with
    | normal => exact ihb Q Q' M fr0 (fun t ht => hM t (List.mem_append_right _ ht)) hp hk _ σ n (hemb _) hq
    | pan v => exact absurd rfl (he v)
    | exit id => exact hk (.exit id) _ _ _ he hq ha1
    | goto l => exact hk (.goto l) _ _ _ he hq ha1
    | ret => exact hk .ret _ _ _ he hq ha1
  | cond c a b iha ihb =>
    intro Q Q' M fr0 hM hp hk fr σ n ha h
    simp only [swp, COND] at h ⊢
    split at h
    · exact ⟨fun ht => iha Q Q' M fr0 (fun t ht => hM t (List.mem_append_left _ ht)) hp hk fr σ n ha (h.1 ht), fun ht => ihb Q Q' M fr0 (fun t ht => hM t (List.mem_append_right _ ht)) hp hk fr σ n ha (h.2 ht)⟩
    · exact ⟨iha Q Q' M fr0 (fun t ht => hM t (List.mem_append_left _ ht)) hp hk fr σ n ha h.1, ihb Q Q' M fr0 (fun t ht => hM t (List.mem_append_right _ ht)) hp hk fr σ n ha h.2⟩
    · exact h.elim
  | block id c ih =>
    intro Q Q' M fr0 hM hp hk fr σ n ha h
    refine ih (blockK id Q) (blockK id Q') M fr0 hM hp (fun e fr σ n he hq ha => ?_) fr σ n ha h
    cases e with
    | normal => exact hk .normal _ _ _ he hq ha
    | pan v => exact absurd rfl (he v)
    | exit id' =>
      simp only [blockK] at hq ⊢
      split at hq
      · rename_i e; rw [if_pos e]; exact hk .normal _ _ _ (fun v h => by cases h) hq ha
      · rename_i e; rw [if_neg e]; exact hk (.exit id') _ _ _ he hq ha
    | goto l => exact hk (.goto l) _ _ _ he hq ha
    | ret => exact hk .ret _ _ _ he hq ha
  | loop live mods c ih =>
    intro Q Q' M fr0 hM hp hk fr σ n ha h
    obtain ⟨I, h0, hr⟩ := h
    refine ⟨I, h0, fun m s σ n hn hs hI => ?_⟩
    have hM1 : ∀ t ∈ modsW c, t ∈ M := fun t ht => hM t (List.mem_append_right _ ht)
    have hemb : ∀ t, t ∉ M → emb fr live mods s t = fr0 t := fun t ht => (emb_keep (fun h => ht (hM t (List.mem_append_left _ (List.mem_append_left _ h)))) (fun h => ht (hM t (List.mem_append_left _ (List.mem_append_right _ h))))).trans (ha t ht)
    refine ih (thenK (fun fr' σ n => ∃ m', m' < m ∧ Weak (I m') (live.map fr') σ n) Q) (thenK (fun fr' σ n => ∃ m', m' < m ∧ Weak (I m') (live.map fr') σ n) Q') M fr0 hM1 hp (fun e fr1 σ n he hq ha => ?_) _ σ n hemb (hr m s σ n hn hs hI)
    cases e with
    | normal => exact hq
    | pan v => exact absurd rfl (he v)
    | exit id => exact hk (.exit id) _ _ _ he hq ha
    | goto l => exact hk (.goto l) _ _ _ he hq ha
    | ret => exact hk .ret _ _ _ he hq ha
  | scope l live mods c ih =>
    intro Q Q' M fr0 hM hp hk fr σ n ha h
    obtain ⟨I, h0, hr⟩ := h
    refine ⟨I, h0, fun m s σ n hn hs hI => ?_⟩
    have hM1 : ∀ t ∈ modsW c, t ∈ M := fun t ht => hM t (List.mem_append_right _ ht)
    have hemb : ∀ t, t ∉ M → emb fr live mods s t = fr0 t := fun t ht => (emb_keep (fun h => ht (hM t (List.mem_append_left _ (List.mem_append_left _ h)))) (fun h => ht (hM t (List.mem_append_left _ (List.mem_append_right _ h))))).trans (ha t ht)
    refine ih (gotoK l (fun fr' σ n => ∃ m', m' < m ∧ Weak (I m') (live.map fr') σ n) Q) (gotoK l (fun fr' σ n => ∃ m', m' < m ∧ Weak (I m') (live.map fr') σ n) Q') M fr0 hM1 hp (fun e fr1 σ n he hq ha => ?_) _ σ n hemb (hr m s σ n hn hs hI)
    cases e with
    | normal => exact hk .normal _ _ _ he hq ha
    | pan v => exact absurd rfl (he v)
    | exit id => exact hk (.exit id) _ _ _ he hq ha
    | goto l' =>
      simp only [gotoK] at hq ⊢
      split at hq
      · rename_i e; rw [if_pos e]; exact hq
      · exact hq.elim
    | ret => exact hk .ret _ _ _ he hq ha
  | exit id => intro Q Q' M fr0 hM hp hk fr σ n ha h; exact hk (.exit id) fr σ n (fun v h => by cases h) h ha
  | goto l => intro Q Q' M fr0 hM hp hk fr σ n ha h; exact hk (.goto l) fr σ n (fun v h => by cases h) h ha
  | ret => intro Q Q' M fr0 hM hp hk fr σ n ha h; exact hk .ret fr σ n (fun v h => by cases h) h ha
theorem mem_dedup {t : Nat} : ∀ {l : List Nat}, t ∈ dedup l → t ∈ l
  | x :: l, h => by
    simp only [dedup, List.foldr_cons] at h
    split at h
    · exact List.mem_cons_of_mem _ (mem_dedup h)
    · rcases List.mem_cons.1 h with rfl | h
      · exact List.mem_cons_self
      · exact List.mem_cons_of_mem _ (mem_dedup h)
theorem live_mods (X : List Nat) (sc : SCode) : ∀ t ∈ liveOf X sc, t ∈ modsOf sc := fun t ht => mem_dedup (List.mem_filter.1 ht).1
theorem modsW_of {S : Nat} {X : List Nat} : ∀ (c : Code) (sc : SCode), cmpC P S X c = some sc → ∀ t ∈ modsW sc, t ∈ modsOf sc
  | .region id ops true, sc, h, t, ht => by obtain ⟨_, _, rfl⟩ := Option.map_eq_some_iff.1 h; exact ht
  | .region id ops false, sc, h, t, ht => by obtain ⟨_, _, rfl⟩ := Option.map_eq_some_iff.1 h; exact ht
  | .seq a b, sc, h, t, ht => by
    simp only [cmpC] at h
    split at h
    · rename_i x y h1 h2
      split at h
      · cases h
        rcases List.mem_append.1 ht with ht | ht
        · rcases List.mem_append.1 ht with ht | ht
          · rcases List.mem_append.1 ht with ht | ht
            · exact List.mem_append_left _ (live_mods X x t ht)
            · exact List.mem_append_left _ ht
          · exact List.mem_append_left _ (modsW_of a x h1 t ht)
        · exact List.mem_append_right _ (modsW_of b y h2 t ht)
      · cases h
        rcases List.mem_append.1 ht with ht | ht
        · exact List.mem_append_left _ (modsW_of a x h1 t ht)
        · exact List.mem_append_right _ (modsW_of b y h2 t ht)
    · cases h
  | .cond c a b, sc, h, t, ht => by
    simp only [cmpC] at h
    split at h
    · rename_i x y h1 h2; cases h
      rcases List.mem_append.1 ht with ht | ht
      · exact List.mem_append_left _ (modsW_of a x h1 t ht)
      · exact List.mem_append_right _ (modsW_of b y h2 t ht)
    · cases h
  | .block id c, sc, h, t, ht => by obtain ⟨x, h1, rfl⟩ := Option.map_eq_some_iff.1 h; exact modsW_of c x h1 t ht
  | .loop c, sc, h, t, ht => by
    obtain ⟨x, h1, rfl⟩ := Option.map_eq_some_iff.1 h
    rcases List.mem_append.1 ht with ht | ht
    · rcases List.mem_append.1 ht with ht | ht
      · exact live_mods X x t ht
      · exact ht
    · exact modsW_of c x h1 t ht
  | .scope (.seq (.label l) c), sc, h, t, ht => by
    obtain ⟨x, h1, rfl⟩ := Option.map_eq_some_iff.1 h
    rcases List.mem_append.1 ht with ht | ht
    · rcases List.mem_append.1 ht with ht | ht
      · exact live_mods X x t ht
      · exact ht
    · exact modsW_of c x h1 t ht
  | .skip, sc, h, t, ht => by cases h; cases ht
  | .exit id, sc, h, t, ht => by cases h; cases ht
  | .goto l, sc, h, t, ht => by cases h; cases ht
  | .ret, sc, h, t, ht => by cases h; cases ht
end
end Go.Proofs.Ytlhnncmflnjinaa.Am
