/- The abstract machine: a function that defers one closure, which recovers. -/
import Derived.Test.YtlhnncmflnjinaaMr
import Derived.Recover
set_option linter.unusedSimpArgs false
set_option linter.unusedVariables false
namespace Go.Proofs.Ytlhnncmflnjinaa.Am
open Go Go.RowKit

/-- captured values that say nothing of a heap but names of blocks -/
def isRf : AV → Bool
  | .rf _ _ _ _ => true
  | .sc _ => true
  | _ => false
theorem isRf_keep {M M' : Nat → Prop} {w w' : World} {β β' : Nat → Option Nat} {v : Value} {x : AV} (h : Rel M w β v x) (hx : isRf x = true) (hb : ∀ i b, β i = some b → β' i = some b) : Rel M' w' β' v x := by
  cases h <;> simp only [isRf, Bool.false_eq_true] at hx
  · exact .sc _
  · exact .rf _ _ _ _ _ (hb _ _ (by assumption))
def modeOf : Option Value → FrameMode
  | none => .returning
  | some x => .panicking [{ v := x, recovered := false }]
def modeAfter : Option Value → FrameMode
  | none => .returning
  | some x => .panicking [{ v := x, recovered := true }]
/-- a deferred closure that asks for the panic and swallows it -/
def ConR (P : Program) (g : FuncId) (args : List AV) (σ : Hp) (n : Nat) (pv : Option Value) (R : Hp → Nat → Prop) : Prop :=
  goFn P g = true ∧ ∀ (N : Nat → Prop) (T : Nat) (U : Nat → Prop) (β : Nat → Option Nat) (w : World) (vs : Array Value), T ≤ n → Aw N (own β σ) w → HRel N β σ (Fn T U n) w → Cells (live N β σ) w β vs args →
    CallsD P g vs (modeOf pv) w fun e u w' => (∃ v, e = .returned v) ∧ u = modeAfter pv ∧ ∃ β' σ' n', R σ' n' ∧ n ≤ n' ∧ Leaves N β σ w (.returned (.tuple #[])) w' β' σ' (Fn T U n') (.ret (.tp []))
def DEF (P : Program) (fv : AV) (pv : Option Value) (σ : Hp) (n : Nat) (K : Hp → Nat → Prop) : Prop := match fv with
  | .fn g caps => caps.all isRf = true ∧ ∃ R, ConR P g caps σ n pv R ∧ ∀ σ' n', R σ' n' → n ≤ n' → K σ' n'
  | _ => False
def dfrR (P : Program) (S : Nat) (ops : Array Oper) : Option (List SOper × Opd) := match ops.toList.getLast? with
  | some o => (match o.op, o.guard, o.dst with
    | .defer c, none, none => (match c.callee with
      | .value x => if c.args.size = 0 then (cmpL P S ops ops.toList.dropLast).map fun sl => (sl, cOpd x) else none
      | _ => none)
    | _, _, _ => none)
  | none => none
/-- a body whose way leads past one defer: what is ahead of it, the closure, what is behind -/
def cmpDf (P : Program) (S : Nat) (X : List Nat) : Code → Option (SCode × Opd × SCode)
  | .seq a b => match (match a with | .region _ ops false => dfrR P S ops | _ => none) with
    | some (sl, x) => (cmpC P S X b).map fun sb => (.reg sl, x, sb)
    | none => match cmpC P S X a, cmpDf P S X b with
      | some sa, some (pa, x, pb) => some (.seq sa pa, x, pb)
      | _, _ => none
  | _ => none
def dfK (next : Kn) (Q : Ks) : Ks
  | .normal => next
  | .exit id => Q (.exit id)
  | .goto l => Q (.goto l)
  | .ret => Q .ret
  | .pan v => Q (.pan v)
/-- the end of a body behind its defer -/
def dq (P : Program) (rs : List RV) (R : AEnd → Hp → Nat → Prop) (fv : AV) : Ks
  | .normal => fun fr σ n => DEF P fv none σ n (fun σ n => retC σ fr rs (fun vs => R (.ret (tupA vs)) σ n))
  | .ret => fun fr σ n => DEF P fv none σ n (fun σ n => retC σ fr rs (fun vs => R (.ret (tupA vs)) σ n))
  | .pan x => fun fr σ n => DEF P fv (some x) σ n (fun σ n => retC σ fr rs (fun vs => R (.ret (tupA vs)) σ n))
  | .exit _ => fun _ _ _ => False
  | .goto _ => fun _ _ _ => False
def DFN (fv : AV) (K : Prop) : Prop := match fv with
  | .fn _ _ => K
  | _ => False
def swpD (P : Program) (pa : SCode) (x : Opd) (pb : SCode) (rs : List RV) (R : AEnd → Hp → Nat → Prop) : Kn := swp P pa (dfK (fun fr σ n => DFN (x.get fr) (swp P pb (dq P rs R (x.get fr)) fr σ n)) (retQ rs R))
section
variable {P : Program} {N : Nat → Prop} {w0 : World} {M0 : Nat → Prop} {β0 : Nat → Option Nat} {β : Nat → Option Nat} {fr : Regs} {σ : Hp} {F : Nat → Prop} {a : Act} {w : World}
theorem dfr_sound {S : Nat} {X : List Nat} {x : Opd} {pb : SCode} {T : Nat} {U : Nat → Prop} {rs : List RV} {R : AEnd → Hp → Nat → Prop} {Q' : Exit → Act → World → Prop}
    (hA : ∀ e β fr σ n a w, T ≤ n → SRel N w0 M0 β0 [] β fr σ (Fn T U n) a w → e ≠ .normal → retQ rs R e fr σ n → Q' e.conv a w)
    (hB : ∀ e (g : FuncId) (caps : List AV) (vs : Array Value) β fr σ n a w, T ≤ n → vs.size = caps.length → (∀ (i : Nat) (u : Value) (z : AV), vs[i]? = some u → caps[i]? = some z → isRf z = true → Rel (live N β σ) w β u z) →
      SRel N w0 M0 β0 [⟨.fn (.func g) vs, #[]⟩] β fr σ (Fn T U n) a w → dq P rs R (.fn g caps) e fr σ n → Q' e.conv a w) :
    ∀ (c : Code) (pa : SCode), cmpDf P S X c = some (pa, x, pb) → ∀ (β : Nat → Option Nat) (fr : Regs) (σ : Hp) (n : Nat) (a : Act) (w : World), T ≤ n → a.tmps.size = S → SRel N w0 M0 β0 [] β fr σ (Fn T U n) a w →
      swpD P pa x pb rs R fr σ n → c.wp P Q' a w := by
  intro c
  induction c with
  | seq ca cb _ ihb =>
    intro pa hc β fr σ n a w hT hS Rl h
    simp only [cmpDf] at hc
    split at hc
    · rename_i sl x' hd
      obtain ⟨sb, hsb, e⟩ := Option.map_eq_some_iff.1 hc
      cases e
      split at hd
      · rename_i id ops _
        unfold dfrR at hd
        split at hd
        · rename_i o hlast
          split at hd
          · rename_i c hop hg hdst
            split at hd
            · rename_i x0 hcal
              split at hd
              · rename_i hz
                obtain ⟨sl', hsl, e⟩ := Option.map_eq_some_iff.1 hd
                cases e
                have hops : ops.toList = ops.toList.dropLast ++ [o] := by
                  obtain ⟨ys, hys⟩ := List.getLast?_eq_some_iff.1 hlast
                  rw [hys, List.dropLast_concat]
                refine wp_seq (wp_region_list ?_)
                rw [hops]
                refine sops_soundT (K := fun fr σ n => DFN ((cOpd x0).get fr) (swp P pb (dq P rs R ((cOpd x0).get fr)) fr σ n)) (Kp := fun v => retQ rs R (.pan v)) [o] (fun β1 fr1 σ1 n1 a1 w1 hT1 hS1 R1 h1 => ?_) (fun v β1 fr1 σ1 n1 a1 w1 hT1 hS1 R1 h1 => ?_) _ _ β fr σ n a w hsl hT hS Rl h
                · unfold DFN at h1
                  split at h1
                  · rename_i g caps hfv
                    have hfr := rel_get R1 x0
                    rw [hfv] at hfr
                    generalize hv0 : a1.eval x0 = v0 at hfr
                    cases hfr with
                    | fn _ vs _ hn hr =>
                      have hrun : (execOp a1.eval o).run P w1 = .ok (.defer ⟨.fn (.func g) vs, #[]⟩) w1 := by
                        have : c.args = #[] := Array.eq_empty_of_size_eq_zero hz
                        simp [execOp, hop, resolve, hcal, hv0, Deferred.ofValue, this]
                      unfold wpList
                      rw [if_pos (by simp [Region.wanted, hg])]
                      refine .inl ?_
                      unfold Oper.wp
                      rw [hrun, Oper.upon_defer]
                      rw [hdst]
                      have R2 : SRel N w0 M0 β1 [⟨.fn (.func g) vs, #[]⟩] β1 fr1 σ1 (Fn T U n1) { a1 with defers := ⟨.fn (.func g) vs, #[]⟩ :: a1.defers } w1 := ⟨R1.heap, R1.regs, R1.frame, R1.old, R1.away, by simp [R1.defers], fun _ _ h => h⟩
                      refine swp_sound cb pb hsb T U (dq P rs R (.fn g caps)) Q' ?_ β1 fr1 σ1 n1 _ w1 hT1 hS1 R2 (by rw [hfv] at h1; exact h1)
                      intro e β2 fr2 σ2 n2 a2 w2 hT2 hS2 R3 h2
                      refine hB e g caps vs β2 fr2 σ2 n2 a2 w2 hT2 hn (fun i u z hu hz hrf => isRf_keep (hr i u z hu hz) hrf R3.ext) ?_ h2
                      exact ⟨R3.heap, R3.regs, R3.frame, R3.old, R3.away, R3.defers, fun i b h => R3.ext i b (R1.ext i b h)⟩
                  · exact h1.elim
                · exact hA (.pan v) β1 fr1 σ1 n1 a1 w1 hT1 R1 (by simp) h1
              · cases hd
            · cases hd
          · cases hd
        · cases hd
      · cases hd
    · split at hc
      · rename_i q sa pa' x' pb' h1 h2
        cases hc
        refine wp_seq (swp_sound ca sa h1 T U (thenK (swpD P pa' x pb rs R) (dfK (fun fr σ n => DFN (x.get fr) (swp P pb (dq P rs R (x.get fr)) fr σ n)) (retQ rs R))) _ ?_ β fr σ n a w hT hS Rl h)
        intro e β1 fr1 σ1 n1 a1 w1 hT1 hS1 R1 h1
        cases e with
        | normal => exact ihb pa' h2 β1 fr1 σ1 n1 a1 w1 hT1 hS1 R1 h1
        | exit id => exact hA (.exit id) β1 fr1 σ1 n1 a1 w1 hT1 R1 (by simp) h1
        | goto l => exact hA (.goto l) β1 fr1 σ1 n1 a1 w1 hT1 R1 (by simp) h1
        | ret => exact hA .ret β1 fr1 σ1 n1 a1 w1 hT1 R1 (by simp) h1
        | pan v => exact hA (.pan v) β1 fr1 σ1 n1 a1 w1 hT1 R1 (by simp) h1
      · cases hc
  | _ => intro pa hc; simp [cmpDf] at hc
/-- a contract of a function that defers a closure -/
theorem conH_of_defer {f : FuncId} {fn : Func} {args : List AV} {n : Nat} {R : AEnd → Hp → Nat → Prop} {pa pb : SCode} {x : Opd} (rs : List RV) (hf : P.funcs[f]? = some fn) (X : List Nat) (hc : fn.body.bind (cmpDf P fn.ntmps X) = some (pa, x, pb)) (hgo : goFn P f = true) (hS : decide (args.length ≤ fn.ntmps) = true)
    (hres : resT P fn.results.toList = some rs) (h : swpD P pa x pb rs R (entry args) σ n) : ConH P f args σ n R := by
  obtain ⟨c, hb, hc⟩ := Option.bind_eq_some_iff.1 hc
  have hS := of_decide_eq_true hS
  refine ⟨hgo, fun N T U β w vs hT hN H hargs => ?_⟩
  have hsz : vs.size = args.length := hargs.1
  refine calls_of_wp_defers hf hb ?_
  have R0 : SRel N w (own β σ) β [] β (entry args) σ (Fn n (fun i => U i ∧ i < T) n) { tmps := vs ++ Array.replicate (fn.ntmps - vs.size) undef, defers := [] } w := by
    refine ⟨⟨fun i hi => H.dom i ((fn_up hT i).1 hi), H.off, H.inj, H.blk, H.map⟩, fun t => ?_, Fr.refl _ _, fun b h _ => h, hN, rfl, fun _ _ h => h⟩
    unfold entry
    by_cases ht : t < args.length
    · have e1 : (vs ++ Array.replicate (fn.ntmps - vs.size) undef).getD t undef = vs[t] := by
        rw [Array.getD_eq_getD_getElem?, Array.getElem?_append_left (by omega)]; simp [hsz, ht]
      have e2 : args.getD t (.tp []) = args[t] := by simp [List.getD, ht]
      simp only [e1, e2]
      exact hargs.2 t vs[t] args[t] (by simp [hsz, ht]) (by simp [ht])
    · have e1 : (vs ++ Array.replicate (fn.ntmps - vs.size) undef).getD t undef = undef := by
        rw [Array.getD_eq_getD_getElem?, Array.getElem?_append_right (by omega), Array.getElem?_replicate]
        split <;> rfl
      have e2 : args.getD t (.tp []) = .tp [] := by simp [List.getD, List.getElem?_eq_none (Nat.le_of_not_lt ht)]
      simp only [e1, e2]
      exact .tp #[] [] rfl (fun i u z h _ => by simp at h)
  have hsize : (vs ++ Array.replicate (fn.ntmps - vs.size) undef).size = fn.ntmps := by simp; omega
  -- how it ends
  have fin : ∀ ds β' fr σ' n' a w', n ≤ n' → SRel N w (own β σ) β ds β' fr σ' (Fn n (fun i => U i ∧ i < T) n') a w' → retC σ' fr rs (fun vs => R (.ret (tupA vs)) σ' n') →
      ∃ v, (results fn a.tmps).run P w' = .ok v w' ∧ ∃ β' r σ' n', R r σ' n' ∧ n ≤ n' ∧ Leaves N β σ w (.returned v) w' β' σ' (Fn T U n') r := by
    intro ds β' fr σ' n' a w' hn Rf h
    obtain ⟨vs, hv, h⟩ := retC_of h
    obtain ⟨v, e1, e2⟩ := results_run Rf hres hv
    exact ⟨v, e1, β', _, σ', n', h, hn, Rf.ext, (Rf.free (fun i hi => (fn_up hT i).2 hi)).heap, e2, Rf.frame, Rf.old⟩
  refine dfr_sound (T := n) (U := fun i => U i ∧ i < T) (rs := rs) (R := R) ?_ ?_ c pa hc β _ σ n _ w (Nat.le_refl n) hsize R0 h
  · intro e β' fr σ' n' a w' hn Rf hne h
    cases e with
    | normal => exact absurd rfl hne
    | ret =>
      obtain ⟨v, e1, e2⟩ := fin _ β' fr σ' n' a w' hn Rf h
      simp only [SExit.conv, bodyPostD, Rf.defers]
      exact ⟨v, e1, e2⟩
    | exit id => exact h.elim
    | goto l => exact h.elim
    | pan v =>
      simp only [SExit.conv, bodyPostD, Rf.defers]
      exact ⟨β', _, σ', n', h, hn, Rf.ext, (Rf.free (fun i hi => (fn_up hT i).2 hi)).heap, rfl, Rf.frame, Rf.old⟩
  · intro e g caps vs' β' fr σ' n' a w' hn hnv hcaps Rf h
    have run : ∀ pv, DEF P (.fn g caps) pv σ' n' (fun σ n => retC σ fr rs (fun vs => R (.ret (tupA vs)) σ n)) →
        Go.Leaves P fn a.tmps (fun e w'' => ∃ β' r σ' n', R r σ' n' ∧ n ≤ n' ∧ Leaves N β σ w e w'' β' σ' (Fn T U n') r) a.defers (modeOf pv) w' := by
      intro pv hd
      obtain ⟨hrf, R1, hcon, hk⟩ := hd
      rw [Rf.defers]
      have hinv : (invoke (.fn (.func g) vs') #[]).run P w' = .ok (.enter g vs') w' := by simp [invoke, run_callFunc hcon.1]
      refine ⟨by cases pv <;> simp [modeOf], .func g, vs', g, vs', rfl, hinv, ?_⟩
      have hb := aw_now Rf
      refine (hcon.2 N n (fun i => U i ∧ i < T) β' w' vs' hn hb Rf.heap ⟨hnv, fun i u z hu hz => hcaps i u z hu hz (List.all_eq_true.1 hrf z (List.mem_of_getElem? hz))⟩).mono ?_
      rintro e u' w'' ⟨⟨v, rfl⟩, rfl, β2, σ2, n2, hr, hn2, hl⟩
      have R2 := Rf.after hl
      obtain ⟨v', e1, e2⟩ := fin _ β2 fr σ2 n2 a w'' (by omega) R2 (hk σ2 n2 hr hn2)
      cases pv <;> exact ⟨v', e1, e2⟩
    cases e with
    | normal => exact run none h
    | ret => exact run none h
    | exit id => exact h.elim
    | goto l => exact h.elim
    | pan v => exact run (some v) h
/-! the closure itself -/
def isRec (o : Oper) : Bool := match o.op with
  | .call c => (match c.callee with
    | .builtin .recover => c.args.size == 0
    | _ => false)
  | _ => false
def recR (P : Program) (S : Nat) (ops : Array Oper) : Option (Nat × List SOper) := match ops.toList with
  | o :: l => (match o.guard, o.dst with
    | none, some d => if isRec o = true ∧ d < S then (cmpL P S ops l).map fun sl => (d, sl) else none
    | _, _ => none)
  | [] => none
def cmpRc (P : Program) (S : Nat) (X : List Nat) : Code → Option (Nat × SCode)
  | .region _ ops false => (recR P S ops).map fun p => (p.1, .reg p.2)
  | .seq (.region _ ops false) b => match recR P S ops, cmpC P S X b with
    | some (d, sl), some sb => some (d, .seq (.reg sl) sb)
    | _, _ => none
  | _ => none
def recV : Option Value → AV
  | none => .sc .nilIface
  | some x => .sc x
def recVal : Option Value → Value
  | none => .nilIface
  | some x => x
def recQ (R : Hp → Nat → Prop) : Ks
  | .normal => fun _ σ n => R σ n
  | .ret => fun _ σ n => R σ n
  | _ => fun _ _ _ => False
theorem recover_run {o : Oper} (h : isRec o = true) : (execOp a.eval o).run P w = .ok .recover w := by
  unfold isRec at h
  split at h
  · rename_i c hc
    split at h
    · rename_i hcal
      simp [execOp, hc, resolve, hcal, invoke, Go.builtin]
    · cases h
  · cases h
theorem wpS_rec {id : Nat} {ops : Array Oper} {o : Oper} {l : List Oper} {Q : Exit → Act → List Frame → World → Prop} {c₀ : Frame} {cs : List Frame} {pv : Option Value} (hl : ops.toList = o :: l) (hr : isRec o = true) (hg : o.guard = none) (hm : c₀.mode = modeOf pv)
    (h : wpList P ops (fun e a w => Q e a ({ c₀ with mode := modeAfter pv } :: cs) w) l (a.put o.dst (recVal pv)) w) : (Code.region id ops false).wpS P Q a (c₀ :: cs) w := by
  intro b k hb hro
  have h0 : ops[0]? = some o := by rw [← Array.getElem?_toList, hl]; rfl
  have hrange : List.range ops.size = 0 :: List.range' 1 l.length := by
    rw [List.range_eq_range', ← Array.length_toList, hl, List.length_cons, List.range'_succ]
  have hw : Region.wanted o (yielded ops a.tmps) = true := by simp [Region.wanted, hg]
  have hops : wpOps P ops (fun e a w => Q e a ({ c₀ with mode := modeAfter pv } :: cs) w) (List.range' 1 l.length) (a.put o.dst (recVal pv)) w := by
    rw [wpOps_eq_wpList l 1 (fun j => by rw [← Array.getElem?_toList, hl, Nat.add_comm, List.getElem?_cons_succ])]
    exact h
  obtain ⟨e, a', w', hq, harr⟩ := wp_ops _ _ _ hops b k ({ c₀ with mode := modeAfter pv } :: cs)
  refine ⟨e, a', _, w', hq, .of_steps (.head step_region ?_) harr⟩
  rw [hrange]
  have hgs := stepG_op (P := P) (b := b) (k := k) (cs := c₀ :: cs) (w := w) (rest := List.range' 1 l.length) h0 hw
  have hfin : ∀ v, (b.at a (.inRegion ops (0 :: List.range' 1 l.length) :: k)).finish v = b.at (a.put o.dst v) (.inRegion ops (List.range' 1 l.length) :: k) := by
    intro v; rw [Frame.finish_at, h0]; rfl
  have hk : (b.at a (.inRegion ops (0 :: List.range' 1 l.length) :: k)).kind = .deferred := hb
  have htr := tryRecover_deferred hk (c₀ :: cs)
  have hrun := recover_run (P := P) (a := a) (w := w) hr
  refine .one (step_lone_go ?_)
  rw [hgs, ← hfin]
  cases pv with
  | none =>
    have hc : ({ c₀ with mode := modeAfter none } : Frame) = c₀ := by cases c₀; simp only [modeOf] at hm; subst hm; rfl
    have hrec : recoverD (c₀ :: cs) = none := by simp [recoverD, hm, modeOf]
    simp only [Frame.at] at htr ⊢
    simp [stepG.apply, hrun, htr, hrec, hc, recVal]
  | some x =>
    have hrec : recoverD (c₀ :: cs) = some (x, { c₀ with mode := modeAfter (some x) } :: cs) := by simp [recoverD, hm, modeOf, modeAfter]
    simp only [Frame.at] at htr ⊢
    simp [stepG.apply, hrun, htr, hrec, recVal]
theorem conR_of {f : FuncId} {fn : Func} {args : List AV} {n d : Nat} {sc : SCode} {pv : Option Value} {R : Hp → Nat → Prop} (hf : P.funcs[f]? = some fn) (X : List Nat) (hc : fn.body.bind (cmpRc P fn.ntmps X) = some (d, sc)) (hgo : goFn P f = true) (hS : decide (args.length ≤ fn.ntmps) = true)
    (hres : fn.results.size = 0) (h : swp P sc (recQ R) (put (entry args) (some d) (recV pv)) σ n) : ConR P f args σ n pv R := by
  obtain ⟨c, hb, hc⟩ := Option.bind_eq_some_iff.1 hc
  have hS := of_decide_eq_true hS
  refine ⟨hgo, fun N T U β w vs hT hN H hargs => ?_⟩
  have hsz : vs.size = args.length := hargs.1
  refine callsD_of_wpS hf hb (fun c₀ cs hm => ?_)
  have R0 : SRel N w (own β σ) β [] β (entry args) σ (Fn n (fun i => U i ∧ i < T) n) { tmps := vs ++ Array.replicate (fn.ntmps - vs.size) undef, defers := [] } w := by
    refine ⟨⟨fun i hi => H.dom i ((fn_up hT i).1 hi), H.off, H.inj, H.blk, H.map⟩, fun t => ?_, Fr.refl _ _, fun b h _ => h, hN, rfl, fun _ _ h => h⟩
    unfold entry
    by_cases ht : t < args.length
    · have e1 : (vs ++ Array.replicate (fn.ntmps - vs.size) undef).getD t undef = vs[t] := by
        rw [Array.getD_eq_getD_getElem?, Array.getElem?_append_left (by omega)]; simp [hsz, ht]
      have e2 : args.getD t (.tp []) = args[t] := by simp [List.getD, ht]
      simp only [e1, e2]
      exact hargs.2 t vs[t] args[t] (by simp [hsz, ht]) (by simp [ht])
    · have e1 : (vs ++ Array.replicate (fn.ntmps - vs.size) undef).getD t undef = undef := by
        rw [Array.getD_eq_getD_getElem?, Array.getElem?_append_right (by omega), Array.getElem?_replicate]
        split <;> rfl
      have e2 : args.getD t (.tp []) = .tp [] := by simp [List.getD, List.getElem?_eq_none (Nat.le_of_not_lt ht)]
      simp only [e1, e2]
      exact .tp #[] [] rfl (fun i u z h _ => by simp at h)
  have hsize : (vs ++ Array.replicate (fn.ntmps - vs.size) undef).size = fn.ntmps := by simp; omega
  have hrv : ∀ M β' w', Rel M w' β' (recVal pv) (recV pv) := fun M β' w' => by cases pv <;> exact .sc _
  have hQ : ∀ e β' fr σ' n' a w', n ≤ n' → a.tmps.size = fn.ntmps → SRel N w (own β σ) β [] β' fr σ' (Fn n (fun i => U i ∧ i < T) n') a w' → recQ R e fr σ' n' →
      bodyPostS P fn c₀ cs (fun e u w'' => (∃ v, e = .returned v) ∧ u = modeAfter pv ∧ ∃ β' σ' n', R σ' n' ∧ n ≤ n' ∧ Leaves N β σ w (.returned (.tuple #[])) w'' β' σ' (Fn T U n') (.ret (.tp []))) e.conv a ({ c₀ with mode := modeAfter pv } :: cs) w' := by
    intro e β' fr σ' n' a w' hn _ Rf hq
    have fin : R σ' n' → a.defers = [] ∧ ∃ u', ({ c₀ with mode := modeAfter pv } :: cs : List Frame) = { c₀ with mode := u' } :: cs ∧ ∃ v, (results fn a.tmps).run P w' = .ok v w' ∧ ((∃ v', Ending.returned v = .returned v') ∧ u' = modeAfter pv ∧ ∃ β' σ' n', R σ' n' ∧ n ≤ n' ∧ Leaves N β σ w (.returned (.tuple #[])) w' β' σ' (Fn T U n') (.ret (.tp []))) := by
      intro hr
      have hres' : fn.results = #[] := Array.eq_empty_of_size_eq_zero hres
      refine ⟨Rf.defers, modeAfter pv, rfl, .tuple #[], by simp [results, hres'], ⟨_, rfl⟩, rfl, β', σ', n', hr, hn, Rf.ext, (Rf.free (fun i hi => (fn_up hT i).2 hi)).heap, .tp #[] [] rfl (fun i u z h _ => by simp at h), Rf.frame, Rf.old⟩
    cases e with
    | normal => exact fin hq
    | ret => exact fin hq
    | exit id => exact hq.elim
    | goto l => exact hq.elim
    | pan v => exact hq.elim
  have main : ∀ (id : Nat) (ops : Array Oper) (d : Nat) (sl : List SOper) (K : Kn) (Kp : Value → Kn) (Q : Exit → Act → List Frame → World → Prop), recR P fn.ntmps ops = some (d, sl) →
      (∀ β' fr σ' n' a w', n ≤ n' → a.tmps.size = fn.ntmps → SRel N w (own β σ) β [] β' fr σ' (Fn n (fun i => U i ∧ i < T) n') a w' → K fr σ' n' → Q .normal a ({ c₀ with mode := modeAfter pv } :: cs) w') →
      (∀ x β' fr σ' n' a w', n ≤ n' → a.tmps.size = fn.ntmps → SRel N w (own β σ) β [] β' fr σ' (Fn n (fun i => U i ∧ i < T) n') a w' → Kp x fr σ' n' → Q (.panic [{ v := x, recovered := false }]) a ({ c₀ with mode := modeAfter pv } :: cs) w') →
      sops P K Kp sl (put (entry args) (some d) (recV pv)) σ n →
      (Code.region id ops false).wpS P Q { tmps := vs ++ Array.replicate (fn.ntmps - vs.size) undef, defers := [] } (c₀ :: cs) w := by
    intro id ops d sl K Kp Q hrec hK hKp hs
    unfold recR at hrec
    split at hrec
    · rename_i o l hl
      split at hrec
      · rename_i d' hg hd
        split at hrec
        · rename_i hcond
          obtain ⟨sl', hsl, e⟩ := Option.map_eq_some_iff.1 hrec
          cases e
          refine wpS_rec hl hcond.1 hg hm ?_
          refine sops_sound (Q := fun e a w => Q e a ({ c₀ with mode := modeAfter pv } :: cs) w) hK hKp l sl β _ σ n _ w hsl (Nat.le_refl n) (by rw [put_size, hsize]) (?_) hs
          rw [hd]
          exact R0.put (some d) (fun t ht => by cases ht; rw [hsize]; exact hcond.2) (hrv _ _ _)
        · cases hrec
      · cases hrec
    · cases hrec
  unfold cmpRc at hc
  split at hc
  · rename_i id ops
    obtain ⟨p, hp, e⟩ := Option.map_eq_some_iff.1 hc
    cases e
    exact main id ops p.1 p.2 (recQ R .normal) (fun v => recQ R (.pan v)) _ hp (fun β' fr σ' n' a w' h1 h2 h3 h4 => hQ .normal β' fr σ' n' a w' h1 h2 h3 h4) (fun x β' fr σ' n' a w' h1 h2 h3 h4 => h4.elim) h
  · rename_i id ops b
    split at hc
    · rename_i d' sl sb h1 h2
      cases hc
      refine wpS_seq (main id ops d sl (swp P sb (recQ R)) (fun v => recQ R (.pan v)) _ h1 (fun β' fr σ' n' a w' g1 g2 g3 g4 => ?_) (fun x β' fr σ' n' a w' g1 g2 g3 g4 => g4.elim) h)
      exact wpS_of_wp (swp_sound b sb h2 n (fun i => U i ∧ i < T) (recQ R) _ (fun e β2 fr2 σ2 n2 a2 w2 k1 k2 k3 k4 => hQ e β2 fr2 σ2 n2 a2 w2 k1 k2 k3 k4) β' fr σ' n' a w' g1 g2 g3 g4)
    · cases hc
  · cases hc
end
/-- the parts of a body that defers; of a closure that recovers -/
def codeDf (P : Program) (fn : Func) : Option (List RV × List Nat × SCode × Opd × SCode) := match fn.body, resT P fn.results.toList with
  | some c, some rs => (match cmpDf P fn.ntmps [] c with
    | some (pa, _, pb) => (cmpDf P fn.ntmps (dedup (expo pa ++ expo pb ++ resSlots rs)) c).map fun q => (rs, dedup (expo pa ++ expo pb ++ resSlots rs), q)
    | none => none)
  | _, _ => none
def codeRc (P : Program) (fn : Func) : Option (List Nat × Nat × SCode) := match fn.body with
  | some c => (match cmpRc P fn.ntmps [] c with
    | some (_, sc) => (cmpRc P fn.ntmps (dedup (expo sc)) c).map fun q => (dedup (expo sc), q)
    | none => none)
  | none => none
attribute [go_sem] DFN
theorem DEF_con {P : Program} {g : FuncId} {caps : List AV} {pv : Option Value} {σ : Hp} {n : Nat} {K : Hp → Nat → Prop} (R : Hp → Nat → Prop) (hr : caps.all isRf = true) (h : ConR P g caps σ n pv R) (hk : ∀ σ' n', R σ' n' → n ≤ n' → K σ' n') : DEF P (.fn g caps) pv σ n K := ⟨hr, R, h, hk⟩
end Go.Proofs.Ytlhnncmflnjinaa.Am
