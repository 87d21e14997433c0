/- Packed by a program of this repo: Ms Mv Mw Mt Mx. -/
import Derived.Test.YtodoejfkjimeaaaGreatDoorKTMl
import Derived.Recover
import Derived.RangeFuncLeaves
set_option linter.unusedSimpArgs false
set_option linter.unusedVariables false
namespace Go.Proofs.YtodoejfkjimeaaaGreatDoor.Am
open Go Go.RowKit

def isRf : AV → Bool
  | .rf _ _ _ _ => true
  | .sc _ => true
  | _ => false
theorem isRf_keep {M M' : Nat → Prop} {w w' : World} {β β' : Nat → Option Nat} {v : Value} {x : AV} (h : Rel M w β v x) (hx : isRf x = true) (hb : ∀ i b, β i = some b → β' i = some b) : Rel M' w' β' v x := by
  cases h <;> simp only [isRf, Bool.false_eq_true] at hx
  · exact .sc _
  · exact .rf _ _ _ _ _ (hb _ _ (by assumption))
def modeOf : Option Value → FrameMode
  | none => .returning
  | some x => .panicking [{ v := x, recovered := false }]
def modeAfter : Option Value → FrameMode
  | none => .returning
  | some x => .panicking [{ v := x, recovered := true }]
def ConR (P : Program) (g : FuncId) (args : List AV) (σ : Hp) (n : Nat) (pv : Option Value) (R : Hp → Nat → Prop) : Prop :=
  goFn P g = true ∧ ∀ (N : Nat → Prop) (T : Nat) (U : Nat → Prop) (β : Nat → Option Nat) (w : World) (vs : Array Value), T ≤ n → Aw N (own β σ) w → HRel N β σ (Fn T U n) w → Cells (live N β σ) w β vs args →
    CallsD P g vs (modeOf pv) w fun e u w' => (∃ v, e = .returned v) ∧ u = modeAfter pv ∧ ∃ β' σ' n', R σ' n' ∧ n ≤ n' ∧ Leaves N β σ w (.returned (.tuple #[])) w' β' σ' (Fn T U n') (.ret (.tp []))
def DEF (P : Program) (fv : AV) (pv : Option Value) (σ : Hp) (n : Nat) (K : Hp → Nat → Prop) : Prop := match fv with
  | .fn g caps => caps.all isRf = true ∧ ∃ R, ConR P g caps σ n pv R ∧ ∀ σ' n', R σ' n' → n ≤ n' → K σ' n'
  | _ => False
def dfrR (P : Program) (S : Nat) (ops : Array Oper) : Option (List SOper × Opd) := match ops.toList.getLast? with
  | some o => (match o.op, o.guard, o.dst with
    | .defer c, none, none => (match c.callee with
      | .value x => if c.args.size = 0 then (cmpL P S ops ops.toList.dropLast).map fun sl => (sl, cOpd x) else none
      | _ => none)
    | _, _, _ => none)
  | none => none
def cmpDf (P : Program) (S : Nat) (X : List Nat) : Code → Option (SCode × Opd × SCode)
  | .seq a b => match (match a with | .region _ ops false => dfrR P S ops | _ => none) with
    | some (sl, x) => (cmpC P S X b).map fun sb => (.reg sl, x, sb)
    | none => match cmpC P S X a, cmpDf P S X b with
      | some sa, some (pa, x, pb) => some (.seq sa pa, x, pb)
      | _, _ => none
  | _ => none
def dfK (next : Kn) (Q : Ks) : Ks
  | .normal => next
  | .exit id => Q (.exit id)
  | .goto l => Q (.goto l)
  | .ret => Q .ret
  | .pan v => Q (.pan v)
def dq (P : Program) (rs : List RV) (R : AEnd → Hp → Nat → Prop) (fv : AV) : Ks
  | .normal => fun fr σ n => DEF P fv none σ n (fun σ n => retC σ fr rs (fun vs => R (.ret (tupA vs)) σ n))
  | .ret => fun fr σ n => DEF P fv none σ n (fun σ n => retC σ fr rs (fun vs => R (.ret (tupA vs)) σ n))
  | .pan x => fun fr σ n => DEF P fv (some x) σ n (fun σ n => retC σ fr rs (fun vs => R (.ret (tupA vs)) σ n))
  | .exit _ => fun _ _ _ => False
  | .goto _ => fun _ _ _ => False
def DFN (fv : AV) (K : Prop) : Prop := match fv with
  | .fn _ _ => K
  | _ => False
def swpD (P : Program) (pa : SCode) (x : Opd) (pb : SCode) (rs : List RV) (R : AEnd → Hp → Nat → Prop) : Kn := swp P pa (dfK (fun fr σ n => DFN (x.get fr) (swp P pb (dq P rs R (x.get fr)) fr σ n)) (retQ rs R))
section
variable {P : Program} {N : Nat → Prop} {w0 : World} {M0 : Nat → Prop} {β0 : Nat → Option Nat} {β : Nat → Option Nat} {fr : Regs} {σ : Hp} {F : Nat → Prop} {a : Act} {w : World}
theorem dfr_sound {S : Nat} {X : List Nat} {x : Opd} {pb : SCode} {T : Nat} {U : Nat → Prop} {rs : List RV} {R : AEnd → Hp → Nat → Prop} {Q' : Exit → Act → World → Prop}
    (hA : ∀ e β fr σ n a w, T ≤ n → SRel N w0 M0 β0 [] β fr σ (Fn T U n) a w → e ≠ .normal → retQ rs R e fr σ n → Q' e.conv a w)
    (hB : ∀ e (g : FuncId) (caps : List AV) (vs : Array Value) β fr σ n a w, T ≤ n → vs.size = caps.length → (∀ (i : Nat) (u : Value) (z : AV), vs[i]? = some u → caps[i]? = some z → isRf z = true → Rel (live N β σ) w β u z) →
      SRel N w0 M0 β0 [⟨.fn (.func g) vs, #[]⟩] β fr σ (Fn T U n) a w → dq P rs R (.fn g caps) e fr σ n → Q' e.conv a w) :
    ∀ (c : Code) (pa : SCode), cmpDf P S X c = some (pa, x, pb) → ∀ (β : Nat → Option Nat) (fr : Regs) (σ : Hp) (n : Nat) (a : Act) (w : World), T ≤ n → a.tmps.size = S → SRel N w0 M0 β0 [] β fr σ (Fn T U n) a w →
      swpD P pa x pb rs R fr σ n → c.wp P Q' a w := by
  intro c
  induction c with
  | seq ca cb _ ihb =>
    intro pa hc β fr σ n a w hT hS Rl h
    simp only [cmpDf] at hc
    split at hc
    · rename_i sl x' hd
      obtain ⟨sb, hsb, e⟩ := Option.map_eq_some_iff.1 hc
      cases e
      split at hd
      · rename_i id ops _
        unfold dfrR at hd
        split at hd
        · rename_i o hlast
          split at hd
          · rename_i c hop hg hdst
            split at hd
            · rename_i x0 hcal
              split at hd
              · rename_i hz
                obtain ⟨sl', hsl, e⟩ := Option.map_eq_some_iff.1 hd
                cases e
                have hops : ops.toList = ops.toList.dropLast ++ [o] := by
                  obtain ⟨ys, hys⟩ := List.getLast?_eq_some_iff.1 hlast
                  rw [hys, List.dropLast_concat]
                refine wp_seq (wpIn_wide.1 (wpIn_region_list (F := FW none) (n := 0) ?_))
                rw [hops]
                refine sops_soundT (rr := none) (K := fun fr σ n => DFN ((cOpd x0).get fr) (swp P pb (dq P rs R ((cOpd x0).get fr)) fr σ n)) (Kp := fun v => retQ rs R (.pan v)) [o] (fun β1 fr1 σ1 n1 a1 w1 hT1 hS1 R1 h1 => ?_) (fun v β1 fr1 σ1 n1 a1 w1 hT1 hS1 R1 h1 => ?_) _ _ β fr σ n a w hsl hT hS Rl h
                · unfold DFN at h1
                  split at h1
                  · rename_i g caps hfv
                    have hfr := rel_get R1 x0
                    rw [hfv] at hfr
                    generalize hv0 : a1.eval x0 = v0 at hfr
                    cases hfr with
                    | fn _ vs _ hn hr =>
                      have hrun : (execOp a1.eval o).run P w1 = .ok (.defer ⟨.fn (.func g) vs, #[]⟩) w1 := by
                        have : c.args = #[] := Array.eq_empty_of_size_eq_zero hz
                        simp [execOp, hop, resolve, hcal, hv0, Deferred.ofValue, this]
                      unfold wpListIn
                      rw [if_pos (by simp [Region.wanted, hg])]
                      refine ⟨fun _ _ => trivial, ?_⟩
                      rw [Oper.semAt_none, hrun, Oper.uponIn_defer]
                      unfold wpListIn
                      rw [hdst]
                      have R2 : SRel N w0 M0 β1 [⟨.fn (.func g) vs, #[]⟩] β1 fr1 σ1 (Fn T U n1) { a1 with defers := ⟨.fn (.func g) vs, #[]⟩ :: a1.defers } w1 := ⟨R1.heap, R1.regs, R1.frame, R1.old, R1.away, by simp [R1.defers], fun _ _ h => h⟩
                      refine swp_soundW cb pb hsb T U (dq P rs R (.fn g caps)) Q' ?_ β1 fr1 σ1 n1 _ w1 hT1 hS1 R2 (by rw [hfv] at h1; exact h1)
                      intro e β2 fr2 σ2 n2 a2 w2 hT2 hS2 R3 h2
                      refine hB e g caps vs β2 fr2 σ2 n2 a2 w2 hT2 hn (fun i u z hu hz hrf => isRf_keep (hr i u z hu hz) hrf R3.ext) ?_ h2
                      exact ⟨R3.heap, R3.regs, R3.frame, R3.old, R3.away, R3.defers, fun i b h => R3.ext i b (R1.ext i b h)⟩
                  · exact h1.elim
                · exact hA (.pan v) β1 fr1 σ1 n1 a1 w1 hT1 R1 (by simp) h1
              · cases hd
            · cases hd
          · cases hd
        · cases hd
      · cases hd
    · split at hc
      · rename_i q sa pa' x' pb' h1 h2
        cases hc
        refine wp_seq (swp_soundW ca sa h1 T U (thenK (swpD P pa' x pb rs R) (dfK (fun fr σ n => DFN (x.get fr) (swp P pb (dq P rs R (x.get fr)) fr σ n)) (retQ rs R))) _ ?_ β fr σ n a w hT hS Rl h)
        intro e β1 fr1 σ1 n1 a1 w1 hT1 hS1 R1 h1
        cases e with
        | normal => exact ihb pa' h2 β1 fr1 σ1 n1 a1 w1 hT1 hS1 R1 h1
        | exit id => exact hA (.exit id) β1 fr1 σ1 n1 a1 w1 hT1 R1 (by simp) h1
        | goto l => exact hA (.goto l) β1 fr1 σ1 n1 a1 w1 hT1 R1 (by simp) h1
        | ret => exact hA .ret β1 fr1 σ1 n1 a1 w1 hT1 R1 (by simp) h1
        | pan v => exact hA (.pan v) β1 fr1 σ1 n1 a1 w1 hT1 R1 (by simp) h1
      · cases hc
  | _ => intro pa hc; simp [cmpDf] at hc
theorem conH_of_defer {f : FuncId} {fn : Func} {args : List AV} {n : Nat} {R : AEnd → Hp → Nat → Prop} {pa pb : SCode} {x : Opd} (rs : List RV) (hf : P.funcs[f]? = some fn) (X : List Nat) (hc : fn.body.bind (cmpDf P fn.ntmps X) = some (pa, x, pb)) (hgo : goFn P f = true) (hS : decide (args.length ≤ fn.ntmps) = true)
    (hres : resT P fn.results.toList = some rs) (h : swpD P pa x pb rs R (entry args) σ n) : ConH P f args σ n R := by
  obtain ⟨c, hb, hc⟩ := Option.bind_eq_some_iff.1 hc
  have hS := of_decide_eq_true hS
  refine ⟨hgo, fun N T U β w vs hT hN H hargs => ?_⟩
  have hsz : vs.size = args.length := hargs.1
  refine calls_of_wp_defers hf hb ?_
  have R0 : SRel N w (own β σ) β [] β (entry args) σ (Fn n (fun i => U i ∧ i < T) n) { tmps := vs ++ Array.replicate (fn.ntmps - vs.size) undef, defers := [] } w := by
    refine ⟨⟨fun i hi => H.dom i ((fn_up hT i).1 hi), H.off, H.inj, H.blk, H.map, H.lp, H.df⟩, fun t => ?_, Fr.refl _ _, fun b h _ => h, hN, rfl, fun _ _ h => h⟩
    unfold entry
    by_cases ht : t < args.length
    · have e1 : (vs ++ Array.replicate (fn.ntmps - vs.size) undef).getD t undef = vs[t] := by
        rw [Array.getD_eq_getD_getElem?, Array.getElem?_append_left (by omega)]; simp [hsz, ht]
      have e2 : args.getD t (.tp []) = args[t] := by simp [List.getD, ht]
      simp only [e1, e2]
      exact hargs.2 t vs[t] args[t] (by simp [hsz, ht]) (by simp [ht])
    · have e1 : (vs ++ Array.replicate (fn.ntmps - vs.size) undef).getD t undef = undef := by
        rw [Array.getD_eq_getD_getElem?, Array.getElem?_append_right (by omega), Array.getElem?_replicate]
        split <;> rfl
      have e2 : args.getD t (.tp []) = .tp [] := by simp [List.getD, List.getElem?_eq_none (Nat.le_of_not_lt ht)]
      simp only [e1, e2]
      exact .tp #[] [] rfl (fun i u z h _ => by simp at h)
  have hsize : (vs ++ Array.replicate (fn.ntmps - vs.size) undef).size = fn.ntmps := by simp; omega
  have fin : ∀ ds β' fr σ' n' a w', n ≤ n' → SRel N w (own β σ) β ds β' fr σ' (Fn n (fun i => U i ∧ i < T) n') a w' → retC σ' fr rs (fun vs => R (.ret (tupA vs)) σ' n') →
      ∃ v, (results fn a.tmps).run P w' = .ok v w' ∧ ∃ β' r σ' n', R r σ' n' ∧ n ≤ n' ∧ Leaves N β σ w (.returned v) w' β' σ' (Fn T U n') r := by
    intro ds β' fr σ' n' a w' hn Rf h
    obtain ⟨vs, hv, h⟩ := retC_of h
    obtain ⟨v, e1, e2⟩ := results_run Rf hres hv
    exact ⟨v, e1, β', _, σ', n', h, hn, Rf.ext, (Rf.free (fun i hi => (fn_up hT i).2 hi)).heap, e2, Rf.frame, Rf.old⟩
  refine dfr_sound (T := n) (U := fun i => U i ∧ i < T) (rs := rs) (R := R) ?_ ?_ c pa hc β _ σ n _ w (Nat.le_refl n) hsize R0 h
  · intro e β' fr σ' n' a w' hn Rf hne h
    cases e with
    | normal => exact absurd rfl hne
    | ret =>
      obtain ⟨v, e1, e2⟩ := fin _ β' fr σ' n' a w' hn Rf h
      simp only [SExit.conv, bodyPostD, Rf.defers]
      exact ⟨v, e1, e2⟩
    | exit id => exact h.elim
    | goto l => exact h.elim
    | pan v =>
      simp only [SExit.conv, bodyPostD, Rf.defers]
      exact ⟨β', _, σ', n', h, hn, Rf.ext, (Rf.free (fun i hi => (fn_up hT i).2 hi)).heap, rfl, Rf.frame, Rf.old⟩
  · intro e g caps vs' β' fr σ' n' a w' hn hnv hcaps Rf h
    have run : ∀ pv, DEF P (.fn g caps) pv σ' n' (fun σ n => retC σ fr rs (fun vs => R (.ret (tupA vs)) σ n)) →
        Go.Leaves P fn a.tmps (fun e w'' => ∃ β' r σ' n', R r σ' n' ∧ n ≤ n' ∧ Leaves N β σ w e w'' β' σ' (Fn T U n') r) a.defers (modeOf pv) w' := by
      intro pv hd
      obtain ⟨hrf, R1, hcon, hk⟩ := hd
      rw [Rf.defers]
      have hinv : (invoke (.fn (.func g) vs') #[]).run P w' = .ok (.enter g vs') w' := by simp [invoke, run_callFunc hcon.1]
      refine ⟨by cases pv <;> simp [modeOf], .func g, vs', g, vs', rfl, hinv, ?_⟩
      have hb := aw_now Rf
      refine (hcon.2 N n (fun i => U i ∧ i < T) β' w' vs' hn hb Rf.heap ⟨hnv, fun i u z hu hz => hcaps i u z hu hz (List.all_eq_true.1 hrf z (List.mem_of_getElem? hz))⟩).mono ?_
      rintro e u' w'' ⟨⟨v, rfl⟩, rfl, β2, σ2, n2, hr, hn2, hl⟩
      have R2 := Rf.after hl
      obtain ⟨v', e1, e2⟩ := fin _ β2 fr σ2 n2 a w'' (by omega) R2 (hk σ2 n2 hr hn2)
      cases pv <;> exact ⟨v', e1, e2⟩
    cases e with
    | normal => exact run none h
    | ret => exact run none h
    | exit id => exact h.elim
    | goto l => exact h.elim
    | pan v => exact run (some v) h
/-! the closure itself -/
def isRec (o : Oper) : Bool := match o.op with
  | .call c => (match c.callee with
    | .builtin .recover => c.args.size == 0
    | _ => false)
  | _ => false
def recR (P : Program) (S : Nat) (ops : Array Oper) : Option (Nat × List SOper) := match ops.toList with
  | o :: l => (match o.guard, o.dst with
    | none, some d => if isRec o = true ∧ d < S then (cmpL P S ops l).map fun sl => (d, sl) else none
    | _, _ => none)
  | [] => none
def cmpRc (P : Program) (S : Nat) (X : List Nat) : Code → Option (Nat × SCode)
  | .region _ ops false => (recR P S ops).map fun p => (p.1, .reg p.2)
  | .seq (.region _ ops false) b => match recR P S ops, cmpC P S X b with
    | some (d, sl), some sb => some (d, .seq (.reg sl) sb)
    | _, _ => none
  | _ => none
def recV : Option Value → AV
  | none => .sc .nilIface
  | some x => .sc x
def recVal : Option Value → Value
  | none => .nilIface
  | some x => x
def recQ (R : Hp → Nat → Prop) : Ks
  | .normal => fun _ σ n => R σ n
  | .ret => fun _ σ n => R σ n
  | _ => fun _ _ _ => False
theorem recover_run {o : Oper} (h : isRec o = true) : (execOp a.eval o).run P w = .ok .recover w := by
  unfold isRec at h
  split at h
  · rename_i c hc
    split at h
    · rename_i hcal
      simp [execOp, hc, resolve, hcal, invoke, Go.builtin]
    · cases h
  · cases h
theorem wpS_rec {id : Nat} {ops : Array Oper} {o : Oper} {l : List Oper} {Q : Exit → Act → List Frame → World → Prop} {c₀ : Frame} {cs : List Frame} {pv : Option Value} (hl : ops.toList = o :: l) (hr : isRec o = true) (hg : o.guard = none) (hm : c₀.mode = modeOf pv)
    (h : wpListIn (FW none) 0 P ops (fun e a w => Q e a ({ c₀ with mode := modeAfter pv } :: cs) w) l (a.put o.dst (recVal pv)) w) : (Code.region id ops false).wpS P Q a (c₀ :: cs) w := by
  intro b k hb hro
  have h0 : ops[0]? = some o := by rw [← Array.getElem?_toList, hl]; rfl
  have hrange : List.range ops.size = 0 :: List.range' 1 l.length := by
    rw [List.range_eq_range', ← Array.length_toList, hl, List.length_cons, List.range'_succ]
  have hw : Region.wanted o (yielded ops a.tmps) = true := by simp [Region.wanted, hg]
  have hops : wpOpsIn (FW none) 0 P ops (fun e a w => Q e a ({ c₀ with mode := modeAfter pv } :: cs) w) (List.range' 1 l.length) (a.put o.dst (recVal pv)) w := by
    rw [wpOpsIn_eq_wpListIn l 1 (fun j => by rw [← Array.getElem?_toList, hl, Nat.add_comm, List.getElem?_cons_succ])]
    exact h
  obtain ⟨e, a', w', hq, harr⟩ := wp_opsIn _ _ _ hops { b with roundOf := none } k ({ c₀ with mode := modeAfter pv } :: cs) rfl trivial (room_wide _)
  have harr : Arrives P (lone (b.at (a.put o.dst (recVal pv)) (.inRegion ops (List.range' 1 l.length) :: k)) ({ c₀ with mode := modeAfter pv } :: cs) w) b k ({ c₀ with mode := modeAfter pv } :: cs) e a' w' := (arrivesIn_iff (b := { b with roundOf := none }) (fun _ _ => stepsIn_wide) rfl).1 harr
  refine ⟨e, a', _, w', hq, .of_steps (.head step_region ?_) harr⟩
  rw [hrange]
  have hgs := stepG_op (P := P) (b := b) (k := k) (cs := c₀ :: cs) (w := w) (rest := List.range' 1 l.length) h0 hw
  have hfin : ∀ v, (b.at a (.inRegion ops (0 :: List.range' 1 l.length) :: k)).finish v = b.at (a.put o.dst v) (.inRegion ops (List.range' 1 l.length) :: k) := by
    intro v; rw [Frame.finish_at, h0]; rfl
  have hk : (b.at a (.inRegion ops (0 :: List.range' 1 l.length) :: k)).kind = .deferred := hb
  have htr := tryRecover_deferred hk (c₀ :: cs)
  have hrun := recover_run (P := P) (a := a) (w := w) hr
  refine .one (step_lone_go ?_)
  rw [hgs, ← hfin]
  cases pv with
  | none =>
    have hc : ({ c₀ with mode := modeAfter none } : Frame) = c₀ := by cases c₀; simp only [modeOf] at hm; subst hm; rfl
    have hrec : recoverD (c₀ :: cs) = none := by simp [recoverD, hm, modeOf]
    simp only [Frame.at] at htr ⊢
    simp [stepG.apply, hrun, htr, hrec, hc, recVal]
  | some x =>
    have hrec : recoverD (c₀ :: cs) = some (x, { c₀ with mode := modeAfter (some x) } :: cs) := by simp [recoverD, hm, modeOf, modeAfter]
    simp only [Frame.at] at htr ⊢
    simp [stepG.apply, hrun, htr, hrec, recVal]
theorem conR_of {f : FuncId} {fn : Func} {args : List AV} {n d : Nat} {sc : SCode} {pv : Option Value} {R : Hp → Nat → Prop} (hf : P.funcs[f]? = some fn) (X : List Nat) (hc : fn.body.bind (cmpRc P fn.ntmps X) = some (d, sc)) (hgo : goFn P f = true) (hS : decide (args.length ≤ fn.ntmps) = true)
    (hres : fn.results.size = 0) (h : swp P sc (recQ R) (put (entry args) (some d) (recV pv)) σ n) : ConR P f args σ n pv R := by
  obtain ⟨c, hb, hc⟩ := Option.bind_eq_some_iff.1 hc
  have hS := of_decide_eq_true hS
  refine ⟨hgo, fun N T U β w vs hT hN H hargs => ?_⟩
  have hsz : vs.size = args.length := hargs.1
  refine callsD_of_wpS hf hb (fun c₀ cs hm => ?_)
  have R0 : SRel N w (own β σ) β [] β (entry args) σ (Fn n (fun i => U i ∧ i < T) n) { tmps := vs ++ Array.replicate (fn.ntmps - vs.size) undef, defers := [] } w := by
    refine ⟨⟨fun i hi => H.dom i ((fn_up hT i).1 hi), H.off, H.inj, H.blk, H.map, H.lp, H.df⟩, fun t => ?_, Fr.refl _ _, fun b h _ => h, hN, rfl, fun _ _ h => h⟩
    unfold entry
    by_cases ht : t < args.length
    · have e1 : (vs ++ Array.replicate (fn.ntmps - vs.size) undef).getD t undef = vs[t] := by
        rw [Array.getD_eq_getD_getElem?, Array.getElem?_append_left (by omega)]; simp [hsz, ht]
      have e2 : args.getD t (.tp []) = args[t] := by simp [List.getD, ht]
      simp only [e1, e2]
      exact hargs.2 t vs[t] args[t] (by simp [hsz, ht]) (by simp [ht])
    · have e1 : (vs ++ Array.replicate (fn.ntmps - vs.size) undef).getD t undef = undef := by
        rw [Array.getD_eq_getD_getElem?, Array.getElem?_append_right (by omega), Array.getElem?_replicate]
        split <;> rfl
      have e2 : args.getD t (.tp []) = .tp [] := by simp [List.getD, List.getElem?_eq_none (Nat.le_of_not_lt ht)]
      simp only [e1, e2]
      exact .tp #[] [] rfl (fun i u z h _ => by simp at h)
  have hsize : (vs ++ Array.replicate (fn.ntmps - vs.size) undef).size = fn.ntmps := by simp; omega
  have hrv : ∀ M β' w', Rel M w' β' (recVal pv) (recV pv) := fun M β' w' => by cases pv <;> exact .sc _
  have hQ : ∀ e β' fr σ' n' a w', n ≤ n' → a.tmps.size = fn.ntmps → SRel N w (own β σ) β [] β' fr σ' (Fn n (fun i => U i ∧ i < T) n') a w' → recQ R e fr σ' n' →
      bodyPostS P fn c₀ cs (fun e u w'' => (∃ v, e = .returned v) ∧ u = modeAfter pv ∧ ∃ β' σ' n', R σ' n' ∧ n ≤ n' ∧ Leaves N β σ w (.returned (.tuple #[])) w'' β' σ' (Fn T U n') (.ret (.tp []))) e.conv a ({ c₀ with mode := modeAfter pv } :: cs) w' := by
    intro e β' fr σ' n' a w' hn _ Rf hq
    have fin : R σ' n' → a.defers = [] ∧ ∃ u', ({ c₀ with mode := modeAfter pv } :: cs : List Frame) = { c₀ with mode := u' } :: cs ∧ ∃ v, (results fn a.tmps).run P w' = .ok v w' ∧ ((∃ v', Ending.returned v = .returned v') ∧ u' = modeAfter pv ∧ ∃ β' σ' n', R σ' n' ∧ n ≤ n' ∧ Leaves N β σ w (.returned (.tuple #[])) w' β' σ' (Fn T U n') (.ret (.tp []))) := by
      intro hr
      have hres' : fn.results = #[] := Array.eq_empty_of_size_eq_zero hres
      refine ⟨Rf.defers, modeAfter pv, rfl, .tuple #[], by simp [results, hres'], ⟨_, rfl⟩, rfl, β', σ', n', hr, hn, Rf.ext, (Rf.free (fun i hi => (fn_up hT i).2 hi)).heap, .tp #[] [] rfl (fun i u z h _ => by simp at h), Rf.frame, Rf.old⟩
    cases e with
    | normal => exact fin hq
    | ret => exact fin hq
    | exit id => exact hq.elim
    | goto l => exact hq.elim
    | pan v => exact hq.elim
  have main : ∀ (id : Nat) (ops : Array Oper) (d : Nat) (sl : List SOper) (K : Kn) (Kp : Value → Kn) (Q : Exit → Act → List Frame → World → Prop), recR P fn.ntmps ops = some (d, sl) →
      (∀ β' fr σ' n' a w', n ≤ n' → a.tmps.size = fn.ntmps → SRel N w (own β σ) β [] β' fr σ' (Fn n (fun i => U i ∧ i < T) n') a w' → K fr σ' n' → Q .normal a ({ c₀ with mode := modeAfter pv } :: cs) w') →
      (∀ x β' fr σ' n' a w', n ≤ n' → a.tmps.size = fn.ntmps → SRel N w (own β σ) β [] β' fr σ' (Fn n (fun i => U i ∧ i < T) n') a w' → Kp x fr σ' n' → Q (.panic [{ v := x, recovered := false }]) a ({ c₀ with mode := modeAfter pv } :: cs) w') →
      sops P K Kp sl (put (entry args) (some d) (recV pv)) σ n →
      (Code.region id ops false).wpS P Q { tmps := vs ++ Array.replicate (fn.ntmps - vs.size) undef, defers := [] } (c₀ :: cs) w := by
    intro id ops d sl K Kp Q hrec hK hKp hs
    unfold recR at hrec
    split at hrec
    · rename_i o l hl
      split at hrec
      · rename_i d' hg hd
        split at hrec
        · rename_i hcond
          obtain ⟨sl', hsl, e⟩ := Option.map_eq_some_iff.1 hrec
          cases e
          refine wpS_rec hl hcond.1 hg hm ?_
          refine sops_sound (rr := none) (Q := fun e a w => Q e a ({ c₀ with mode := modeAfter pv } :: cs) w) hK hKp l sl β _ σ n _ w hsl (Nat.le_refl n) (by rw [put_size, hsize]) (?_) hs
          rw [hd]
          exact R0.put (some d) (fun t ht => by cases ht; rw [hsize]; exact hcond.2) (hrv _ _ _)
        · cases hrec
      · cases hrec
    · cases hrec
  unfold cmpRc at hc
  split at hc
  · rename_i id ops
    obtain ⟨p, hp, e⟩ := Option.map_eq_some_iff.1 hc
    cases e
    exact main id ops p.1 p.2 (recQ R .normal) (fun v => recQ R (.pan v)) _ hp (fun β' fr σ' n' a w' h1 h2 h3 h4 => hQ .normal β' fr σ' n' a w' h1 h2 h3 h4) (fun x β' fr σ' n' a w' h1 h2 h3 h4 => h4.elim) h
  · rename_i id ops b
    split at hc
    · rename_i d' sl sb h1 h2
      cases hc
      refine wpS_seq (main id ops d sl (swp P sb (recQ R)) (fun v => recQ R (.pan v)) _ h1 (fun β' fr σ' n' a w' g1 g2 g3 g4 => ?_) (fun x β' fr σ' n' a w' g1 g2 g3 g4 => g4.elim) h)
      exact wpS_of_wp (swp_soundW b sb h2 n (fun i => U i ∧ i < T) (recQ R) _ (fun e β2 fr2 σ2 n2 a2 w2 k1 k2 k3 k4 => hQ e β2 fr2 σ2 n2 a2 w2 k1 k2 k3 k4) β' fr σ' n' a w' g1 g2 g3 g4)
    · cases hc
  · cases hc
end
attribute [go_sem] DFN
theorem DEF_con {P : Program} {g : FuncId} {caps : List AV} {pv : Option Value} {σ : Hp} {n : Nat} {K : Hp → Nat → Prop} (R : Hp → Nat → Prop) (hr : caps.all isRf = true) (h : ConR P g caps σ n pv R) (hk : ∀ σ' n', R σ' n' → n ≤ n' → K σ' n') : DEF P (.fn g caps) pv σ n K := ⟨hr, R, h, hk⟩
end Go.Proofs.YtodoejfkjimeaaaGreatDoor.Am

set_option linter.unusedSimpArgs false
set_option linter.unusedVariables false
namespace Go.Proofs.YtodoejfkjimeaaaGreatDoor.Am
open Go Go.RowKit
section
variable {P : Program}
theorem ConH.fresh {f : FuncId} {args : List AV} {σ : Hp} {n : Nat} {R : AEnd → Hp → Nat → Prop} (hgo : goFn P f = true) (h : (∀ j, n ≤ j → σ j = none) → ConH P f args σ n R) : ConH P f args σ n R :=
  ⟨hgo, fun N T U β w vs hT hN H hargs => (h (fun j hj => (H.dom j (.inl hj)).2)).2 N T U β w vs hT hN H hargs⟩
theorem conW_less {f : FuncId} {args : List AV} {pre : List (Nat × Ob)} {id : Nat} {r : AEnd} {wr : Wr} (hgo : goFn P f = true)
    (h : ∀ (σ : Hp) (n : Nat), (∀ p ∈ pre, σ p.1 = some p.2) → (∀ j, n ≤ j → σ j = none) → ConH P f args σ n (fun r' σ' _ => r' = r ∧ ∀ i x, applyW σ wr i = some x → σ' i = some x)) : ConW P f args pre id r wr :=
  conW_of hgo fun σ n hp _ => ConH.fresh hgo fun hf => (h σ n hp hf).mono fun r' σ' n' _ ⟨h1, h2⟩ => by
    subst h1
    exact .less _ _ _ _ (applyW σ wr) _ _ (fun i x hx => ⟨x, h2 i x hx, .refl x⟩) (.done _ _ _ _)
theorem conW_less' {f : FuncId} {args : List AV} {pre : List (Nat × Ob)} {id : Nat} {r : AEnd} {wr : Wr} (hgo : goFn P f = true)
    (h : ∀ (σ : Hp) (n : Nat) (R : AEnd → Hp → Nat → Prop), (∀ p ∈ pre, σ p.1 = some p.2) → (∀ j, n ≤ j → σ j = none) → (∀ r' σ' n', r' = r → (∀ i x, applyW σ wr i = some x → σ' i = some x) → R r' σ' n') → ConH P f args σ n R) : ConW P f args pre id r wr :=
  conW_less hgo fun σ n hp hf => h σ n _ hp hf (fun _ _ _ h1 h2 => ⟨h1, h2⟩)
theorem CALL_conW {g : FuncId} {caps args : List AV} {pre : List (Nat × Ob)} {r : AEnd} {wr : Wr} {σ : Hp} {n : Nat} {K : AEnd → Hp → Nat → Prop} (h : ConW P g (args ++ caps) pre n r wr) (hp : ∀ p ∈ pre, σ p.1 = some p.2)
    (hk : ∀ n', n + 16 ≤ n' → K r (applyW σ wr) n') : CALL P (.fn g caps) args σ n K := .w ⟨pre, r, wr, hp, h, hk⟩
abbrev blk1 (v : AV) : Ob := .c ⟨1, [[v]], true, false⟩
theorem callD_conS {g : FuncId} {caps args cs : List AV} {I : List Nat} {v : AV} {σ : Hp} {id : Nat} {K : AEnd → Wr → List Nat → Prop} (h : Con P g cs (.ret v)) (hb : brwL σ 6 (args ++ caps) = some (cs, I)) (hs : scal v = true)
    (hk : K (.ret v) [] I) : callD P (.fn g caps) args σ id K := .c ⟨cs, I, .ret v, hb, h, by simp only [hs, if_true]; exact hk⟩
theorem brw_rf' (σ : Hp) (d i k r c : Nat) : brw σ (d + 1) (.rf i k r c) = (match σ i with
  | some (.c x) => if x.k = k then (match x.rows[r]? with
    | some row => if c < row.length then (brwL σ d (row.drop c)).map (fun p => (.fp p.1, i :: p.2)) else none
    | none => none) else none
  | _ => none) := rfl
theorem brw_ow' (σ : Hp) (d i k off len : Nat) : brw σ (d + 1) (.ow i k off len) = (match σ i with
  | some (.c x) => if x.k = k ∧ x.cl = true ∧ off + len ≤ x.rows.length ∧ 0 < k then some (.tr ((x.rows.drop off).take len), [i])
    else if x.k = k ∧ off + len ≤ x.rows.length ∧ 0 < k then (brwR σ d ((x.rows.drop off).take len)).map (fun p => (.tr p.1, i :: p.2)) else none
  | _ => none) := rfl
attribute [go_sem] brw_rf' brw_ow' Apt names rdA rdY List.mem_cons List.not_mem_nil List.mem_append
end
end Go.Proofs.YtodoejfkjimeaaaGreatDoor.Am

set_option linter.unusedSimpArgs false
set_option linter.unusedVariables false
namespace Go.Proofs.YtodoejfkjimeaaaGreatDoor.Am
open Go Go.RowKit
section
variable {P : Program}
theorem conW_ofE {f : FuncId} {args : List AV} {pre : List (Nat × Ob)} {id k : Nat} {cl : Bool} {r : AEnd} {wr : Wr} (hgo : goFn P f = true)
    (h : ∀ (σ : Hp) (n : Nat), (∀ p ∈ pre, σ p.1 = some p.2) → (∀ q, q < 16 → σ (id + q) = none) → id + 16 ≤ n → (∀ j, n ≤ j → σ j = none) →
      ConH P f args σ n (fun r' σ' _ => Wn id r' σ' [] [] r (applyW σ wr) ∨ (r' = .ret .em ∧ r = .ret (.ow id k 0 0) ∧ wr = [(id, some (.c ⟨k, [], true, cl⟩))] ∧ ∀ i x, σ i = some x → σ' i = some x))) : ConW P f args pre id r wr := by
  refine ⟨hgo, fun N β σ F w vs hpre hid T hT hF hN H hargs => ?_⟩
  have H' : HRel N β σ (Fn T F T) w := ⟨fun i hi => H.dom i (hi.elim (hF i) (fun h => h.1)), H.off, H.inj, H.blk, H.map, H.lp, H.df⟩
  refine ((h σ T hpre (fun q hq => (H.dom _ (hid _ (by omega) (by omega))).2) hT (fun j hj => (H.dom j (hF j hj)).2)).2 N T F β w vs (Nat.le_refl _) hN H' hargs).mono ?_
  rintro e w' ⟨β', r', σ', n', hw, hn, hl⟩
  rcases hw with hw | ⟨rfl, rfl, rfl, hk⟩
  · obtain ⟨β2, h2⟩ := hw.sound hN (fun p hp => by cases hp) (fun p hp => by cases hp) (fun i hi _ => Or.inr ⟨hid _ (by omega) (by omega), by omega⟩) hl
    refine ⟨β2, n', hn, h2.1, ⟨fun i hi => h2.2.1.dom i ⟨?_, hi.2.1⟩, h2.2.1.off, h2.2.1.inj, h2.2.1.blk, h2.2.1.map, h2.2.1.lp, h2.2.1.df⟩, h2.2.2.1, h2.2.2.2.1, h2.2.2.2.2⟩
    rcases hi.2.2 with h | h
    · exact Or.inr ⟨hi.1, h⟩
    · exact Or.inl h
  · obtain ⟨l1, l2, l3, l4, l5⟩ := hl.less (σ2 := σ) (fun i x hx => ⟨x, hk i x hx, .refl x⟩)
    have R : SRel N w (own β σ) β [] β' (fun _ => .tp []) σ (Fn T F n') { tmps := #[], defers := [] } w' := ⟨l2, fun t => .tp #[] [] rfl (fun i u z h _ => by simp at h), l4, l5, hN, rfl, l1⟩
    obtain ⟨R', up⟩ := R.imagine id (Or.inr ⟨hid id (Nat.le_refl _) (by omega), by omega⟩) k cl
    refine ⟨β', n', hn, R'.ext, (R'.free (F' := fun j => F j ∧ ¬ (id ≤ j ∧ j < id + 16) ∧ (j < T ∨ n' ≤ j)) (fun j hj => ⟨?_, fun e => hj.2.1 ⟨by omega, by omega⟩⟩)).heap, ?_, R'.frame, R'.old⟩
    · rcases hj.2.2 with h | h
      · exact Or.inr ⟨hj.1, h⟩
      · exact Or.inl h
    · cases e with
      | returned v =>
        cases l3 with
        | em A => exact .ow0 _ _ _
      | panicked ch => exact l3.elim
      | _ => exact l3.elim
theorem wn_new {id j k off len : Nat} {x : Ob} {σ σ' : Hp} (hx : σ' j = some x) (hj : ∀ q, q < 16 → j ≠ id + q) (hj0 : σ j = none) (hk : ∀ i y, σ i = some y → σ' i = some y) :
    Wn id (.ret (.ow j k off len)) σ' [] [] (.ret (.ow id k off len)) (applyW σ [(id, some x)]) := by
  refine .move _ _ _ _ j 0 x _ _ hx (by omega) (by simp) hj (.ret _ (.ow (id + 0) k off len) _ _ _ _ _ (.ow j (id + 0) k off len (by simp)) (.less _ _ _ _ (applyW σ [(id, some x)]) _ _ (fun i y hy => ?_) (.done _ _ _ _)))
  simp only [applyW, upd, Nat.add_zero] at hy ⊢
  by_cases e : i = id
  · rw [if_pos e] at hy ⊢; exact ⟨y, hy, .refl y⟩
  · rw [if_neg e] at hy ⊢
    by_cases e2 : i = j
    · subst e2; rw [hj0] at hy; cases hy
    · rw [if_neg e2]; exact ⟨y, hk i y hy, .refl y⟩
end
end Go.Proofs.YtodoejfkjimeaaaGreatDoor.Am

set_option linter.unusedSimpArgs false
set_option linter.unusedVariables false
namespace Go.Proofs.YtodoejfkjimeaaaGreatDoor.Am
open Go Go.RowKit

section
variable {P : Program} {N : Nat → Prop} {w0 : World} {M0 : Nat → Prop} {β0 : Nat → Option Nat} {ds : List Deferred} {β : Nat → Option Nat} {fr : Regs} {σ : Hp} {F : Nat → Prop} {a : Act} {w : World}
theorem SRel.setLp (h : SRel N w0 M0 β0 ds β fr σ F a w) {i b D : Nat} {L : Lp} {gr : Regs} {S : Nat} {st : LoopState} {pe : Option Code} {tm : Array Value} (hσ : σ i = some (.lp L gr S st pe true)) (hb : β i = some b) (hl : LpAt (live N β σ) w β L gr S st pe b tm D) (st' : LoopState) (pe' : Option Code) :
    SRel N w0 M0 β0 ds β fr (upd σ i (some (.lp L gr S st' pe' true))) F a (w.putObj b (.loop { state := st', pending := pe', fn := L.fn, tmps := tm, params := L.params, assign := L.assign, body := L.body, defers := D })) := by
  have hlt : b < w.heap.size := (Array.getElem?_eq_some_iff.1 hl.1).1
  refine (h.setObj (w' := w.putObj b (.loop { state := st', pending := pe', fn := L.fn, tmps := tm, params := L.params, assign := L.assign, body := L.body, defers := D })) hσ rfl hb rfl rfl rfl World.putObj_size (fun g hg => World.putObj_heap_other hg) ?_ (.lp L gr S st' pe' true) (fun L' gr' S' s' p' w' e => by cases e; exact ⟨tm, D, World.putObj_heap_same hlt, hl.2.1, hl.2.2.1, hl.2.2.2⟩) (fun p wr e => by cases e) (fun z e => by cases e) (fun es wr e => by cases e)).1
  intro s hs; simp only [World.shape?, hl.1] at hs; cases hs
theorem SRel.setDf (h : SRel N w0 M0 β0 ds β fr σ F a w) {i D : Nat} (hσ : σ i = some (.df true true)) (hb : β i = some D) (hl : w.heap[D]? = some (.deferred (some []))) :
    SRel N w0 M0 β0 ds β fr (upd σ i (some (.df false true))) F a (w.putObj D (.deferred none)) := by
  have hlt : D < w.heap.size := (Array.getElem?_eq_some_iff.1 hl).1
  refine (h.setObj (w' := w.putObj D (.deferred none)) hσ rfl hb rfl rfl rfl World.putObj_size (fun g hg => World.putObj_heap_other hg) ?_ (.df false true) (fun L' gr' S' s' p' w' e => by cases e) (fun p wr e => by cases e; exact World.putObj_heap_same hlt) (fun z e => by cases e) (fun es wr e => by cases e)).1
  intro s hs; simp only [World.shape?, hl] at hs; cases hs
def rndQ (y : Nat) (L : Lp) (gr : Regs) (S : Nat) (R : AEnd → Hp → Nat → Prop) : Ks
  | .normal => fun _ σ n => σ y = some (.lp L gr S .busy none true) ∧ R (.ret (bb true)) (upd σ y (some (.lp L gr S .ready none true))) n
  | .ret => fun _ σ n => σ y = some (.lp L gr S .busy none true) ∧ R (.ret (bb false)) (upd σ y (some (.lp L gr S .done (some .ret) true))) n
  | .exit id => fun _ σ n => σ y = some (.lp L gr S .busy none true) ∧ R (.ret (bb false)) (upd σ y (some (.lp L gr S .done (some (.exit id)) true))) n
  | .goto l => fun _ σ n => σ y = some (.lp L gr S .busy none true) ∧ R (.ret (bb false)) (upd σ y (some (.lp L gr S .done (some (.goto l)) true))) n
  | .pan _ => fun _ _ _ => False
def rndA (P : Program) (y : Nat) (L : Lp) (gr : Regs) (S : Nat) (sb : SCode) (R : AEnd → Hp → Nat → Prop) : Ks
  | .normal => fun fr σ n => σ y = some (.lp L gr S .ready none true) ∧ swp P sb (rndQ y L gr S R) fr (upd σ y (some (.lp L gr S .busy none true))) n
  | _ => fun _ _ _ => False
theorem ycon_of {y : Nat} {x : AV} {L : Lp} {gr : Regs} {S p n : Nat} {R : AEnd → Hp → Nat → Prop} {sa sb : SCode} {X X' : List Nat} (hy : σ y = some (.lp L gr S .ready none true)) (hp : L.params = #[p]) (hpS : p < S)
    (hca : cmpC P S X L.assign = some sa) (hcb : cmpC P S X' L.body = some sb) (hna : noScope L.assign = true) (hnb : noScope L.body = true)
    (h : swp P sa (rndA P y L gr S sb R) (fun t => if t = p then x else gr t) σ n) : YCon P y [x] σ n R := by
  intro N T U β w vs l hT hA H hβ hargs
  obtain ⟨b, tm, D, h1, h2⟩ := H.lp y _ _ _ _ _ _ hy
  rw [hβ] at h1; cases h1
  have hsz : vs.size = 1 := hargs.1
  have hv := hargs.2 0 vs[0] x (Array.getElem?_eq_getElem (by omega)) rfl
  have hvs : vs = #[vs[0]] := by
    apply Array.ext
    · simp [hsz]
    · intro j h1 h2
      have : j = 0 := by omega
      subst this; rfl
  generalize vs[0] = v at hv hvs
  subst hvs
  refine ⟨L.fn, _, L.assign, L.body, run_yield h2.1 (by simp [hp]), ?_⟩
  refine roundIn_of_wpIn (F := Fence.wide) trivial ?_
  have hfold : (L.params.zip #[v]).foldl (fun tmps (q : Tmp × Value) => tmps.setIfInBounds q.1 q.2) tm = tm.setIfInBounds p v := by
    have hz : #[p].zip #[v] = #[(p, v)] := by apply Array.ext'; simp
    rw [hp, hz]; simp
  have R0 : SRel N w (own β σ) β [] β (fun t => if t = p then x else gr t) σ (Fn n (fun i => U i ∧ i < T) n) { tmps := tm.setIfInBounds p v, defers := [] } w := by
    refine ⟨⟨fun i hi => H.dom i ((fn_up hT i).1 hi), H.off, H.inj, H.blk, H.map, H.lp, H.df⟩, fun t => ?_, Fr.refl _ _, fun b h _ => h, hA, rfl, fun _ _ h => h⟩
    simp only [Array.getD_eq_getD_getElem?, Array.getElem?_setIfInBounds]
    by_cases e : t = p
    · subst e
      simp only [if_true, h2.2.2.1, hpS, Option.getD_some]
      exact hv
    · rw [if_neg e, if_neg (Ne.symm e), ← Array.getD_eq_getD_getElem?]
      exact h2.2.2.2 t
  refine swp_sound (rr := some l) L.assign sa hca (.inr hna) n (fun i => U i ∧ i < T) (rndA P y L gr S sb R) _ ?_ β _ σ n _ w (Nat.le_refl n) (by rw [hfold]; simp [h2.2.2.1]) (by rw [hfold]; exact R0) h
  intro e β1 fr1 σ1 n1 a1 w1 hn1 hS1 R1 hq
  cases e with
  | normal =>
    obtain ⟨hy1, hq⟩ := hq
    obtain ⟨b1, tm1, D1, k1, k2⟩ := R1.heap.lp y _ _ _ _ _ _ hy1
    rw [R1.ext _ _ hβ] at k1; cases k1
    refine ⟨_, run_beginRound k2.1 rfl, ?_⟩
    have R2 := R1.setLp hy1 (R1.ext _ _ hβ) k2 .busy none
    refine swp_sound (rr := some l) L.body sb hcb (.inr hnb) n (fun i => U i ∧ i < T) (rndQ y L gr S R) _ ?_ β1 _ _ n1 a1 _ hn1 hS1 R2 hq
    have fin : ∀ (jump : Option Code) β3 fr3 σ3 n3 a3 w3, n ≤ n3 → SRel N w (own β σ) β [] β3 fr3 σ3 (Fn n (fun i => U i ∧ i < T) n3) a3 w3 → σ3 y = some (.lp L gr S .busy none true) → R (.ret (bb jump.isNone)) (upd σ3 y (some (.lp L gr S (if jump.isNone then .ready else .done) jump true))) n3 →
        ∃ v w', (Instr.endRound l jump).run P w3 = .ok v w' ∧ ∃ β' r σ' n', R r σ' n' ∧ n ≤ n' ∧ Leaves N β σ w (.returned v) w' β' σ' (Fn T U n') r := by
      intro jump β3 fr3 σ3 n3 a3 w3 hn3 R3 hy3 hr
      obtain ⟨b3, tm3, D3, k3, k4⟩ := R3.heap.lp y _ _ _ _ _ _ hy3
      rw [R3.ext _ _ hβ] at k3; cases k3
      have R4 := R3.setLp hy3 (R3.ext _ _ hβ) k4 (if jump.isNone then .ready else .done) jump
      exact ⟨_, _, run_endRound jump k4.1, β3, _, _, n3, hr, hn3, R4.ext, (R4.free (fun i hi => (fn_up hT i).2 hi)).heap, .sc _, R4.frame, R4.old⟩
    intro e β3 fr3 σ3 n3 a3 w3 hn3 hS3 R3 hq
    cases e with
    | normal => exact fin none β3 fr3 σ3 n3 a3 w3 hn3 R3 hq.1 hq.2
    | ret => exact fin (some .ret) β3 fr3 σ3 n3 a3 w3 hn3 R3 hq.1 hq.2
    | exit id => exact fin (some (.exit id)) β3 fr3 σ3 n3 a3 w3 hn3 R3 hq.1 hq.2
    | goto l' => exact fin (some (.goto l')) β3 fr3 σ3 n3 a3 w3 hn3 R3 hq.1 hq.2
    | pan v => exact hq.elim
  | exit id => exact hq.elim
  | goto l => exact hq.elim
  | ret => exact hq.elim
  | pan v => exact hq.elim
def rngK (y d : Nat) (L : Lp) (fr : Regs) (S : Nat) (Q : Ks) (r : AEnd) (σ : Hp) (n : Nat) : Prop := match r with
  | .ret _ => σ d = some (.df true true) ∧ ∃ st pe, σ y = some (.lp L fr S st pe true) ∧ st ≠ .busy ∧ (match pe with
    | none => Q .normal fr (upd σ y none) n
    | some .ret => Q .ret fr (upd σ y none) n
    | some (.exit id) => Q (.exit id) fr (upd σ y none) n
    | some (.goto l) => Q (.goto l) fr (upd σ y none) n
    | some _ => False)
  | .pan _ => False
def RNG (P : Program) (fv : AV) (L : Lp) (fr : Regs) (S : Nat) (σ : Hp) (n : Nat) (Q : Ks) : Prop :=
  callH P fv [.yl (n + 16)] (upd (upd σ n (some (.df true true))) (n + 16) (some (.lp L fr S .ready none true))) (n + 32) (rngK (n + 16) n L fr S Q)
theorem rng_sound {T n S : Nat} {U : Nat → Prop} (R : SRel N w0 M0 β0 ds β fr σ (Fn T U n) a w) (hT : T ≤ n) (hS : a.tmps.size = S) {g : Operand} {ps : Array Tmp} {assign body : Code} {Q : Ks} {Q' : Exit → Act → World → Prop}
    (hQ : ∀ e β' σ' n' w' D, n ≤ n' → SRel N w0 M0 β0 (⟨.collected D, #[]⟩ :: ds) β' fr σ' (Fn T U n') { a with defers := ⟨.collected D, #[]⟩ :: a.defers } w' → β' n = some D → σ' n = some (.df true true) → Q e fr σ' n' → Q' e.conv { a with defers := ⟨.collected D, #[]⟩ :: a.defers } w')
    (h : ∀ fnid, RNG P ((cOpd g).get fr) ⟨fnid, ps, assign, body, n⟩ fr S σ n Q) : (Code.rangeFunc g ps assign body).wpIn (FW none) 0 P Q' a w := by
  refine wpIn_rangeFunc ?_
  intro fnid _
  have h := h fnid
  unfold RNG callH at h
  split at h
  · rename_i gf caps hf
    obtain ⟨RR, hcon, hk⟩ := h
    have hfr := rel_get R g
    rw [hf] at hfr
    generalize hgv : a.eval g = fv at hfr
    cases hfr with
    | fn _ lb _ hlb hrel =>
      obtain ⟨R1, up1⟩ := R.newObj n (.inl (Nat.le_refl n)) (.deferred (some [])) (.df true true) (fun y h => by cases h) (fun es wr h => by cases h) (fun _ _ _ _ _ _ h => by cases h) (fun p wr h => by cases h; rfl)
      obtain ⟨R2, up2⟩ := R1.newObj (n + 16) ⟨.inl (by omega), by omega⟩ (.loop { state := .ready, pending := none, fn := fnid, tmps := a.tmps, params := ps, assign := assign, body := body, defers := w.heap.size }) (.lp ⟨fnid, ps, assign, body, n⟩ fr S .ready none true)
        (fun y h => by cases h) (fun es wr h => by cases h) (fun L' fr' S' st' pe' wr' h => by cases h; exact ⟨a.tmps, w.heap.size, rfl, by simp, hS, fun t => R1.regs t⟩) (fun p wr h => by cases h)
      have hsz1 : (w.alloc (.deferred (some []))).heap.size = w.heap.size + 1 := by simp
      rw [hsz1] at R2 up2
      have R2' := R2.free (F' := Fn T U (n + 32)) (fun i hi => by
        rcases hi with h | ⟨h1, h2⟩
        · exact ⟨⟨.inl (by omega), by omega⟩, by omega⟩
        · exact ⟨⟨.inr ⟨h1, h2⟩, by omega⟩, by omega⟩)
      obtain ⟨W1, hW1⟩ : ∃ W1, W1 = (w.alloc (.deferred (some []))).alloc (.loop { state := .ready, pending := none, fn := fnid, tmps := a.tmps, params := ps, assign := assign, body := body, defers := w.heap.size }) := ⟨_, rfl⟩
      rw [← hW1] at R2' up2
      have hβy : (upd (upd β n (some w.heap.size)) (n + 16) (some (w.heap.size + 1))) (n + 16) = some (w.heap.size + 1) := upd_same _ _ _
      have hβd : (upd (upd β n (some w.heap.size)) (n + 16) (some (w.heap.size + 1))) n = some w.heap.size := by rw [upd_ne _ _ (by omega), upd_same]
      refine ⟨w.heap.size + 1, [{ target := .collected w.heap.size, args := #[] }], W1, { target := .fn (.func gf) lb, args := #[.func (.yield (w.heap.size + 1)) #[] #[]] }, W1, gf,
        #[.func (.yield (w.heap.size + 1)) #[] #[]] ++ lb, W1, ?_, ?_, fun _ _ => trivial, ?_, fun h => (by cases h), ?_⟩
      · rw [hW1]; exact run_enterLoop_outer _ _ _ _ _
      · simp only [resolve, hgv]
        simp [go_sem]
      · simp [invoke, go_sem, run_callFunc hcon.1]
      · refine calls_FW none ((hcon.2 N T U _ W1 _ (by omega) (aw_now R2') R2'.heap ⟨by simp [hlb, Nat.add_comm], fun i u z hu hz => ?_⟩).mono ?_)
        · cases i with
          | zero =>
            rw [Array.getElem?_append_left (by simp)] at hu
            have hu' : some (Value.func (.yield (w.heap.size + 1)) #[] #[]) = some u := hu
            have hz' : some (AV.yl (n + 16)) = some z := hz
            cases hu'
            cases hz'
            exact .yl _ _ hβy
          | succ i =>
            have hu' : lb[i]? = some u := by
              rw [Array.getElem?_append_right (by simp)] at hu
              simpa using hu
            exact up2 (up1 (hrel i u z hu' (by simpa using hz)))
        · rintro e w3 ⟨β3, r, σ3, n3, hr, hn3, hl⟩
          have R3 := R2'.after hl
          have hkk := hk r σ3 n3 hr hn3
          obtain ⟨hext, _, he, _, _⟩ := hl
          cases r with
          | pan x => exact hkk.elim
          | ret v =>
            cases e with
            | panicked ch => exact he.elim
            | outgrown => exact he.elim
            | returned u =>
              obtain ⟨hd3, st, pe, hy3, hst, hq⟩ := hkk
              obtain ⟨b3, tm3, D3, k3, k4⟩ := R3.heap.lp _ _ _ _ _ _ _ hy3
              rw [hext _ _ hβy] at k3; cases k3
              refine ⟨pe, _, run_endLoop k4.1 hst, ?_⟩
              have R4 := R3.setLp hy3 (hext _ _ hβy) k4 .exhausted pe
              have R5 := (R4.less (σ' := upd σ3 (n + 16) none) (fun i x hx => by
                by_cases e : i = n + 16
                · subst e; rw [upd_same] at hx; cases hx
                · rw [upd_ne _ _ e] at hx ⊢; exact ⟨x, hx, .refl x⟩)).1
              have R6 : SRel N w0 M0 β0 (⟨.collected w.heap.size, #[]⟩ :: ds) β3 fr (upd σ3 (n + 16) none) (Fn T U n3) { a with defers := ⟨.collected w.heap.size, #[]⟩ :: a.defers } _ := ⟨R5.heap, R5.regs, R5.frame, R5.old, R5.away, by simp [R5.defers], R5.ext⟩
              have hdd : (upd σ3 (n + 16) none) n = some (.df true true) := by rw [upd_ne _ _ (by omega)]; exact hd3
              have done : ∀ e, Q e fr (upd σ3 (n + 16) none) n3 → Q' e.conv { a with defers := ⟨.collected w.heap.size, #[]⟩ :: a.defers } _ := fun e hq => hQ e β3 _ n3 _ w.heap.size (by omega) R6 (hext _ _ hβd) hdd hq
              cases pe with
              | none => exact done .normal hq
              | some c =>
                cases c <;> simp only at hq
                case ret => exact wpIn_ret (done .ret hq)
                case exit id => exact wpIn_exit (done (.exit id) hq)
                case goto l => exact wpIn_goto (done (.goto l) hq)
  · exact h.elim
end
end Go.Proofs.YtodoejfkjimeaaaGreatDoor.Am

set_option linter.unusedSimpArgs false
set_option linter.unusedVariables false
namespace Go.Proofs.YtodoejfkjimeaaaGreatDoor.Am
open Go Go.RowKit

inductive Spn where
  | fin (sc : SCode)
  | st (sc : SCode) (r : Spn)
  | rng (id : Nat) (g : Opd) (lv : List Nat) (ps : Array Tmp) (as bo : Code) (r : Spn)
def expoR : Spn → List Nat
  | .fin sc => expo sc
  | .st sc r => expo sc ++ expoR r
  | .rng _ _ lv _ _ _ _ => lv
def opdS : Opd → List Nat
  | .t i => [i]
  | .c _ => []
def pre (P : Program) (S : Nat) (X rl : List Nat) : Code → Spn → Option Spn
  | .seq a b, r => (pre P S X rl b r).bind fun rb => pre P S X rl a rb
  | .block id (.rangeFunc g ps as bo), r => match cmpC P S X as, cmpC P S X bo with
    | some sa, some sb => if (noScope as && noScope bo) = true then some (.rng id (cOpd g) (dedup (opdS (cOpd g) ++ (expo sa ++ (expo sb ++ (expoR r ++ rl))))) ps as bo r) else none
    | _, _ => none
  | c, r => (cmpC P S X c).map fun sc => .st sc r
def cmpRf1 (P : Program) (S : Nat) (X rl : List Nat) (c : Code) : Option Spn := match cmpC P S X c with
  | some sc => some (.fin sc)
  | none => pre P S X rl c (.fin .skip)
def cmpRf (P : Program) (S : Nat) (X rl : List Nat) : Code → Option Spn
  | .seq a b => match cmpC P S X (.seq a b) with
    | some sc => some (.fin sc)
    | none => (cmpRf P S X rl b).bind fun r => match cmpC P S X a with
      | some sa => some (.st sa r)
      | none => pre P S X rl a r
  | c => cmpRf1 P S X rl c
def keepR (lv : List Nat) (s : List AV) : Regs := fun t => match idx t lv 0 with
  | some j => s.getD j .any
  | none => .any
def mrk (d : Nat) (Q : Ks) : Ks := fun e fr σ n => σ d = some (.df true true) ∧ Q e fr (upd σ d none) n
def rngS (id : Nat) (K0 Kr : Hp → Nat → Prop) : Ks
  | .normal => fun _ σ n => K0 σ n
  | .exit i => fun _ σ n => i = id ∧ K0 σ n
  | .ret => fun _ σ n => Kr σ n
  | .goto _ => fun _ _ _ => False
  | .pan _ => fun _ _ _ => False
def swpR (P : Program) (S : Nat) : Spn → Ks → Kn
  | .fin sc, Q => swp P sc Q
  | .st sc r, Q => swp P sc (dfK (swpR P S r Q) Q)
  | .rng id g lv ps as bo r, Q => fun fr σ n => ∀ fnid, RNG P (g.get (keepR lv (lv.map fr))) ⟨fnid, ps, as, bo, n⟩ (keepR lv (lv.map fr)) S σ n (rngS id (fun σ' n' => swpR P S r (mrk n Q) (keepR lv (lv.map fr)) σ' n') (fun σ' n' => mrk n Q .ret (keepR lv (lv.map fr)) σ' n'))
section
variable {P : Program} {N : Nat → Prop} {w0 : World} {M0 : Nat → Prop} {β0 : Nat → Option Nat} {ds : List Deferred} {β : Nat → Option Nat} {fr : Regs} {σ : Hp} {F : Nat → Prop} {a : Act} {w : World}
theorem keepR_rel (R : SRel N w0 M0 β0 ds β fr σ F a w) (lv : List Nat) : SRel N w0 M0 β0 ds β (keepR lv (lv.map fr)) σ F a w := by
  refine ⟨R.heap, fun t => ?_, R.frame, R.old, R.away, R.defers, R.ext⟩
  unfold keepR
  split
  · rename_i j hj
    have h2 := (idx_some lv 0 j hj).2
    simp only [Nat.sub_zero] at h2
    simp only [List.getD_eq_getElem?_getD, List.getElem?_map, h2, Option.map_some, Option.getD_some]
    exact R.regs t
  · exact .any _
variable {S T : Nat} {U : Nat → Prop} {Q' : Exit → Act → World → Prop}
def EndOK (N : Nat → Prop) (w0 : World) (M0 : Nat → Prop) (S T : Nat) (U : Nat → Prop) (Q' : Exit → Act → World → Prop) (β0 : Nat → Option Nat) (ds : List Deferred) (Q : Ks) : Prop :=
  ∀ e β fr σ n a w, T ≤ n → SRel N w0 M0 β0 ds β fr σ (Fn T U n) a w → Q e fr σ n → Q' e.conv a w
def OK (P : Program) (N : Nat → Prop) (w0 : World) (M0 : Nat → Prop) (S T : Nat) (U : Nat → Prop) (Q' : Exit → Act → World → Prop) (r : Spn) (Kc : Act → World → Prop) : Prop :=
  ∀ ds β0 Q, EndOK N w0 M0 S T U Q' β0 ds Q → ∀ β fr σ n a w, T ≤ n → a.tmps.size = S → SRel N w0 M0 β0 ds β fr σ (Fn T U n) a w → swpR P S r Q fr σ n → Kc a w
def Takes (P : Program) (Q' : Exit → Act → World → Prop) : Prop :=
  ∀ (e : SExit) (tmps : Array Value) D ds w w', (Instr.takeDeferred D).run P w = .ok [] w' → Q' e.conv { tmps := tmps, defers := ds } w' → Q' e.conv { tmps := tmps, defers := ⟨.collected D, #[]⟩ :: ds } w
theorem endOK_mrk (hM : Takes P Q') {d D : Nat} {Q : Ks} (hE : EndOK N w0 M0 S T U Q' β0 ds Q) {β1 : Nat → Option Nat} (hx : ∀ i b, β0 i = some b → β1 i = some b) (hd : β1 d = some D) (hT : T ≤ d) :
    EndOK N w0 M0 S T U Q' β1 (⟨.collected D, #[]⟩ :: ds) (mrk d Q) := by
  intro e β2 fr2 σ2 n2 a2 w2 hn R2 ⟨h1, h2⟩
  have hb := R2.ext _ _ hd
  obtain ⟨b, e1, e2⟩ := R2.heap.df d _ _ h1
  rw [hb] at e1; cases e1
  have R3 := R2.setDf h1 hb e2
  have R4 := (R3.less (σ' := upd σ2 d none) (fun i x hx => by
    by_cases e : i = d
    · subst e; rw [upd_same] at hx; cases hx
    · rw [upd_ne _ _ e] at hx ⊢; exact ⟨x, hx, .refl x⟩)).1
  obtain ⟨tm, df⟩ := a2
  have hdf : df = ⟨.collected D, #[]⟩ :: ds := R2.defers
  subst hdf
  refine hM e tm D ds w2 _ (run_takeDeferred e2) (hE e β2 fr2 _ n2 _ _ hn ⟨R4.heap, R4.regs, R4.frame, R4.old, R4.away, rfl, fun i b h => R4.ext _ _ (hx _ _ h)⟩ h2)
theorem then_then (K K' : Act → World → Prop) (Q : Exit → Act → World → Prop) : Exit.then K (Exit.then K' Q) = Exit.then K Q := by
  funext e
  cases e <;> rfl
theorem st_sound {X : List Nat} : ∀ (c : Code) (r r' : Spn), (cmpC P S X c).map (fun sc => Spn.st sc r) = some r' → ∀ (Kc : Act → World → Prop), OK P N w0 M0 S T U Q' r Kc →
      OK P N w0 M0 S T U Q' r' fun a w => c.wpIn (FW none) 0 P (Exit.then Kc Q') a w := by
  intro c r r' hc Kc hK ds β0 Q hE β fr σ n a w hT hS R h
  obtain ⟨sc, h1, rfl⟩ := Option.map_eq_some_iff.1 hc
  refine swp_sound (rr := none) c sc h1 (.inl rfl) T U _ _ ?_ β fr σ n a w hT hS R h
  intro e β fr σ n a w hT hS R h
  cases e with
  | normal => exact hK ds β0 Q hE β fr σ n a w hT hS R h
  | exit id => exact hE (.exit id) β fr σ n a w hT R h
  | goto l => exact hE (.goto l) β fr σ n a w hT R h
  | ret => exact hE .ret β fr σ n a w hT R h
  | pan v => exact hE (.pan v) β fr σ n a w hT R h
theorem pre_sound {X rl : List Nat} (hM : Takes P Q') : ∀ (c : Code) (r r' : Spn), pre P S X rl c r = some r' → ∀ (Kc : Act → World → Prop), OK P N w0 M0 S T U Q' r Kc →
    OK P N w0 M0 S T U Q' r' fun a w => c.wpIn (FW none) 0 P (Exit.then Kc Q') a w := by
  have base := st_sound (P := P) (N := N) (w0 := w0) (M0 := M0) (S := S) (T := T) (U := U) (Q' := Q') (X := X)
  intro c
  induction c with
  | seq x y ihx ihy =>
    intro r r' hc Kc hK
    simp only [pre] at hc
    obtain ⟨rb, h1, h2⟩ := Option.bind_eq_some_iff.1 hc
    intro ds β0 Q hE β fr σ n a w hT hS R h
    refine wpIn_seq ?_
    rw [then_then]
    exact (ihx rb r' h2 _ (ihy r rb h1 Kc hK) ds β0 Q hE β fr σ n a w hT hS R h)
  | block id c _ =>
    cases c with
    | rangeFunc g ps as bo =>
      intro r r' hc Kc hK ds β0 Q hE β fr σ n a w hT hS R h
      simp only [pre] at hc
      split at hc
      · rename_i sa sb ha hb
        split at hc
        · cases hc
          refine wpIn_block (rng_sound (keepR_rel R _) hT hS ?_ (by simpa only [swpR] using h))
          intro e β' σ' n' w' D hn R1 hD hd hq
          have hE' := endOK_mrk hM hE R1.ext hD hT
          have R2 : SRel N w0 M0 β' (⟨.collected D, #[]⟩ :: ds) β' _ σ' (Fn T U n') { a with defers := ⟨.collected D, #[]⟩ :: a.defers } w' := ⟨R1.heap, R1.regs, R1.frame, R1.old, R1.away, R1.defers, fun _ _ h => h⟩
          have nx := fun h => hK _ β' _ hE' β' _ σ' n' { a with defers := ⟨.collected D, #[]⟩ :: a.defers } w' (by omega) hS R2 h
          cases e with
          | normal => exact nx hq
          | exit id' =>
            obtain ⟨rfl, hq⟩ := hq
            simp only [SExit.conv, Exit.inBlock, if_true]
            exact nx hq
          | goto l => exact hq.elim
          | ret => exact hE' .ret β' _ σ' n' _ w' (by omega) R2 hq
          | pan v => exact hq.elim
        · cases hc
      · cases hc
    | _ => exact base _
  | _ => exact base _
theorem cmpRf_sound {X rl : List Nat} (hM : Takes P Q') : ∀ (c : Code) (r : Spn), cmpRf P S X rl c = some r → OK P N w0 M0 S T U Q' r fun a w => c.wpIn (FW none) 0 P Q' a w := by
  have hfin : ∀ (c : Code) (sc : SCode), cmpC P S X c = some sc → OK P N w0 M0 S T U Q' (.fin sc) fun a w => c.wpIn (FW none) 0 P Q' a w := by
    intro c sc hc ds β0 Q hE β fr σ n a w hT hS R h
    exact swp_sound (rr := none) c sc hc (.inl rfl) T U _ _ (fun e β fr σ n a w hT hS R h => hE e β fr σ n a w hT R h) β fr σ n a w hT hS R h
  have hskip : OK P N w0 M0 S T U Q' (.fin .skip) (Q' .normal) := by
    intro ds β0 Q hE β fr σ n a w hT hS R h
    exact hE .normal β fr σ n a w hT R h
  have other : ∀ (c : Code) (r : Spn), cmpRf1 P S X rl c = some r → OK P N w0 M0 S T U Q' r fun a w => c.wpIn (FW none) 0 P Q' a w := by
    intro c r hc
    unfold cmpRf1 at hc
    split at hc
    · rename_i sc h1; cases hc; exact hfin c sc h1
    · have := pre_sound hM c _ _ hc _ hskip
      have e : Exit.then (Q' .normal) Q' = Q' := by funext e; cases e <;> rfl
      rwa [e] at this
  intro c
  induction c with
  | seq x y _ ihy =>
    intro r hc
    simp only [cmpRf] at hc
    split at hc
    · rename_i sc h1; cases hc; exact hfin _ sc h1
    · obtain ⟨rb, h1, h2⟩ := Option.bind_eq_some_iff.1 hc
      have hb := ihy rb h1
      split at h2
      · rename_i sa h3
        have := st_sound (X := X) x rb r (by rw [h3]; exact h2) _ hb
        exact fun ds β0 Q hE β fr σ n a w hT hS R h => wpIn_seq (this ds β0 Q hE β fr σ n a w hT hS R h)
      · have := pre_sound hM x rb r h2 _ hb
        exact fun ds β0 Q hE β fr σ n a w hT hS R h => wpIn_seq (this ds β0 Q hE β fr σ n a w hT hS R h)
  | _ => exact other _
end
theorem takes_M {P : Program} {fn : Func} {R : Ending → World → Prop} : Takes P (bodyPostM (FW none) 0 P fn R) := by
  intro e tmps D ds w w' h1 h2
  cases e with
  | normal => exact ⟨by simp, .inl ⟨D, w', rfl, h1, h2⟩⟩
  | ret => exact ⟨by simp, .inl ⟨D, w', rfl, h1, h2⟩⟩
  | pan v => exact ⟨by simp, .inl ⟨D, w', rfl, h1, h2⟩⟩
  | exit id => exact h2
  | goto l => exact h2
theorem conH_ofR {P : Program} {σ : Hp} {f : FuncId} {fn : Func} {sp : Spn} {args : List AV} {n : Nat} {R : AEnd → Hp → Nat → Prop} (rs : List RV) (hf : P.funcs[f]? = some fn) (X : List Nat) (hc : fn.body.bind (cmpRf P fn.ntmps X (resSlots rs)) = some sp) (hgo : goFn P f = true) (hS : decide (args.length ≤ fn.ntmps) = true)
    (hres : resT P fn.results.toList = some rs) (h : swpR P fn.ntmps sp (retQ rs R) (entry args) σ n) : ConH P f args σ n R := by
  obtain ⟨c, hb, hc⟩ := Option.bind_eq_some_iff.1 hc
  have hS := of_decide_eq_true hS
  refine ⟨hgo, fun N T U β w vs hT hN H hargs => ?_⟩
  have hsz : vs.size = args.length := hargs.1
  refine callsIn_wide.1 (callsIn_of_wp_marks (F := FW none) (n := 0) hf hb trivial ?_ rfl)
  have R0 : SRel N w (own β σ) β [] β (entry args) σ (Fn n (fun i => U i ∧ i < T) n) { tmps := vs ++ Array.replicate (fn.ntmps - vs.size) undef, defers := [] } w := by
    refine ⟨⟨fun i hi => H.dom i ((fn_up hT i).1 hi), H.off, H.inj, H.blk, H.map, H.lp, H.df⟩, fun t => ?_, Fr.refl _ _, fun b h _ => h, hN, rfl, fun _ _ h => h⟩
    unfold entry
    by_cases ht : t < args.length
    · have e1 : (vs ++ Array.replicate (fn.ntmps - vs.size) undef).getD t undef = vs[t] := by
        rw [Array.getD_eq_getD_getElem?, Array.getElem?_append_left (by omega)]; simp [hsz, ht]
      have e2 : args.getD t (.tp []) = args[t] := by simp [List.getD, ht]
      simp only [e1, e2]
      exact hargs.2 t vs[t] args[t] (by simp [hsz, ht]) (by simp [ht])
    · have e1 : (vs ++ Array.replicate (fn.ntmps - vs.size) undef).getD t undef = undef := by
        rw [Array.getD_eq_getD_getElem?, Array.getElem?_append_right (by omega), Array.getElem?_replicate]
        split <;> rfl
      have e2 : args.getD t (.tp []) = .tp [] := by simp [List.getD, List.getElem?_eq_none (Nat.le_of_not_lt ht)]
      simp only [e1, e2]
      exact .tp #[] [] rfl (fun i u z h _ => by simp at h)
  have hsize : (vs ++ Array.replicate (fn.ntmps - vs.size) undef).size = fn.ntmps := by simp; omega
  refine cmpRf_sound takes_M c sp hc [] β (retQ rs R) ?_ β _ σ n _ w (Nat.le_refl n) hsize R0 h
  intro e β' fr σ' n' a w' hn Rf h
  have fin : retC σ' fr rs (fun vs => R (.ret (tupA vs)) σ' n') → LeavesInM (FW none) 0 P fn a.tmps (fun e w'' => ∃ β' r σ' n', R r σ' n' ∧ n ≤ n' ∧ Leaves N β σ w e w'' β' σ' (Fn T U n') r) a.defers .returning w' := by
    intro h
    obtain ⟨vs, hv, h⟩ := retC_of h
    obtain ⟨v, e1, e2⟩ := results_run Rf hres hv
    rw [Rf.defers]
    exact ⟨v, e1, β', _, σ', n', h, hn, Rf.ext, (Rf.free (fun i hi => (fn_up hT i).2 hi)).heap, e2, Rf.frame, Rf.old⟩
  cases e with
  | normal => exact fin h
  | ret => exact fin h
  | exit id => exact h.elim
  | goto l => exact h.elim
  | pan v =>
    simp only [SExit.conv, bodyPostM, Rf.defers]
    exact ⟨β', _, σ', n', h, hn, Rf.ext, (Rf.free (fun i hi => (fn_up hT i).2 hi)).heap, rfl, Rf.frame, Rf.old⟩
theorem ycon_at {P : Program} {σ : Hp} {y : Nat} {x : AV} {L : Lp} {lv : List Nat} {s : List AV} {S p n : Nat} {R : AEnd → Hp → Nat → Prop} {sa sb : SCode} {X : List Nat} (hy : σ y = some (.lp L (keepR lv s) S .ready none true)) (hp : L.params = #[p])
    (hck : (decide (p < S) && noScope L.assign && noScope L.body) = true) (hca : cmpC P S X L.assign = some sa) (hcb : cmpC P S X L.body = some sb)
    (h : swp P sa (rndA P y L (keepR lv s) S sb R) (keepR (p :: lv) (x :: s)) σ n) : YCon P y [x] σ n R := by
  simp only [Bool.and_eq_true, decide_eq_true_eq] at hck
  refine ycon_of hy hp hck.1.1 hca hcb hck.1.2 hck.2 ?_
  have e : (fun t => if t = p then x else keepR lv s t) = keepR (p :: lv) (x :: s) := by
    funext t
    by_cases e : t = p
    · subst e
      simp [keepR, idx]
    · have hh : ∀ (l : List Nat) (i : Nat), idx t l (i + 1) = (idx t l i).map (· + 1) := by
        intro l
        induction l with
        | nil => intro i; rfl
        | cons z l ih =>
          intro i
          simp only [idx]
          split
          · rfl
          · exact ih (i + 1)
      simp only [if_neg e, keepR, idx, if_neg (Ne.symm e), hh lv 0]
      cases idx t lv 0 <;> simp
  rw [e]; exact h
end Go.Proofs.YtodoejfkjimeaaaGreatDoor.Am
