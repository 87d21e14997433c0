/- The abstract machine: contracts; regions in the text's order. -/
import Derived.Test.YtlhnncmflnjinaaMf
set_option linter.unusedSimpArgs false
set_option linter.unusedVariables false
namespace Go.Proofs.Ytlhnncmflnjinaa.Am
open Go Go.RowKit

/-- an operation, where its value goes, and whether it is asked for -/
structure SOper where
  dst : Option Nat
  guard : Option (Nat × Bool)
  op : SOp
def cmpO (P : Program) (ops : Array Oper) (o : Oper) : Option SOper :=
  match o.guard with
  | none => (cmp P o.op).map fun s => ⟨o.dst, none, s⟩
  | some (j, want) => match (ops[j]?).bind (·.dst), cmp P o.op with
    | some d, some s => some ⟨o.dst, some (d, want), s⟩
    | _, _ => none

/-- how a call ends -/
inductive AEnd where
  | ret (v : AV)
  | pan (v : Value)
def RelE (M : Nat → Prop) (w : World) (β : Nat → Option Nat) : Ending → AEnd → Prop
  | .returned v, .ret x => Rel M w β v x
  | .panicked ch, .pan x => ch = [{ v := x, recovered := false }]
  | _, _ => False
/-- a function that the machine enters -/
def goFn (P : Program) (f : FuncId) : Bool := match P.funcs[f]? with
  | some fn => fn.body.isSome && fn.name != "runtime.NumGoroutine"
  | none => false
/-- a function that is handed values that nobody writes: it ends so, and leaves alone all that was there -/
def Con (P : Program) (f : FuncId) (args : List AV) (r : AEnd) : Prop :=
  goFn P f = true ∧ ∀ (M : Nat → Prop) (w : World) (vs : Array Value), Aw M M w → Cells M w nob vs args → Calls P f vs w fun e w' => RelE M w' nob e r ∧ Fr w (fun _ => False) w'
/-- what a call leaves: how it ends, in an abstract memory that has all that there was -/
def Leaves (N : Nat → Prop) (β : Nat → Option Nat) (σ : Hp) (w : World) (e : Ending) (w' : World) (β' : Nat → Option Nat) (σ' : Hp) (F' : Nat → Prop) (r : AEnd) : Prop :=
  (∀ i b, β i = some b → β' i = some b) ∧ HRel N β' σ' F' w' ∧ RelE (live N β' σ') w' β' e r ∧ Fr w (own β σ) w' ∧ (∀ b, own β' σ' b → b < w.heap.size → own β σ b)
/-- names not used: from n on; and some below T, that are kept -/
def Fn (T : Nat) (U : Nat → Prop) (n : Nat) : Nat → Prop := fun i => n ≤ i ∨ (U i ∧ i < T)
/-- a function that may write some of the caller's blocks: how it ends, and in which memory -/
def ConH (P : Program) (f : FuncId) (args : List AV) (σ : Hp) (n : Nat) (R : AEnd → Hp → Nat → Prop) : Prop :=
  goFn P f = true ∧ ∀ (N : Nat → Prop) (T : Nat) (U : Nat → Prop) (β : Nat → Option Nat) (w : World) (vs : Array Value), T ≤ n → Aw N (own β σ) w → HRel N β σ (Fn T U n) w → Cells (live N β σ) w β vs args →
    Calls P f vs w fun e w' => ∃ β' r σ' n', R r σ' n' ∧ n ≤ n' ∧ Leaves N β σ w e w' β' σ' (Fn T U n') r
/-- the same, all told: of blocks pre it makes what wr says; new names from id on -/
def ConW (P : Program) (f : FuncId) (args : List AV) (pre : List (Nat × Ob)) (id : Nat) (r : AEnd) (wr : Wr) : Prop :=
  goFn P f = true ∧ ∀ (N : Nat → Prop) (β : Nat → Option Nat) (σ : Hp) (F : Nat → Prop) (w : World) (vs : Array Value), (∀ p ∈ pre, σ p.1 = some p.2) → (∀ j, id ≤ j → j < id + 16 → F j) → ∀ T, id + 16 ≤ T → (∀ j, T ≤ j → F j) →
    Aw N (own β σ) w → HRel N β σ F w → Cells (live N β σ) w β vs args →
    Calls P f vs w fun e w' => ∃ β' T', T ≤ T' ∧ Leaves N β σ w e w' β' (applyW σ wr) (fun j => F j ∧ ¬ (id ≤ j ∧ j < id + 16) ∧ (j < T ∨ T' ≤ j)) r
theorem run_callFunc {P : Program} {f : FuncId} (h : goFn P f = true) (args : Array Value) (w : World) : (callFunc f args).run P w = .ok (.enter f args) w := by
  unfold goFn at h
  cases hf : P.funcs[f]? with
  | none => simp [hf] at h
  | some fn =>
    simp only [hf, Bool.and_eq_true, bne_iff_ne, ne_eq] at h
    obtain ⟨h1, h2⟩ := h
    have h3 : ¬ fn.body = none := by intro hb; rw [hb] at h1; cases h1
    simp [callFunc, hf, h2, h3]
/-- does a value say nothing of memory? -/
def scal : AV → Bool
  | .sc _ => true
  | .s _ => true
  | .tp l => l.all fun | .sc _ => true | .s _ => true | _ => false
  | .ag l => l.all fun | .sc _ => true | .s _ => true | _ => false
  | _ => false
theorem scal_rel {M M' : Nat → Prop} {w w' : World} {β β' : Nat → Option Nat} {v : Value} {x : AV} (h : Rel M w β v x) (hs : scal x = true) : Rel M' w' β' v x := by
  have one : ∀ {u : Value} {z : AV}, Rel M w β u z → (match z with | .sc _ => true | .s _ => true | _ => false) = true → Rel M' w' β' u z := by
    intro u z hr hz
    cases z <;> simp only [Bool.false_eq_true] at hz
    · cases hr; exact .sc _
    · cases hr; exact .s _ _ (by assumption) (by assumption)
  cases h <;> simp only [scal, Bool.false_eq_true] at hs
  · exact .sc _
  · exact .s _ _ (by assumption) (by assumption)
  · rename_i vs l hn h
    exact .ag vs l hn (fun i u z hu hz => one (h i u z hu hz) (List.all_eq_true.1 hs z (List.mem_of_getElem? hz)))
  · rename_i vs l hn h
    exact .tp vs l hn (fun i u z hu hz => one (h i u z hu hz) (List.all_eq_true.1 hs z (List.mem_of_getElem? hz)))

abbrev Kn := Regs → Hp → Nat → Prop
def bindP (o : Option AV) (K : AV → Prop) : Prop := match o with
  | some v => K v
  | none => False
def bindH (o : Option (AV × Wr)) (K : AV → Wr → Prop) : Prop := match o with
  | some (v, wr) => K v wr
  | none => False
def bindS (o : Option (AV × Wr)) (σ : Hp) (n : Nat) (K : AV → Hp → Nat → Prop) : Prop := bindH o (fun v wr => K v (applyW σ wr) (n + 16))
def onEnd (r : AEnd) (K : AV → Prop) (Kp : Value → Prop) : Prop := match r with
  | .ret v => K v
  | .pan x => Kp x
/-- what is known of a length that was asked for -/
def bnd (σ : Hp) : AV → Prop
  | .s l => l.length ≤ 9223372036854775807
  | .tr rows => rows.length ≤ 4611686018427387904
  | .ow i _ _ _ => ∀ b, σ i = some (.c b) → b.rows.length ≤ 4611686018427387904
  | _ => True
/-- a closed call, and what it leaves of the memory -/
def callC (P : Program) (f : AV) (args : List AV) (σ : Hp) (K : AEnd → Wr → List Nat → Prop) : Prop := match f with
  | .fn g caps => ∃ cs I r, brwL σ 3 (args ++ caps) = some (cs, I) ∧ Con P g cs r ∧ K r (match r with | .ret v => if scal v = true then [] else frz σ I | .pan _ => []) I
  | _ => False
def callW (P : Program) (f : AV) (args : List AV) (σ : Hp) (id : Nat) (K : AEnd → Wr → List Nat → Prop) : Prop := match f with
  | .fn g caps => ∃ pre r wr, (∀ p ∈ pre, σ p.1 = some p.2) ∧ ConW P g (args ++ caps) pre id r wr ∧ K r wr (pre.map (·.1))
  | _ => False
def callH (P : Program) (f : AV) (args : List AV) (σ : Hp) (n : Nat) (K : AEnd → Hp → Nat → Prop) : Prop := match f with
  | .fn g caps => ∃ R, ConH P g (args ++ caps) σ n R ∧ ∀ r σ' n', R r σ' n' → n ≤ n' → K r σ' n'
  | _ => False
inductive CALL (P : Program) (f : AV) (args : List AV) (σ : Hp) (n : Nat) (K : AEnd → Hp → Nat → Prop) : Prop
  | c (h : callC P f args σ (fun r wr _ => K r (applyW σ wr) n))
  | w (h : callW P f args σ n (fun r wr _ => ∀ n', n + 16 ≤ n' → K r (applyW σ wr) n'))
  | h (h : callH P f args σ n K)
def PAN (x : AV) (K : Value → Prop) : Prop := match x with
  | .sc (.iface t v) => K (.iface t v)
  | _ => False
/-- an operation that is asked for; Kp: what follows a panic -/
def step (P : Program) (op : SOp) (fr : Regs) (σ : Hp) (n : Nat) (Kp : Value → Kn) (K : AV → Hp → Nat → Prop) : Prop :=
  match op with
  | .call f args => CALL P (f.get fr) (args.map (Opd.get fr)) σ n (fun r σ' n' => onEnd r (fun v => K v σ' n') (fun x => Kp x fr σ' n'))
  | .pan x => PAN (x.get fr) (fun v => Kp v fr σ n)
  | .len s x => bindP (aLen s (x.get fr)) (fun v => bnd σ (x.get fr) → K v σ n)
  | op => if quiet op = true then bindP (semR σ (Opd.get fr) op) (fun v => K v σ n) else bindS (semH σ n (Opd.get fr) op) σ n K
/-- an operation that is asked for under a condition -/
def guardP' (g : AV) (want : Bool) (o : Option AV) (K : AV → Prop) : Prop := match g with
  | .sc (.bool b) => ∃ v, (b = want → o = some v) ∧ K (cond (b == want) v (.tp []))
  | .tp [] => K (.tp [])
  | _ => False
structure guardP (g : AV) (want : Bool) (o : Option AV) (K : AV → Prop) : Prop where
  h : guardP' g want o K
def guardK' (g : AV) (want : Bool) (e : (AV → Hp → Nat → Prop) → Prop) (σ : Hp) (n : Nat) (K : AV → Hp → Nat → Prop) : Prop := match g with
  | .sc (.bool b) => if b = want then e K else K (.tp []) σ n
  | .tp [] => K (.tp []) σ n
  | _ => False
structure guardK (g : AV) (want : Bool) (e : (AV → Hp → Nat → Prop) → Prop) (σ : Hp) (n : Nat) (K : AV → Hp → Nat → Prop) : Prop where
  h : guardK' g want e σ n K
/-- operations in the text's order -/
def sops (P : Program) (K : Kn) (Kp : Value → Kn) : List SOper → Kn
  | [], fr, σ, n => K fr σ n
  | o :: rest, fr, σ, n => match o.guard with
    | none => step P o.op fr σ n Kp (fun v σ n => sops P K Kp rest (put fr o.dst v) σ n)
    | some (d, want) => if quiet o.op = true then guardP (fr d) want (semR σ (Opd.get fr) o.op) (fun v => sops P K Kp rest (put fr o.dst v) σ n)
      else guardK (fr d) want (step P o.op fr σ n Kp) σ n (fun v σ n => sops P K Kp rest (put fr o.dst v) σ n)
def dstOk (S : Nat) : Option Nat → Bool
  | some d => decide (d < S)
  | none => true
def okTag : Op → SOp → Bool
  | .call c, .call _ _ => (match c.callee with | .value _ => true | _ => false)
  | _, .call _ _ => false
  | .panic _, .pan _ => true
  | _, .pan _ => false
  | _, _ => true
def cmpL (P : Program) (S : Nat) (ops : Array Oper) : List Oper → Option (List SOper)
  | [] => some []
  | o :: l => match cmpO P ops o, cmpL P S ops l with
    | some so, some sl => if dstOk S o.dst = true ∧ okTag o.op so.op = true then some (so :: sl) else none
    | _, _ => none
section
variable {P : Program} {N : Nat → Prop} {w0 : World} {M0 : Nat → Prop} {β0 : Nat → Option Nat} {ds : List Deferred} {β : Nat → Option Nat} {fr : Regs} {σ : Hp} {F : Nat → Prop} {a : Act} {w : World}

theorem yielded_at {ops : Array Oper} {j d : Nat} (hd : (ops[j]?).bind (·.dst) = some d) (tmps : Array Value) : yielded ops tmps j = match tmps[d]? with
    | some (.bool b) => some b
    | _ => none := by unfold yielded; rw [hd]; rfl
theorem wanted_of (R : SRel N w0 M0 β0 ds β fr σ F a w) {ops : Array Oper} {o : Oper} {so : SOper} {d : Nat} {want : Bool} (hc : cmpO P ops o = some so) (hg : so.guard = some (d, want)) :
    (∀ b, fr d = .sc (.bool b) → Region.wanted o (yielded ops a.tmps) = (b == want)) ∧ (fr d = .tp [] → Region.wanted o (yielded ops a.tmps) = false) := by
  unfold cmpO at hc
  unfold Region.wanted
  cases hgo : o.guard with
  | none =>
    simp only [hgo] at hc
    obtain ⟨s, _, rfl⟩ := Option.map_eq_some_iff.1 hc
    cases hg
  | some g =>
    obtain ⟨j, want'⟩ := g
    simp only [hgo] at hc
    split at hc
    · rename_i d' s hd hs
      cases hc
      cases hg
      have hr := R.regs d
      have key := yielded_at hd a.tmps
      simp only [key]
      constructor
      · intro b hb
        rw [hb] at hr
        have := rel_sc hr
        rw [Array.getD_eq_getD_getElem?] at this
        cases hx : a.tmps[d]? with
        | none => rw [hx] at this; cases this
        | some v =>
          rw [hx] at this
          simp only [Option.getD_some] at this
          subst this
          simp
      · intro hb
        rw [hb] at hr
        generalize hx : a.tmps.getD d undef = v at hr
        cases hr with
        | tp vs _ hn _ =>
          rw [Array.getD_eq_getD_getElem?] at hx
          cases hx' : a.tmps[d]? with
          | none => rfl
          | some v =>
            rw [hx'] at hx
            simp only [Option.getD_some] at hx
            subst hx
            rfl
    · cases hc
theorem wanted_none {ops : Array Oper} {o : Oper} {so : SOper} (hc : cmpO P ops o = some so) (hg : so.guard = none) (y : Nat → Option Bool) : Region.wanted o y = true := by
  unfold cmpO at hc
  unfold Region.wanted
  cases hgo : o.guard with
  | none => rfl
  | some g =>
    obtain ⟨j, want'⟩ := g
    simp only [hgo] at hc
    split at hc
    · cases hc; cases hg
    · cases hc
theorem cmpO_op {ops : Array Oper} {o : Oper} {so : SOper} (hc : cmpO P ops o = some so) : cmp P o.op = some so.op ∧ so.dst = o.dst := by
  unfold cmpO at hc
  split at hc
  · obtain ⟨s, h, rfl⟩ := Option.map_eq_some_iff.1 hc; exact ⟨h, rfl⟩
  · split at hc
    · rename_i h; cases hc; exact ⟨h, rfl⟩
    · cases hc
theorem cmp_call {op : Op} {f : Opd} {args : List Opd} (h : cmp P op = some (.call f args)) (ht : okTag op (.call f args) = true) : ∃ c f', op = .call c ∧ c.callee = .value f' ∧ f = cOpd f' ∧ args = c.args.toList.map cOpd := by
  cases op <;> simp only [okTag, Bool.false_eq_true] at ht
  case call c =>
    cases hcal : c.callee <;> simp only [hcal, Bool.false_eq_true] at ht
    simp only [cmp, cmpCall, hcal, Option.some.injEq, SOp.call.injEq] at h
    exact ⟨c, _, rfl, hcal, h.1.symm, h.2.symm⟩
theorem cmp_pan {op : Op} {x : Opd} (h : cmp P op = some (.pan x)) (ht : okTag op (.pan x) = true) : ∃ x', op = .panic x' ∧ x = cOpd x' := by
  cases op <;> simp only [okTag, Bool.false_eq_true] at ht
  case panic y =>
    simp only [cmp, Option.some.injEq, SOp.pan.injEq] at h
    exact ⟨y, rfl, h.symm⟩
theorem put_size (a : Act) (d : Option Nat) (v : Value) : (a.put d v).tmps.size = a.tmps.size := by cases d <;> simp [Act.put]
theorem put_undef (R : SRel N w0 M0 β0 ds β fr σ F a w) (d : Option Nat) (hd : ∀ t, d = some t → t < a.tmps.size) : SRel N w0 M0 β0 ds β (Am.put fr d (.tp [])) σ F (a.put d undef) w :=
  R.put d hd (.tp #[] [] rfl (fun i u z h _ => by simp at h))
theorem bnd_of (R : SRel N w0 M0 β0 ds β fr σ F a w) (x : Operand) : bnd σ ((cOpd x).get fr) := by
  have h := rel_get R x
  generalize (cOpd x).get fr = X at h
  generalize a.eval x = u at h
  cases h <;> simp only [bnd] <;> try exact trivial
  · assumption
  · assumption
  all_goals
    intro b hb
    rcases R.heap.blk _ _ hb with ⟨_, h0⟩ | ⟨b', cells, e, h1, h2⟩
    · rw [h0]; simp
    · exact h2.2.2.2.1
/-- after a call: the caller's state goes on -/
theorem SRel.after (R : SRel N w0 M0 β0 ds β fr σ F a w) {e : Ending} {w' : World} {β' : Nat → Option Nat} {σ' : Hp} {F' : Nat → Prop} {r : AEnd} (h : Leaves N β σ w e w' β' σ' F' r) : SRel N w0 M0 β0 ds β' fr σ' F' a w' := by
  obtain ⟨h1, h2, h3, h4, h5⟩ := h
  have hM : ∀ b, b < w.heap.size → live N β' σ' b → live N β σ b := fun b hb h => h.imp (fun h => h) (fun h => h5 b h hb)
  have hb : ∀ b, b < w.heap.size → ¬ live N β σ b → w'.heap[b]? = w.heap[b]? := fun b hb hl => h4.block b hb (fun h => hl (.inr h))
  have hcell : ∀ ad u, w.cell? ad = some u → ¬ live N β σ ad.block → w'.cell? ad = some u := fun ad u hc hl => by
    have := World.block_lt_of_cell? w _ hc
    simpa only [World.cell?, hb _ this hl] using hc
  refine ⟨h2, fun t => Rel.step h1 hM hcell h4.shape (R.regs t), ?_, ?_, R.away, R.defers, fun i b hb => h1 i b (R.ext i b hb)⟩
  · exact ⟨h4.os.trans R.frame.os, h4.tape.trans R.frame.tape, h4.output.trans R.frame.output, Nat.le_trans R.frame.size h4.size, fun b hb hm => (h4.block b (Nat.lt_of_lt_of_le hb R.frame.size) (fun h => hm (R.old b h hb))).trans (R.frame.block b hb hm), fun b s hs => h4.shape b s (R.frame.shape b s hs)⟩
  · intro b hb hlt
    exact R.old b (h5 b hb (Nat.lt_of_lt_of_le hlt R.frame.size)) hlt
end
end Go.Proofs.Ytlhnncmflnjinaa.Am
