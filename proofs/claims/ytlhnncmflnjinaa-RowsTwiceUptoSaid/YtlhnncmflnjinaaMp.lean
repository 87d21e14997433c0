/- The abstract machine: contracts out of code. -/
import Derived.Test.YtlhnncmflnjinaaMo
set_option linter.unusedSimpArgs false
set_option linter.unusedVariables false
namespace Go.Proofs.Ytlhnncmflnjinaa.Am
open Go Go.RowKit

/-- where a result stands: in a slot, or behind one -/
inductive RV where
  | t (i : Nat)
  | c (i : Nat) (m : Option Nat)
def resT (P : Program) : List ResultVar → Option (List RV)
  | [] => some []
  | .tmp t :: l => (resT P l).map (.t t :: ·)
  | .cell a ty :: l => match aggT P ty, resT P l with
    | some m, some r => some (.c a m :: r)
    | _, _ => none
def resV (σ : Hp) (fr : Regs) : List RV → Option (List AV)
  | [] => some []
  | .t i :: l => (resV σ fr l).map (fr i :: ·)
  | .c i m :: l => match aLd σ m (fr i), resV σ fr l with
    | some v, some r => some (v :: r)
    | _, _ => none
/-- one result is itself, several are a tuple -/
def tupA : List AV → AV
  | [x] => x
  | l => .tp l
def retC (σ : Hp) (fr : Regs) : List RV → (List AV → Prop) → Prop
  | [], K => K []
  | .t i :: l, K => retC σ fr l (fun r => K (fr i :: r))
  | .c i m :: l, K => bindP (aLd σ m (fr i)) (fun v => retC σ fr l (fun r => K (v :: r)))
theorem retC_of {σ : Hp} {fr : Regs} : ∀ {l : List RV} {K : List AV → Prop}, retC σ fr l K → ∃ vs, resV σ fr l = some vs ∧ K vs
  | [], K, h => ⟨[], rfl, h⟩
  | .t i :: l, K, h => by
    obtain ⟨vs, h1, h2⟩ := retC_of (l := l) h
    exact ⟨fr i :: vs, by simp [resV, h1], h2⟩
  | .c i m :: l, K, h => by
    simp only [retC] at h
    unfold bindP at h
    split at h
    · rename_i v hv
      obtain ⟨vs, h1, h2⟩ := retC_of (l := l) h
      exact ⟨v :: vs, by simp [resV, h1, hv], h2⟩
    · exact h.elim
def retQ (rs : List RV) (R : AEnd → Hp → Nat → Prop) : Ks
  | .normal => fun fr σ n => retC σ fr rs (fun vs => R (.ret (tupA vs)) σ n)
  | .ret => fun fr σ n => retC σ fr rs (fun vs => R (.ret (tupA vs)) σ n)
  | .pan v => fun _ σ n => R (.pan v) σ n
  | .exit _ => fun _ _ _ => False
  | .goto _ => fun _ _ _ => False
def entry (args : List AV) : Regs := fun i => args.getD i (.tp [])
section
variable {P : Program} {N : Nat → Prop} {w0 : World} {M0 : Nat → Prop} {β0 : Nat → Option Nat} {ds : List Deferred} {β : Nat → Option Nat} {fr : Regs} {σ : Hp} {F : Nat → Prop} {a : Act} {w : World}
theorem run_res (R : SRel N w0 M0 β0 ds β fr σ F a w) (g : ResultVar → Sem Value) (hg1 : ∀ t, g (.tmp t) = pure (a.tmps.getD t undef)) (hg2 : ∀ i ty, g (.cell i ty) = (do loadVar ty (← asAddr (a.tmps.getD i undef)))) : ∀ (l : List ResultVar) (rs : List RV) (vs : List AV), resT P l = some rs → resV σ fr rs = some vs →
    ∃ us : List Value, (l.mapM g).run P w = .ok us w ∧ us.length = vs.length ∧ ∀ (i : Nat) (u : Value) (z : AV), us[i]? = some u → vs[i]? = some z → Rel (live N β σ) w β u z
  | [], rs, vs, h1, h2 => by
    simp only [resT, Option.some.injEq] at h1; subst h1
    simp only [resV, Option.some.injEq] at h2; subst h2
    exact ⟨[], rfl, rfl, fun i u z h => by simp at h⟩
  | .tmp t :: l, rs, vs, h1, h2 => by
    simp only [resT] at h1
    obtain ⟨rs', h3, rfl⟩ := Option.map_eq_some_iff.1 h1
    simp only [resV] at h2
    obtain ⟨vs', h4, rfl⟩ := Option.map_eq_some_iff.1 h2
    obtain ⟨us, e1, e2, e3⟩ := run_res R g hg1 hg2 l rs' vs' h3 h4
    refine ⟨a.tmps.getD t undef :: us, ?_, by simp [e2], fun i u z hu hz => ?_⟩
    · rw [List.mapM_cons, hg1]
      simp only [Sem.run_bind, e1, pure_bind, Result.andThen_ok]
      rfl
    · cases i with
      | zero =>
        simp only [List.getElem?_cons_zero, Option.some.injEq] at hu hz
        subst hu hz; exact R.regs t
      | succ i => exact e3 i u z (by simpa using hu) (by simpa using hz)
  | .cell t ty :: l, rs, vs, h1, h2 => by
    simp only [resT] at h1
    split at h1
    · rename_i m r hm h3
      cases h1
      simp only [resV] at h2
      split at h2
      · rename_i v vs' hv h4
        cases h2
        obtain ⟨us, e1, e2, e3⟩ := run_res R g hg1 hg2 l r vs' h3 h4
        obtain ⟨u, hu, hur⟩ := good_ld (P := P) R (o := { (default : Oper) with op := .load ty (.tmp t) }) (x := .tmp t) rfl hm hv
        refine ⟨u :: us, ?_, by simp [e2], fun i u' z hu' hz => ?_⟩
        · have hl : (do loadVar ty (← asAddr (a.tmps.getD t undef)) : Sem Value).run P w = .ok u w := by
            have hrt := R.regs t
            unfold aLd at hv
            generalize hxt : fr t = x at hv hrt
            cases x <;> simp only [reduceCtorEq] at hv
            all_goals
              generalize hav : a.tmps.getD t undef = av at hrt
              cases hrt
              simp only [execOp, Act.eval, hav, Instr.loadAt, Instr.sureAddr] at hu
              simp only [Sem.run_bind, asAddr]
              revert hu
              simp
              generalize (loadVar ty _).run P w = q
              intro hu
              cases q with
              | ok v' w' => simp at hu ⊢; exact hu
              | halt h w' => simp at hu
          rw [List.mapM_cons, hg2]
          simp only [Sem.run_bind] at hl ⊢
          rw [hl]
          simp only [Result.andThen_ok, e1]
          rfl
        · cases i with
          | zero => simp at hu' hz; subst hu' hz; exact hur
          | succ i => exact e3 i u' z (by simpa using hu') (by simpa using hz)
      · cases h2
    · cases h1
def resG (tmps : Array Value) : ResultVar → Sem Value
  | .tmp t => pure (tmps.getD t undef)
  | .cell i t => do loadVar t (← asAddr (tmps.getD i undef))
theorem results_eq (fn : Func) (tmps : Array Value) : results fn tmps = (do
    let vs ← fn.results.mapM (resG tmps)
    pure (if h : vs.size = 1 then vs[0] else .tuple vs)) := by
  first
    | rfl
    | (unfold results
       congr 1)
theorem results_run (R : SRel N w0 M0 β0 ds β fr σ F a w) {fn : Func} {rs : List RV} {vs : List AV} (h1 : resT P fn.results.toList = some rs) (h2 : resV σ fr rs = some vs) : ∃ v, (results fn a.tmps).run P w = .ok v w ∧ Rel (live N β σ) w β v (tupA vs) := by
  obtain ⟨us, e1, e2, e3⟩ := run_res R (P := P) (resG a.tmps) (fun _ => rfl) (fun _ _ => rfl) _ rs vs h1 h2
  refine ⟨if h : us.toArray.size = 1 then us.toArray[0] else .tuple us.toArray, ?_, ?_⟩
  · rw [results_eq, Array.mapM_eq_mapM_toList]
    simp only [Sem.run_bind, Sem.run_map]
    rw [e1]
    simp only [Result.andThen_ok]
    rfl
  · match us, vs, e2, e3 with
    | [], [], _, _ => exact .tp #[] [] rfl (fun i u z h _ => by simp at h)
    | [u], [z], _, e3 => exact e3 0 u z rfl rfl
    | u :: u' :: us, z :: z' :: vs, e2, e3 =>
      simp only [List.size_toArray, List.length_cons, show ¬ (us.length + 1 + 1 = 1) by omega, dite_false]
      exact .tp _ _ (by simpa using e2) (fun i u y hu hy => e3 i u y (by rw [List.getElem?_toArray] at hu; exact hu) hy)
/-- a contract out of code -/
theorem conH_of {f : FuncId} {fn : Func} {sc : SCode} {args : List AV} {n : Nat} {R : AEnd → Hp → Nat → Prop} (rs : List RV) (hf : P.funcs[f]? = some fn) (X : List Nat) (hc : fn.body.bind (cmpC P fn.ntmps X) = some sc) (hgo : goFn P f = true) (hS : decide (args.length ≤ fn.ntmps) = true)
    (hres : resT P fn.results.toList = some rs) (h : swp P sc (retQ rs R) (entry args) σ n) : ConH P f args σ n R := by
  obtain ⟨c, hb, hc⟩ := Option.bind_eq_some_iff.1 hc
  have hS := of_decide_eq_true hS
  refine ⟨hgo, fun N T U β w vs hT hN H hargs => ?_⟩
  have hsz : vs.size = args.length := hargs.1
  refine calls_of_wp hf hb ?_
  have R0 : SRel N w (own β σ) β [] β (entry args) σ (Fn n (fun i => U i ∧ i < T) n) { tmps := vs ++ Array.replicate (fn.ntmps - vs.size) undef, defers := [] } w := by
    refine ⟨⟨fun i hi => H.dom i ((fn_up hT i).1 hi), H.off, H.inj, H.blk, H.map⟩, fun t => ?_, Fr.refl _ _, fun b h _ => h, hN, rfl, fun _ _ h => h⟩
    unfold entry
    by_cases ht : t < args.length
    · have e1 : (vs ++ Array.replicate (fn.ntmps - vs.size) undef).getD t undef = vs[t] := by
        rw [Array.getD_eq_getD_getElem?, Array.getElem?_append_left (by omega)]; simp [hsz, ht]
      have e2 : args.getD t (.tp []) = args[t] := by simp [List.getD, ht]
      simp only [e1, e2]
      exact hargs.2 t vs[t] args[t] (by simp [hsz, ht]) (by simp [ht])
    · have e1 : (vs ++ Array.replicate (fn.ntmps - vs.size) undef).getD t undef = undef := by
        rw [Array.getD_eq_getD_getElem?, Array.getElem?_append_right (by omega), Array.getElem?_replicate]
        split <;> rfl
      have e2 : args.getD t (.tp []) = .tp [] := by simp [List.getD, List.getElem?_eq_none (Nat.le_of_not_lt ht)]
      simp only [e1, e2]
      exact .tp #[] [] rfl (fun i u z h _ => by simp at h)
  have hsize : (vs ++ Array.replicate (fn.ntmps - vs.size) undef).size = fn.ntmps := by simp; omega
  refine swp_sound c sc hc n (fun i => U i ∧ i < T) (retQ rs R) _ ?_ β _ σ n _ w (Nat.le_refl n) hsize R0 h
  have fin : ∀ β' fr σ' n' a w', n ≤ n' → SRel N w (own β σ) β [] β' fr σ' (Fn n (fun i => U i ∧ i < T) n') a w' → retC σ' fr rs (fun vs => R (.ret (tupA vs)) σ' n') →
      a.defers = [] ∧ ∃ v, (results fn a.tmps).run P w' = .ok v w' ∧ ∃ β' r σ' n', R r σ' n' ∧ n ≤ n' ∧ Leaves N β σ w (.returned v) w' β' σ' (Fn T U n') r := by
    intro β' fr σ' n' a w' hn Rf h
    obtain ⟨vs, hv, h⟩ := retC_of h
    obtain ⟨v, e1, e2⟩ := results_run Rf hres hv
    exact ⟨Rf.defers, v, e1, β', _, σ', n', h, hn, Rf.ext, (Rf.free (fun i hi => (fn_up hT i).2 hi)).heap, e2, Rf.frame, Rf.old⟩
  intro e β' fr σ' n' a w' hn _ Rf h
  cases e with
  | normal => exact fin β' fr σ' n' a w' hn Rf h
  | ret => exact fin β' fr σ' n' a w' hn Rf h
  | exit id => exact h.elim
  | goto l => exact h.elim
  | pan v => exact ⟨Rf.defers, β', _, σ', n', h, hn, Rf.ext, (Rf.free (fun i hi => (fn_up hT i).2 hi)).heap, rfl, Rf.frame, Rf.old⟩
theorem ConH.mono {f : FuncId} {args : List AV} {n : Nat} {R R' : AEnd → Hp → Nat → Prop} (h : ConH P f args σ n R) (hr : ∀ r σ' n', n ≤ n' → R r σ' n' → R' r σ' n') : ConH P f args σ n R' :=
  ⟨h.1, fun N T U β w vs hT hN H hargs => (h.2 N T U β w vs hT hN H hargs).mono fun _ _ ⟨β', r, σ', n', a, b, c⟩ => ⟨β', r, σ', n', hr _ _ _ b a, b, c⟩⟩
/-- how a call ends whose result nobody writes -/
def RC (r0 : AEnd) : AEnd → Hp → Nat → Prop := fun r σ _ => match r with
  | .ret v => (match brw σ 3 v with
    | some (c, _) => r0 = .ret c
    | none => False)
  | .pan x => r0 = .pan x
theorem con_of {f : FuncId} {args : List AV} {r0 : AEnd} (h : ConH P f args (fun _ => none) 0 (RC r0)) : Con P f args r0 := by
  refine ⟨h.1, fun M w vs hM hargs => ?_⟩
  have hl : ∀ b, live M nob (fun _ => none) b ↔ M b := fun b => ⟨fun h => h.elim (fun h => h) (fun ⟨i, x, h, _⟩ => by cases h), .inl⟩
  refine (h.2 M 0 (fun _ => False) nob w vs (Nat.le_refl _) ⟨hM.1, hM.2.1, (fun ⟨i, x, h, _⟩ => by cases h), hM.2.2.2⟩ ⟨fun _ _ => ⟨rfl, rfl⟩, (by intro i x b h; cases h), (by intro i j b h; cases h), (by intro i x h; cases h), (by intro i es wr h; cases h)⟩ ⟨hargs.1, fun i u z hu hz => (hargs.2 i u z hu hz).sub (fun b hb => (hl b).1 hb)⟩).mono ?_
  rintro e w' ⟨β', r, σ', n', hr, _, h1, h2, h3, h4, h5⟩
  refine ⟨?_, ⟨h4.os, h4.tape, h4.output, h4.size, fun b hb _ => h4.block b hb (fun ⟨i, x, h, _⟩ => by cases h), h4.shape⟩⟩
  cases r with
  | pan x =>
    simp only [RC] at hr
    subst hr
    cases e <;> exact h3
  | ret v =>
    simp only [RC] at hr
    split at hr
    · rename_i c I hb
      subst hr
      cases e with
      | returned u => exact brw_rel h2 (fun b hb => .inl hb) 3 v c I u hb h3 (fun i hi b hb' => by
          obtain ⟨x, hx⟩ := Option.isSome_iff_exists.1 (brw_some σ' 3 v c I hb i hi)
          exact h2.off i x b hx hb')
      | panicked ch => exact h3.elim
      | outgrown => exact h3.elim
    · exact hr.elim
/-- the same value under other names -/
inductive Rn (ρ : List (Nat × Nat)) : AV → AV → Prop
  | same (a : AV) : Rn ρ a a
  | ow (j i k off len : Nat) (h : (j, i) ∈ ρ) : Rn ρ (.ow j k off len) (.ow i k off len)
  | rf (j i k r c : Nat) (h : (j, i) ∈ ρ) : Rn ρ (.rf j k r c) (.rf i k r c)
  | mp (j i : Nat) (h : (j, i) ∈ ρ) : Rn ρ (.mp j) (.mp i)
  | ag (l l' : List AV) (hn : l.length = l'.length) (h : ∀ (q : Nat) (x y : AV), l[q]? = some x → l'[q]? = some y → Rn ρ x y) : Rn ρ (.ag l) (.ag l')
  | tp (l l' : List AV) (hn : l.length = l'.length) (h : ∀ (q : Nat) (x y : AV), l[q]? = some x → l'[q]? = some y → Rn ρ x y) : Rn ρ (.tp l) (.tp l')
theorem Rn.sound {ρ : List (Nat × Nat)} {x y : AV} (h : Rn ρ x y) {M : Nat → Prop} (hρ : ∀ p ∈ ρ, ∀ b, β p.1 = some b → β p.2 = some b) : ∀ {v : Value}, Rel M w β v x → Rel M w β v y := by
  induction h with
  | same a => exact fun hr => hr
  | ow j i k off len h =>
    intro v hr
    cases hr with
    | ow _ _ _ _ cap b e n hb hl hs hn => exact .ow i k off len cap b e n (hρ _ h b hb) hl hs hn
    | ow0 A => exact .ow0 A i k
  | rf j i k r c h =>
    intro v hr
    cases hr with
    | rf _ _ _ _ b hb => exact .rf i k r c b (hρ _ h b hb)
  | mp j i h =>
    intro v hr
    cases hr with
    | mp _ b hb => exact .mp i b (hρ _ h b hb)
  | ag l l' hn h ih =>
    intro v hr
    cases hr with
    | ag vs _ hn' hr => exact .ag vs l' (hn'.trans hn) (fun i u z hu hz => by
        have hlt : i < l.length := by rw [hn]; exact (List.getElem?_eq_some_iff.1 hz).1
        exact ih i l[i] z (List.getElem?_eq_getElem hlt) hz (hr i u _ hu (List.getElem?_eq_getElem hlt)))
  | tp l l' hn h ih =>
    intro v hr
    cases hr with
    | tp vs _ hn' hr => exact .tp vs l' (hn'.trans hn) (fun i u z hu hz => by
        have hlt : i < l.length := by rw [hn]; exact (List.getElem?_eq_some_iff.1 hz).1
        exact ih i l[i] z (List.getElem?_eq_getElem hlt) hz (hr i u _ hu (List.getElem?_eq_getElem hlt)))
/-- what a call leaves, in other words: id: names from here on, 16, are free for it -/
inductive Wn (id : Nat) : AEnd → Hp → List (Nat × Nat) → List Nat → AEnd → Hp → Prop
  | done (r : AEnd) (σ : Hp) (ρ : List (Nat × Nat)) (us : List Nat) : Wn id r σ ρ us r σ
  | less (r : AEnd) (σ : Hp) (ρ : List (Nat × Nat)) (us : List Nat) (σ' : Hp) (r2 : AEnd) (σ2 : Hp) (h : ∀ i x, σ' i = some x → ∃ y, σ i = some y ∧ Ob.le x y) (h2 : Wn id r σ' ρ us r2 σ2) : Wn id r σ ρ us r2 σ2
  | move (r : AEnd) (σ : Hp) (ρ : List (Nat × Nat)) (us : List Nat) (j i : Nat) (x : Ob) (r2 : AEnd) (σ2 : Hp) (hx : σ j = some x) (hi : i < 16) (hu : i ∉ us) (hj : ∀ q, q < 16 → j ≠ id + q)
      (h2 : Wn id r (upd (upd σ j none) (id + i) (some x)) ((j, id + i) :: ρ) (i :: us) r2 σ2) : Wn id r σ ρ us r2 σ2
  | cells (r : AEnd) (σ : Hp) (ρ : List (Nat × Nat)) (us : List Nat) (i k : Nat) (rows rows' : List (List AV)) (wr : Bool) (r2 : AEnd) (σ2 : Hp) (hx : σ i = some (.c ⟨k, rows, wr, false⟩)) (hn : rows.length = rows'.length)
      (hr : ∀ (p : Nat) (x y : List AV), rows[p]? = some x → rows'[p]? = some y → x.length = y.length ∧ ∀ (q : Nat) (a b : AV), x[q]? = some a → y[q]? = some b → Rn ρ a b)
      (h2 : Wn id r (upd σ i (some (.c ⟨k, rows', wr, false⟩))) ρ us r2 σ2) : Wn id r σ ρ us r2 σ2
  | ret (v v' : AV) (σ : Hp) (ρ : List (Nat × Nat)) (us : List Nat) (r2 : AEnd) (σ2 : Hp) (h : Rn ρ v v') (h2 : Wn id (.ret v') σ ρ us r2 σ2) : Wn id (.ret v) σ ρ us r2 σ2
theorem Leaves.move {e : Ending} {w' : World} {β' : Nat → Option Nat} {σ' : Hp} {F' : Nat → Prop} {r : AEnd} (hN : Aw N (own β σ) w) (h : Leaves N β σ w e w' β' σ' F' r) {j i : Nat} {x : Ob} {b : Nat} (hx : σ' j = some x) (hb : β' j = some b) (hi : F' i) (hne : j ≠ i) :
    Leaves N β σ w e w' (upd β' i (some b)) (upd (upd σ' j none) i (some x)) (fun q => F' q ∧ q ≠ i) r := by
  obtain ⟨h1, h2, h3, h4, h5⟩ := h
  have R : SRel N w (own β σ) β [] β' (fun _ => .tp []) σ' F' { tmps := #[], defers := [] } w' := ⟨h2, fun t => .tp #[] [] rfl (fun i u z h _ => by simp at h), h4, h5, hN, rfl, h1⟩
  obtain ⟨R', up⟩ := R.move hx hb hi hne
  refine ⟨R'.ext, R'.heap, ?_, R'.frame, R'.old⟩
  cases e <;> cases r <;> first | exact h3.elim | exact up h3 | exact h3
theorem Leaves.less {e : Ending} {w' : World} {β' : Nat → Option Nat} {σ' σ2 : Hp} {F' : Nat → Prop} {r : AEnd} (h : Leaves N β σ w e w' β' σ' F' r) (hl : ∀ i x, σ2 i = some x → ∃ y, σ' i = some y ∧ Ob.le x y) : Leaves N β σ w e w' β' σ2 F' r := by
  obtain ⟨h1, h2, h3, h4, h5⟩ := h
  obtain ⟨g1, g2, g3⟩ := h2.less hl
  refine ⟨h1, g1, ?_, h4, fun b hb => h5 b (g2 b hb)⟩
  cases e <;> cases r <;> first | exact h3.elim | exact g3 h3 | exact h3
/-- a block's cells, under other names -/
theorem HRel.cells' {ρ : List (Nat × Nat)} (H : HRel N β σ F w) (hρ : ∀ p ∈ ρ, ∀ b, β p.1 = some b → β p.2 = some b) {i k : Nat} {rows rows' : List (List AV)} {wr : Bool} (hx : σ i = some (.c ⟨k, rows, wr, false⟩)) (hn : rows.length = rows'.length)
    (hr : ∀ (p : Nat) (x y : List AV), rows[p]? = some x → rows'[p]? = some y → x.length = y.length ∧ ∀ (q : Nat) (a b : AV), x[q]? = some a → y[q]? = some b → Rn ρ a b) :
    HRel N β (upd σ i (some (.c ⟨k, rows', wr, false⟩))) F w ∧ (∀ b, live N β (upd σ i (some (.c ⟨k, rows', wr, false⟩))) b ↔ live N β σ b) := by
  have hown : ∀ b, own β (upd σ i (some (.c ⟨k, rows', wr, false⟩))) b ↔ own β σ b := by
    intro b
    constructor
    · rintro ⟨j, x, h1, h2, h3⟩
      by_cases e : j = i
      · subst e; rw [upd_same] at h1; cases h1; exact ⟨j, _, hx, h2, h3⟩
      · rw [upd_ne _ _ e] at h1; exact ⟨j, x, h1, h2, h3⟩
    · rintro ⟨j, x, h1, h2, h3⟩
      by_cases e : j = i
      · subst e; rw [hx] at h1; cases h1; exact ⟨j, .c ⟨k, rows', wr, false⟩, by rw [upd_same], h2, h3⟩
      · exact ⟨j, x, by rw [upd_ne _ _ e]; exact h1, h2, h3⟩
  have hlv : ∀ b, live N β (upd σ i (some (.c ⟨k, rows', wr, false⟩))) b ↔ live N β σ b := fun b => or_congr Iff.rfl (hown b)
  have sub : ∀ {β' : Nat → Option Nat} {v : Value} {a : AV}, Rel (live N β σ) w β' v a → Rel (live N β (upd σ i (some (.c ⟨k, rows', wr, false⟩)))) w β' v a := fun h => h.sub (fun b hb => (hlv b).1 hb)
  have hs : ∀ j, ((upd σ i (some (.c ⟨k, rows', wr, false⟩))) j).isSome → (σ j).isSome := by
    intro j h
    by_cases e : j = i
    · subst e; simp [hx]
    · rwa [upd_ne _ _ e] at h
  refine ⟨⟨fun j hj => ?_, fun j x b hj hb => ?_, fun j1 j2 b h1 h2 s1 s2 => H.inj j1 j2 b h1 h2 (hs j1 s1) (hs j2 s2), fun j x hj => ?_, fun j es wr' hj => ?_⟩, hlv⟩
  · have hne : j ≠ i := fun e => by subst e; rw [(H.dom j hj).2] at hx; cases hx
    rw [upd_ne _ _ hne]; exact H.dom j hj
  · by_cases e : j = i
    · subst e; exact H.off j _ b hx hb
    · rw [upd_ne _ _ e] at hj; exact H.off j x b hj hb
  · by_cases e : j = i
    · subst e
      rw [upd_same] at hj; cases hj
      rcases H.blk j _ hx with ⟨h1, h2⟩ | ⟨b, cells, ee, h1, h2⟩
      · refine .inl ⟨h1, ?_⟩
        simp only at h2
        rw [h2] at hn
        exact List.eq_nil_of_length_eq_zero hn.symm
      · refine .inr ⟨b, cells, ee, h1, h2.1, by have := h2.2.1; simp only at this ⊢; rw [← hn]; exact this, fun r' hr' => ?_, by have := h2.2.2.2.1; simp only at this ⊢; omega, fun p q r' a' hp hq => ?_⟩
        · obtain ⟨p, hp⟩ := List.mem_iff_getElem?.1 hr'
          have hlt : p < rows.length := by rw [hn]; exact (List.getElem?_eq_some_iff.1 hp).1
          rw [← (hr p rows[p] r' (List.getElem?_eq_getElem hlt) hp).1]
          exact h2.2.2.1 _ (List.getElem_mem hlt)
        · have hlt : p < rows.length := by rw [hn]; exact (List.getElem?_eq_some_iff.1 hp).1
          obtain ⟨hl, hc⟩ := hr p rows[p] r' (List.getElem?_eq_getElem hlt) hp
          have hql : q < rows[p].length := by rw [hl]; exact (List.getElem?_eq_some_iff.1 hq).1
          obtain ⟨u, hu, hrel⟩ := h2.2.2.2.2 p q rows[p] rows[p][q] (List.getElem?_eq_getElem hlt) (List.getElem?_eq_getElem hql)
          refine ⟨u, hu, ?_⟩
          have hrel : Rel (live N β σ) w β u rows[p][q] := hrel
          exact sub ((hc q _ a' (List.getElem?_eq_getElem hql) hq).sound hρ hrel)
    · rw [upd_ne _ _ e] at hj
      rcases H.blk j x hj with h0 | ⟨b, cells, ee, h1, h2⟩
      · exact .inl h0
      · exact .inr ⟨b, cells, ee, h1, h2.1, h2.2.1, h2.2.2.1, h2.2.2.2.1, fun p q r a hp hq => let ⟨u, hu, hr⟩ := h2.2.2.2.2 p q r a hp hq; ⟨u, hu, sub hr⟩⟩
  · by_cases e : j = i
    · subst e; rw [upd_same] at hj; cases hj
    · rw [upd_ne _ _ e] at hj
      obtain ⟨b, ms, cl, h1, h2⟩ := H.map j es wr' hj
      exact ⟨b, ms, cl, h1, h2.1, h2.2.1, fun p e m hp hm => ⟨sub (h2.2.2 p e m hp hm).1, sub (h2.2.2 p e m hp hm).2⟩⟩
theorem Wn.sound {id : Nat} {e : Ending} {w' : World} {us : List Nat} {ρ : List (Nat × Nat)} {r r2 : AEnd} {σ' σ2 : Hp} (hN : Aw N (own β σ) w) (h : Wn id r σ' ρ us r2 σ2) : ∀ {β' : Nat → Option Nat} {F' : Nat → Prop}, (∀ p ∈ ρ, ∀ q, q < 16 → p.1 ≠ id + q) → (∀ p ∈ ρ, ∀ b, β' p.1 = some b → β' p.2 = some b) → (∀ i, i < 16 → i ∉ us → F' (id + i)) →
    Leaves N β σ w e w' β' σ' F' r → ∃ β2, Leaves N β σ w e w' β2 σ2 (fun j => F' j ∧ ¬ (id ≤ j ∧ j < id + 16)) r2 := by
  induction h with
  | done r σ' ρ us =>
    intro β' F' hρ0 hρ hF h
    exact ⟨β', h.1, ⟨fun i hi => h.2.1.dom i hi.1, h.2.1.off, h.2.1.inj, h.2.1.blk, h.2.1.map⟩, h.2.2.1, h.2.2.2.1, h.2.2.2.2⟩
  | less r σ' ρ us σ1 r2 σ2 hl h2 ih => exact fun hρ0 hρ hF h => ih hρ0 hρ hF (h.less hl)
  | move r σ' ρ us j i x r2 σ2 hx hi hu hj h2 ih =>
    intro β' F' hρ0 hρ hF h
    have hne : j ≠ id + i := hj i hi
    have hFi := hF i hi hu
    have hβi := (h.2.1.dom _ hFi).1
    have hρ0' : ∀ p ∈ (j, id + i) :: ρ, ∀ q, q < 16 → p.1 ≠ id + q := fun p hp => by
      rcases List.mem_cons.1 hp with rfl | hp
      · exact hj
      · exact hρ0 p hp
    cases hb : β' j with
    | some b =>
      have hm := h.move hN hx hb hFi hne
      obtain ⟨β2, hk⟩ := ih (β' := upd β' (id + i) (some b)) (F' := fun q => F' q ∧ q ≠ id + i) hρ0' (fun p hp b' hb' => by
        rcases List.mem_cons.1 hp with rfl | hp
        · simp only at hb' ⊢
          rw [upd_ne _ _ hne, hb] at hb'
          cases hb'; rw [upd_same]
        · by_cases e1 : p.1 = id + i
          · exact absurd e1 (hρ0 p hp i hi)
          · rw [upd_ne _ _ e1] at hb'
            have := hρ p hp b' hb'
            by_cases e2 : p.2 = id + i
            · rw [e2] at this; rw [hβi] at this; cases this
            · rw [upd_ne _ _ e2]; exact this) (fun q hq hqu => ⟨hF q hq (fun h => hqu (List.mem_cons_of_mem _ h)), fun e => hqu (by rw [show q = i by omega]; exact List.mem_cons_self)⟩) hm
      exact ⟨β2, hk.1, ⟨fun q hq => hk.2.1.dom q ⟨⟨hq.1, fun e => hq.2 ⟨by omega, by omega⟩⟩, hq.2⟩, hk.2.1.off, hk.2.1.inj, hk.2.1.blk, hk.2.1.map⟩, hk.2.2.1, hk.2.2.2.1, hk.2.2.2.2⟩
    | none =>
      -- rows that are none
      obtain ⟨q1, q2, q3, q4, q5⟩ := h
      cases x with
      | m es wr => obtain ⟨b, _, _, h1, _⟩ := q2.map j es wr hx; rw [hb] at h1; cases h1
      | c y =>
        obtain ⟨k, rows, wr, cl⟩ := y
        have hrows : rows = [] := by
          rcases q2.blk j _ hx with ⟨_, h2⟩ | ⟨b, _, _, h1, _⟩
          · exact h2
          · rw [hb] at h1; cases h1
        subst hrows
        have R : SRel N w (own β σ) β [] β' (fun _ => .tp []) σ' F' { tmps := #[], defers := [] } w' := ⟨q2, fun t => .tp #[] [] rfl (fun i u z h _ => by simp at h), q4, q5, hN, rfl, q1⟩
        obtain ⟨R1, up1⟩ := R.less (σ' := upd σ' j none) (fun q x hq => by
          by_cases e : q = j
          · subst e; simp at hq
          · rw [upd_ne _ _ e] at hq; exact ⟨x, hq, .refl x⟩)
        obtain ⟨R2, up2⟩ := R1.imagine (id + i) hFi k cl
        obtain ⟨R3, up3⟩ := R2.less (σ' := upd (upd σ' j none) (id + i) (some (.c ⟨k, [], wr, cl⟩))) (fun q x hq => by
          by_cases e : q = id + i
          · subst e
            rw [upd_same] at hq ⊢
            cases hq
            exact ⟨_, rfl, .c _ _ _ _ _ (fun _ => rfl)⟩
          · rw [upd_ne _ _ e] at hq ⊢; exact ⟨x, hq, .refl x⟩)
        obtain ⟨β2, hk⟩ := ih (β' := β') (F' := fun q => F' q ∧ q ≠ id + i) hρ0' (fun p hp b' hb' => by
          rcases List.mem_cons.1 hp with rfl | hp
          · simp only at hb'; rw [hb] at hb'; cases hb'
          · exact hρ p hp b' hb') (fun q hq hqu => ⟨hF q hq (fun h => hqu (List.mem_cons_of_mem _ h)), fun e => hqu (by rw [show q = i by omega]; exact List.mem_cons_self)⟩)
          ⟨q1, R3.heap, by cases e <;> cases r <;> first | exact q3.elim | exact up3 (up2 (up1 q3)) | exact q3, R3.frame, R3.old⟩
        exact ⟨β2, hk.1, ⟨fun q hq => hk.2.1.dom q ⟨⟨hq.1, fun e => hq.2 ⟨by omega, by omega⟩⟩, hq.2⟩, hk.2.1.off, hk.2.1.inj, hk.2.1.blk, hk.2.1.map⟩, hk.2.2.1, hk.2.2.2.1, hk.2.2.2.2⟩
  | cells r σ' ρ us i k rows rows' wr r2 σ2 hx hn hr h2 ih =>
    intro β' F' hρ0 hρ hF h
    obtain ⟨g1, g2⟩ := h.2.1.cells' hρ hx hn hr
    refine ih hρ0 hρ hF ⟨h.1, g1, ?_, h.2.2.2.1, fun b hb => h.2.2.2.2 b ?_⟩
    · obtain ⟨_, _, h3, _, _⟩ := h
      cases e <;> cases r <;> first | exact h3.elim | exact h3.sub (fun b hb => (g2 b).1 hb) | exact h3
    · obtain ⟨j, x, a1, a2, a3⟩ := hb
      by_cases e : j = i
      · subst e; rw [upd_same] at a1; cases a1; exact ⟨j, _, hx, a2, a3⟩
      · rw [upd_ne _ _ e] at a1; exact ⟨j, x, a1, a2, a3⟩
  | ret v v' σ' ρ us r2 σ2 hr h2 ih =>
    intro β' F' hρ0 hρ hF h
    refine ih hρ0 hρ hF ⟨h.1, h.2.1, ?_, h.2.2.2⟩
    obtain ⟨_, _, h3, _, _⟩ := h
    cases e <;> first | exact hr.sound hρ h3 | exact h3.elim
/-- a contract that tells all, out of one that tells it in other names -/
theorem conW_of {f : FuncId} {args : List AV} {pre : List (Nat × Ob)} {id : Nat} {r : AEnd} {wr : Wr} (hgo : goFn P f = true) (h : ∀ (σ : Hp) (n : Nat), (∀ p ∈ pre, σ p.1 = some p.2) → id + 16 ≤ n → ConH P f args σ n (fun r' σ' _ => Wn id r' σ' [] [] r (applyW σ wr))) : ConW P f args pre id r wr := by
  refine ⟨hgo, fun N β σ F w vs hpre hid T hT hF hN H hargs => ?_⟩
  have H' : HRel N β σ (Fn T F T) w := ⟨fun i hi => H.dom i (hi.elim (hF i) (fun h => h.1)), H.off, H.inj, H.blk, H.map⟩
  refine ((h σ T hpre hT).2 N T F β w vs (Nat.le_refl _) hN H' hargs).mono ?_
  rintro e w' ⟨β', r', σ', n', hw, hn, hl⟩
  obtain ⟨β2, h2⟩ := hw.sound hN (fun p hp => by cases hp) (fun p hp => by cases hp) (fun i hi _ => Or.inr ⟨hid _ (by omega) (by omega), by omega⟩) hl
  refine ⟨β2, n', hn, h2.1, ⟨fun i hi => h2.2.1.dom i ⟨?_, hi.2.1⟩, h2.2.1.off, h2.2.1.inj, h2.2.1.blk, h2.2.1.map⟩, h2.2.2.1, h2.2.2.2.1, h2.2.2.2.2⟩
  rcases hi.2.2 with h | h
  · exact .inr ⟨hi.1, h⟩
  · exact .inl h
end
end Go.Proofs.Ytlhnncmflnjinaa.Am
