/- The abstract machine: regions whose order is open: each operation is reckoned in the state behind those that must come ahead of it; one reckoning serves every order. -/
import Derived.Test.YtlhnncmflnjinaaMh
import Derived.Orders
set_option linter.unusedSimpArgs false
set_option linter.unusedVariables false
namespace Go.Proofs.Ytlhnncmflnjinaa.Am
open Go Go.RowKit

/-- what an operation leaves: its slot's value, blocks told anew; rd: the blocks that it looked at; dead: it is not come to, or panics -/
structure Eff where
  dst : Option Nat
  v : AV
  wr : Wr
  rd : List Nat
  dead : Bool
abbrev St := Regs × Hp
def effApp (e : Eff) (st : St) : St := (Am.put st.1 e.dst e.v, applyW st.2 e.wr)
/-- the state behind those operations that are listed -/
def stL (L : Nat → Bool) : Nat → List Eff → St → St
  | _, [], st => st
  | i, e :: es, st => stL L (i + 1) es (bif L i then effApp e st else st)
def names (wr : Wr) : List Nat := wr.map (·.1)
/-- the blocks that an operation looks at that changes nothing -/
def rdA : AV → List Nat
  | .rf i _ _ _ => [i]
  | _ => []
def rdY : AV → List Nat
  | .ow i _ _ _ => [i]
  | _ => []
def rdM : AV → List Nat
  | .mp i => [i]
  | _ => []
def rdR (g : Opd → AV) : SOp → List Nat
  | .ld _ x => rdA (g x)
  | .cvb x => rdY (g x)
  | .lkp _ _ x _ => rdM (g x)
  | _ => []
/-- one panic alone may be -/
def once (pn : Option Value) (A : Prop) : Prop := match pn with
  | none => A
  | some _ => False
theorem once_iff {pn : Option Value} {A : Prop} : once pn A ↔ pn = none ∧ A := by cases pn <;> simp [once]
def rdH (g : Opd → AV) (op : SOp) (wr : Wr) : List Nat := match op with
  | .app _ _ x y => rdY (g x) ++ (rdY (g y) ++ names wr)
  | _ => names wr
inductive callD (P : Program) (f : AV) (args : List AV) (σ : Hp) (id : Nat) (K : AEnd → Wr → List Nat → Prop) : Prop
  | c (h : callC P f args σ K)
  | w (h : callW P f args σ id K)
def dstep (P : Program) (op : SOp) (fr : Regs) (σ : Hp) (id : Nat) (Kp : Value → List Nat → Prop) (K : AV → Wr → List Nat → Prop) : Prop := match op with
  | .call f args => callD P (f.get fr) (args.map (Opd.get fr)) σ id (fun r wr rd => onEnd r (fun v => K v wr rd) (fun x => Kp x rd))
  | .pan x => PAN (x.get fr) (fun v => Kp v [])
  | op => if quiet op = true then bindP (semR σ (Opd.get fr) op) (fun v => K v [] (rdR (Opd.get fr) op)) else bindH (semH σ id (Opd.get fr) op) (fun v wr => K v wr (rdH (Opd.get fr) op wr))
def guardD' (g : AV) (want : Bool) (e : (AV → Wr → List Nat → Prop) → Prop) (K : AV → Wr → List Nat → Prop) : Prop := match g with
  | .sc (.bool b) => if b = want then e K else K (.tp []) [] []
  | .tp [] => K (.tp []) [] []
  | _ => False
structure guardD (g : AV) (want : Bool) (e : (AV → Wr → List Nat → Prop) → Prop) (K : AV → Wr → List Nat → Prop) : Prop where
  h : guardD' g want e K
/-- nothing that one writes does the other one look at -/
def Apt (w r w' r' : List Nat) : Prop := (∀ x ∈ w, x ∉ r' ∧ x ∉ w') ∧ (∀ x ∈ w', x ∉ r)
/-- looks an operation at memory at all? -/
def inert : SOp → Bool
  | .ld _ _ => false
  | .cvb _ => false
  | .lkp _ _ _ _ => false
  | op => quiet op
def side1 (anc : List Nat) (w r : List Nat) : Nat → List (SOper × List Nat) → List Eff → Prop → Prop
  | i, (o, _) :: l, e :: es, X => bif inert o.op || anc.contains i then side1 anc w r (i + 1) l es X else Apt (names e.wr) e.rd w r ∧ side1 anc w r (i + 1) l es X
  | _, _, _, X => X
def sideL (l0 : List (SOper × List Nat)) (effs : List Eff) : Nat → List (SOper × List Nat) → List Eff → Prop → Prop
  | j, (o, anc) :: l, e :: es, X => bif inert o.op then sideL l0 effs (j + 1) l es X else side1 anc (names e.wr) e.rd 0 (l0.take j) effs (sideL l0 effs (j + 1) l es X)
  | _, _, _, X => X
def dops (P : Program) (K : Kn) (Kp : Value → Kn) (l0 : List (SOper × List Nat)) (st0 : St) (n : Nat) : List (SOper × List Nat) → List Eff → Option Value → Prop
  | [], effs, none => sideL l0 effs 0 l0 effs (∀ n', n + 16 * l0.length ≤ n' → K (stL (fun _ => true) 0 effs st0).1 (stL (fun _ => true) 0 effs st0).2 n')
  | [], effs, some x => sideL l0 effs 0 l0 effs (∀ fr σ n, Kp x fr σ n)
  | (o, anc) :: rest, effs, pn =>
    bif anc.any (fun i => (effs[i]?).any (·.dead)) then dops P K Kp l0 st0 n rest (effs ++ [⟨o.dst, .tp [], [], [], true⟩]) pn else
    match o.guard with
    | none => dstep P o.op (stL (fun j => anc.contains j) 0 effs st0).1 (stL (fun j => anc.contains j) 0 effs st0).2 (n + 16 * effs.length)
        (fun x rd => once pn (dops P K Kp l0 st0 n rest (effs ++ [⟨o.dst, .tp [], [], rd, true⟩]) (some x)))
        (fun v wr rd => dops P K Kp l0 st0 n rest (effs ++ [⟨o.dst, v, wr, rd, false⟩]) pn)
    | some (d, want) => if quiet o.op = true then guardP ((stL (fun j => anc.contains j) 0 effs st0).1 d) want (semR (stL (fun j => anc.contains j) 0 effs st0).2 (Opd.get (stL (fun j => anc.contains j) 0 effs st0).1) o.op)
          (fun v => dops P K Kp l0 st0 n rest (effs ++ [⟨o.dst, v, [], rdR (Opd.get (stL (fun j => anc.contains j) 0 effs st0).1) o.op, false⟩]) pn)
      else guardD ((stL (fun j => anc.contains j) 0 effs st0).1 d) want (dstep P o.op (stL (fun j => anc.contains j) 0 effs st0).1 (stL (fun j => anc.contains j) 0 effs st0).2 (n + 16 * effs.length)
        (fun x rd => once pn (dops P K Kp l0 st0 n rest (effs ++ [⟨o.dst, .tp [], [], rd, true⟩]) (some x))))
        (fun v wr rd => dops P K Kp l0 st0 n rest (effs ++ [⟨o.dst, v, wr, rd, false⟩]) pn)

/-! what is asked of the operations' order, once and for all -/
def opds (op : SOp) : List Opd := match op with
  | .mv x => [x]
  | .pick c a b => [c, a, b]
  | .alloc _ => []
  | .box x => [x]
  | .build _ ps => ps.map (·.2.2)
  | .bsl _ _ _ ps => ps.map (·.2)
  | .ld _ x => [x]
  | .st _ x v => [x, v]
  | .fad _ x => [x]
  | .fld _ _ x => [x]
  | .iad _ x i => [x, i]
  | .istr x i => [x, i]
  | .iarr _ _ _ x i => [x, i]
  | .bin _ x y => [x, y]
  | .eqs _ _ x y => [x, y]
  | .eqb _ x y => [x, y]
  | .eqp _ x y => [x, y]
  | .eqn _ x => [x]
  | .un _ x => [x]
  | .cvi _ x => [x]
  | .cvs x => [x]
  | .cvb x => [x]
  | .len _ x => [x]
  | .slc _ x lo hi mx => x :: (lo.toList ++ (hi.toList ++ mx.toList))
  | .sstr x lo hi => x :: (lo.toList ++ hi.toList)
  | .app _ _ x y => [x, y]
  | .ext x _ => [x]
  | .mkf _ caps => caps
  | .nck x => [x]
  | .mki _ x => [x]
  | .tas _ _ x => [x]
  | .mkm => []
  | .lkp _ _ x k => [x, k]
  | .mup x k v => [x, k, v]
  | .clm x => [x]
  | .call f args => f :: args
  | .pan x => [x]
def optmps (o : SOper) : List Nat := (opds o.op).filterMap (fun | Opd.t i => some i | Opd.c _ => none) ++ (o.guard.map (·.1)).toList
def direct (o : Oper) : List Nat := o.after.toList.filterMap fun e => if Region.binds .any e = true then some e.on else none
/-- every operation's ancestors -/
def ancOf (ops : List Oper) : List (List Nat) :=
  ops.foldl (fun acc o => acc ++ [(direct o).foldl (fun s d => (if s.contains d then s else s ++ [d]) ++ ((acc.getD d []).filter fun k => !(s.contains k || k == d))) []]) []
def ancOk (ops : List Oper) (ancs : List (List Nat)) : Bool :=
  decide (ancs.length = ops.length) && (List.range ops.length).all fun i => match ops[i]?, ancs[i]? with
    | some o, some anc => (anc.all fun j => decide (j < i) && ((ancs.getD j []).all fun k => anc.contains k) && ((direct o).contains j || (direct o).any fun d => (ancs.getD d []).contains j)) && ((direct o).all fun d => anc.contains d)
    | _, _ => false
def tmpOk (l : List (SOper × List Nat)) : Bool :=
  (List.range l.length).all fun i => (List.range l.length).all fun j => match l[i]?, l[j]? with
    | some (oi, ai), some (oj, aj) => i == j || (match oj.dst with
        | some d => oi.dst != some d && (!(optmps oi).contains d || ai.contains j || aj.contains i)
        | none => true)
    | _, _ => false
def cmpD (P : Program) (S : Nat) (ops : Array Oper) : Option (List (SOper × List Nat)) := match cmpL P S ops ops.toList with
  | some sl => if ancOk ops.toList (ancOf ops.toList) = true ∧ tmpOk (sl.zip (ancOf ops.toList)) = true ∧ P.follows .mixedOrders = true then some (sl.zip (ancOf ops.toList)) else none
  | none => none

section
variable {P : Program} {K : Kn} {Kp : Value → Kn} {l0 : List (SOper × List Nat)} {st0 : St} {n : Nat}

def Runs (P : Program) (op : SOp) (st : St) (id : Nat) (v : AV) (wr : Wr) (rd : List Nat) : Prop :=
  (quiet op = true ∧ semR st.2 (Opd.get st.1) op = some v ∧ wr = [] ∧ rd = rdR (Opd.get st.1) op) ∨ (semH st.2 id (Opd.get st.1) op = some (v, wr) ∧ rd = rdH (Opd.get st.1) op wr) ∨
  (∃ f args, op = .call f args ∧ callD P (f.get st.1) (args.map (Opd.get st.1)) st.2 id (fun r w d => r = .ret v ∧ w = wr ∧ d = rd))
def Pans (P : Program) (op : SOp) (st : St) (id : Nat) (x : Value) (rd : List Nat) : Prop :=
  (∃ f args, op = .call f args ∧ callD P (f.get st.1) (args.map (Opd.get st.1)) st.2 id (fun r _ d => r = .pan x ∧ d = rd)) ∨ (∃ y, op = .pan y ∧ PAN (y.get st.1) (fun z => z = x))
def Asked (st : St) (o : SOper) : Prop := o.guard = none ∨ ∃ d want, o.guard = some (d, want) ∧ st.1 d = .sc (.bool want)
def Skipped (st : St) (o : SOper) : Prop := ∃ d want, o.guard = some (d, want) ∧ ((∃ b, st.1 d = .sc (.bool b) ∧ b ≠ want) ∨ st.1 d = .tp [])
def OpOk (P : Program) (Kp : Value → Kn) (st : St) (id : Nat) (o : SOper) (e : Eff) : Prop :=
  (e.dead = false ∧ ((Skipped st o ∧ e.v = .tp [] ∧ e.wr = [] ∧ (inert o.op = true → e.rd = [])) ∨ (Asked st o ∧ Runs P o.op st id e.v e.wr e.rd))) ∨ (e.dead = true ∧ ∃ x, Asked st o ∧ Pans P o.op st id x e.rd ∧ ∀ fr σ n, Kp x fr σ n)
theorem callD_split {f : AV} {args : List AV} {σ : Hp} {id : Nat} {K : AEnd → Wr → List Nat → Prop} (h : callD P f args σ id K) : ∃ r wr rd, callD P f args σ id (fun r' w d => r' = r ∧ w = wr ∧ d = rd) ∧ K r wr rd := by
  rcases h with h | h
  · unfold callC at h
    split at h
    · obtain ⟨cs, I, r, h1, h2, h3⟩ := h
      exact ⟨r, _, I, .c ⟨cs, I, r, h1, h2, rfl, rfl, rfl⟩, h3⟩
    · exact h.elim
  · unfold callW at h
    split at h
    · obtain ⟨pre, r, wr, h1, h2, h3⟩ := h
      exact ⟨r, wr, _, .w ⟨pre, r, wr, h1, h2, rfl, rfl, rfl⟩, h3⟩
    · exact h.elim
theorem callD_mono {f : AV} {args : List AV} {σ : Hp} {id : Nat} {K K' : AEnd → Wr → List Nat → Prop} (h : callD P f args σ id K) (hk : ∀ r wr rd, K r wr rd → K' r wr rd) : callD P f args σ id K' := by
  rcases h with h | h
  · unfold callC at h
    split at h
    · obtain ⟨cs, I, r, h1, h2, h3⟩ := h
      exact .c ⟨cs, I, r, h1, h2, hk _ _ _ h3⟩
    · exact h.elim
  · unfold callW at h
    split at h
    · obtain ⟨pre, r, wr, h1, h2, h3⟩ := h
      exact .w ⟨pre, r, wr, h1, h2, hk _ _ _ h3⟩
    · exact h.elim
theorem dstep_split {op : SOp} {fr : Regs} {σ : Hp} {id : Nat} {Kx : Value → List Nat → Prop} {K : AV → Wr → List Nat → Prop} (h : dstep P op fr σ id Kx K) :
    (∃ v wr rd, Runs P op (fr, σ) id v wr rd ∧ K v wr rd) ∨ (∃ x rd, Pans P op (fr, σ) id x rd ∧ Kx x rd) := by
  have plain : (if quiet op = true then bindP (semR σ (Opd.get fr) op) (fun v => K v [] (rdR (Opd.get fr) op)) else bindH (semH σ id (Opd.get fr) op) (fun v wr => K v wr (rdH (Opd.get fr) op wr))) → ∃ v wr rd, Runs P op (fr, σ) id v wr rd ∧ K v wr rd := by
    intro h
    split at h
    · rename_i hq
      unfold bindP at h
      split at h
      · rename_i v hv; exact ⟨v, [], _, .inl ⟨hq, hv, rfl, rfl⟩, h⟩
      · exact h.elim
    · unfold bindH at h
      split at h
      · rename_i v wr hv; exact ⟨v, wr, _, .inr (.inl ⟨hv, rfl⟩), h⟩
      · exact h.elim
  cases op with
  | call f args =>
    simp only [dstep] at h
    obtain ⟨r, wr, rd, h1, h2⟩ := callD_split h
    cases r with
    | ret v => exact .inl ⟨v, wr, rd, .inr (.inr ⟨f, args, rfl, h1⟩), h2⟩
    | pan x => exact .inr ⟨x, rd, .inl ⟨f, args, rfl, callD_mono h1 (fun _ _ _ h => ⟨h.1, h.2.2⟩)⟩, h2⟩
  | pan y =>
    simp only [dstep, PAN] at h
    split at h
    · rename_i t v hv
      exact .inr ⟨_, _, .inr ⟨y, rfl, by unfold PAN; rw [hv]⟩, h⟩
    · exact h.elim
  | _ => simp only [dstep] at h; exact .inl (plain h)
end
end Go.Proofs.Ytlhnncmflnjinaa.Am
