/- The abstract machine: code, loops. -/
import Derived.Test.YtlhnncmflnjinaaMl
set_option linter.unusedSimpArgs false
set_option linter.unusedVariables false
namespace Go.Proofs.Ytlhnncmflnjinaa.Am
open Go Go.RowKit

inductive SCode where
  | skip
  | reg (ops : List SOper)
  | regD (ops : List (SOper × List Nat))
  | seq (a b : SCode)
  | seqJ (live mods : List Nat) (a b : SCode)
  | cond (c : Opd) (a b : SCode)
  | block (id : Nat) (c : SCode)
  | loop (live mods : List Nat) (c : SCode)
  | scope (l : Nat) (live mods : List Nat) (c : SCode)
  | exit (id : Nat)
  | goto (l : Nat)
  | ret
/-- the slots that are told anew -/
def modsOf : SCode → List Nat
  | .reg ops => ops.filterMap (·.dst)
  | .regD ops => ops.filterMap (·.1.dst)
  | .seq a b => modsOf a ++ modsOf b
  | .seqJ _ _ a b => modsOf a ++ modsOf b
  | .cond _ a b => modsOf a ++ modsOf b
  | .block _ c => modsOf c
  | .loop _ _ c => modsOf c
  | .scope _ _ _ c => modsOf c
  | _ => []
def dedup (l : List Nat) : List Nat := l.foldr (fun x acc => if acc.contains x then acc else x :: acc) []
def rdOps : List SOper → List Nat × List Nat
  | [] => ([], [])
  | o :: l => match rdOps l with
    | (r, w) => (optmps o ++ r.filter (fun t => o.dst != some t), o.dst.toList ++ w)
/-- the slots that a region reads and does not tell itself -/
def expo : SCode → List Nat
  | .reg ops => (rdOps ops).1
  | .regD ops => (rdOps (ops.map (·.1))).1
  | .seq a b => expo a ++ expo b
  | .seqJ _ _ a b => expo a ++ expo b
  | .cond c a b => (match c with | .t i => [i] | .c _ => []) ++ (expo a ++ expo b)
  | .block _ c => expo c
  | .loop _ _ c => expo c
  | .scope _ _ _ c => expo c
  | _ => []
def liveOf (X : List Nat) (c : SCode) : List Nat := (dedup (modsOf c)).filter fun t => X.contains t
/-- on how many ways a piece ends with what follows it; those that leave block id -/
def exitsTo (id : Nat) : SCode → Nat
  | .seq a b => exitsTo id a + exitsTo id b
  | .seqJ _ _ a b => exitsTo id a + exitsTo id b
  | .cond _ a b => exitsTo id a + exitsTo id b
  | .block _ c => exitsTo id c
  | .loop _ _ c => exitsTo id c
  | .scope _ _ _ c => exitsTo id c
  | .exit i => if i = id then 1 else 0
  | _ => 0
def ends : SCode → Nat
  | .skip => 1
  | .reg _ => 1
  | .regD _ => 1
  | .seq a b => if ends a = 0 then 0 else ends b
  | .seqJ _ _ a b => if ends a = 0 then 0 else ends b
  | .cond _ a b => ends a + ends b
  | .block id c => ends c + exitsTo id c
  | .loop _ _ _ => 0
  | .scope _ _ _ c => ends c
  | _ => 0
/-- X: the slots that are kept from one region to another -/
def cmpC (P : Program) (S : Nat) (X : List Nat) : Code → Option SCode
  | .skip => some .skip
  | .region _ ops false => (cmpL P S ops ops.toList).map .reg
  | .region _ ops true => (cmpD P S ops).map .regD
  | .seq a b => match cmpC P S X a, cmpC P S X b with
    | some x, some y => if 1 < ends x then some (.seqJ (liveOf X x) (modsOf x) x y) else some (.seq x y)
    | _, _ => none
  | .cond c a b => match cmpC P S X a, cmpC P S X b with
    | some x, some y => some (.cond (cOpd c) x y)
    | _, _ => none
  | .block id c => (cmpC P S X c).map (.block id)
  | .loop c => (cmpC P S X c).map fun sc => .loop (liveOf X sc) (modsOf sc) sc
  | .scope (.seq (.label l) c) => (cmpC P S X c).map fun sc => .scope l (liveOf X sc) (modsOf sc) sc
  | .exit id => some (.exit id)
  | .goto l => some (.goto l)
  | .ret => some .ret
  | _ => none
inductive SExit where
  | normal
  | exit (id : Nat)
  | goto (l : Nat)
  | ret
  | pan (v : Value)
def SExit.conv : SExit → Exit
  | .normal => .normal
  | .exit id => .exit id
  | .goto l => .goto l
  | .ret => .ret
  | .pan v => .panic [{ v, recovered := false }]
abbrev Ks := SExit → Kn
def thenK (next : Kn) (Q : Ks) : Ks
  | .normal => next
  | .exit id => Q (.exit id)
  | .goto l => Q (.goto l)
  | .ret => Q .ret
  | .pan v => Q (.pan v)
def blockK (id : Nat) (Q : Ks) : Ks
  | .normal => Q .normal
  | .exit id' => if id' = id then Q .normal else Q (.exit id')
  | .goto l => Q (.goto l)
  | .ret => Q .ret
  | .pan v => Q (.pan v)
def gotoK (l : Nat) (next : Kn) (Q : Ks) : Ks
  | .normal => Q .normal
  | .exit id => Q (.exit id)
  | .goto l' => if l' = l then next else fun _ _ _ => False
  | .ret => Q .ret
  | .pan v => Q (.pan v)
/-- what a loop's slots and memory say may be said with less, or in other words -/
inductive Wk : List AV → Hp → Nat → List AV → Hp → Nat → Prop
  | refl (s : List AV) (σ : Hp) (n : Nat) : Wk s σ n s σ n
  | trans {s s1 s2 : List AV} {σ σ1 σ2 : Hp} {n n1 n2 : Nat} (h : Wk s σ n s1 σ1 n1) (h' : Wk s1 σ1 n1 s2 σ2 n2) : Wk s σ n s2 σ2 n2
  | less (s : List AV) (σ σ' : Hp) (n : Nat) (h : ∀ i x, σ' i = some x → ∃ y, σ i = some y ∧ Ob.le x y) : Wk s σ n s σ' n
  | more (s : List AV) (σ : Hp) (n n' : Nat) (h : n ≤ n') : Wk s σ n s σ n'
  | emp (s : List AV) (σ : Hp) (n i k : Nat) (cl : Bool) (h : s[i]? = some .em) : Wk s σ n (s.set i (.ow n k 0 0)) (upd σ n (some (.c ⟨k, [], true, cl⟩))) (n + 16)
  | nil (s : List AV) (σ : Hp) (n i : Nat) (h : s[i]? = some .em) : Wk s σ n (s.set i (.tr [])) σ n
  | any (s : List AV) (σ : Hp) (n i : Nat) : Wk s σ n (s.set i .any) σ n
  | frz (s : List AV) (σ : Hp) (n i : Nat) (v c : AV) (I : List Nat) (h : s[i]? = some v) (hb : brw σ 3 v = some (c, I)) : Wk s σ n (s.set i c) (applyW σ (frz σ I)) n
def Weak (J : List AV → Hp → Nat → Prop) (s : List AV) (σ : Hp) (n : Nat) : Prop := ∃ s' σ' n', Wk s σ n s' σ' n' ∧ n ≤ n' ∧ s'.length = s.length ∧ J s' σ' n'
theorem Weak.refl {J : List AV → Hp → Nat → Prop} {s : List AV} {σ : Hp} {n : Nat} (h : J s σ n) : Weak J s σ n := ⟨s, σ, n, .refl _ _ _, Nat.le_refl _, rfl, h⟩
def LOOP (body : (List AV → Hp → Nat → Prop) → List AV → Hp → Nat → Prop) (s : List AV) (σ : Hp) (n : Nat) : Prop :=
  ∃ I : Nat → List AV → Hp → Nat → Prop, (∃ m, Weak (I m) s σ n) ∧ ∀ m s' σ' n', n ≤ n' → s'.length = s.length → I m s' σ' n' → body (fun s σ n => ∃ m', m' < m ∧ Weak (I m') s σ n) s' σ' n'
structure JOIN (K : List AV → Hp → Nat → Prop) (F : (List AV → Hp → Nat → Prop) → Prop) : Prop where
  h : F K
def COND (c : AV) (A B : Prop) : Prop := match c with
  | .sc (.bool t) => (t = true → A) ∧ (t = false → B)
  | .bo => A ∧ B
  | _ => False
def idx (t : Nat) : List Nat → Nat → Option Nat
  | [], _ => none
  | x :: l, i => if x = t then some i else idx t l (i + 1)
def emb (fr : Regs) (live mods : List Nat) (s : List AV) : Regs := fun t => match idx t live 0 with
  | some i => s.getD i .any
  | none => if mods.contains t then .any else fr t
def swp (P : Program) : SCode → Ks → Kn
  | .skip, Q => Q .normal
  | .reg ops, Q => sops P (Q .normal) (fun v => Q (.pan v)) ops
  | .regD l, Q => fun fr σ n => dops P (Q .normal) (fun v => Q (.pan v)) l (fr, σ) n l [] none
  | .seq a b, Q => swp P a (thenK (swp P b Q) Q)
  | .seqJ live mods a b, Q => fun fr σ n => JOIN (fun s => swp P b Q (emb fr live mods s)) (fun K => swp P a (thenK (fun fr' => K (live.map fr')) Q) fr σ n)
  | .cond c a b, Q => fun fr σ n => COND (c.get fr) (swp P a Q fr σ n) (swp P b Q fr σ n)
  | .block id c, Q => swp P c (blockK id Q)
  | .loop live mods c, Q => fun fr σ n => LOOP (fun K s => swp P c (thenK (fun fr' => K (live.map fr')) Q) (emb fr live mods s)) (live.map fr) σ n
  | .scope l live mods c, Q => fun fr σ n => LOOP (fun K s => swp P c (gotoK l (fun fr' => K (live.map fr')) Q) (emb fr live mods s)) (live.map fr) σ n
  | .exit id, Q => Q (.exit id)
  | .goto l, Q => Q (.goto l)
  | .ret, Q => Q .ret

/-! slots that a piece of code does not tell anew -/
def Keep (M : List Nat) (fr0 : Regs) (K : Kn) : Kn := fun fr σ n => K fr σ n ∧ ∀ t, t ∉ M → fr t = fr0 t
def KeepS (M : List Nat) (fr0 : Regs) (Q : Ks) : Ks := fun e => match e with
  | .pan v => Q (.pan v)
  | e => Keep M fr0 (Q e)
end Go.Proofs.Ytlhnncmflnjinaa.Am
