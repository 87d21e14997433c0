/- Packed by a program of this repo: Pb. -/
import Derived.Test.YtlhnncmflnjinaaKCPa
import Derived.Test.YtlhnncmflnjinaaKCDd
import Derived.Test.YtlhnncmflnjinaaKCMo
import Derived.Test.YtlhnncmflnjinaaKCGbR
set_option linter.unusedSimpArgs false
set_option linter.unusedVariables false
set_option maxRecDepth 100000
namespace Go.Proofs.Ytlhnncmflnjinaa
open Go Go.RowKit Am
attribute [-go_sem] guardP_if guardK_if guardD_if COND_bool
attribute [local go_sem low] guardP_if guardK_if guardD_if COND_bool

abbrev encR (r : Rw) : List AV := [.tr (r.map encV)]
/-- the halving's middle -/
theorem mid_eq {a b : Nat} (h : a + b ≤ 9223372036854775807) : IntKind.i64.wrap ((IntKind.u64.wrap ((a : Int) + b)).fdiv (2 ^ (min 1 64))) = ((a + b) / 2 : Nat) := by
  have e2 : IntKind.u64.wrap ((a : Int) + b) = ((a + b : Nat) : Int) := by rw [wrapU (by unfold rng; omega), if_pos (by omega)]; omega
  have e3 : (((a + b : Nat) : Int)).fdiv (2 ^ (min 1 64)) = ((a + b) / 2 : Nat) := by
    have : (2 : Int) ^ (min 1 64) = 2 := by decide
    rw [this, Int.fdiv_eq_ediv_of_nonneg _ (by decide)]
    omega
  rw [e2, e3, wrapI (by omega) (by omega)]
end Go.Proofs.Ytlhnncmflnjinaa
set_option maxRecDepth 100000
namespace Go.Proofs.Ytlhnncmflnjinaa
open Go Go.RowKit Am
attribute [-go_sem] guardP_if guardK_if guardD_if COND_bool
attribute [local go_sem low] guardP_if guardK_if guardD_if COND_bool

theorem all3 (r : Rw) : ((r.map encV).all fun x => x.length == 3) = true := by rw [List.all_eq_true]; intro x hx; obtain ⟨v, _, rfl⟩ := List.mem_map.1 hx; rfl
theorem allL (r : Rw) : ((r.map encV).all fun x => x.all leafok) = true := by rw [List.all_eq_true]; intro x hx; obtain ⟨v, _, rfl⟩ := List.mem_map.1 hx; rfl
theorem allR1 (l : List Rw) : ((l.map encR).all fun x => x.length == 1) = true := by rw [List.all_eq_true]; intro x hx; obtain ⟨v, _, rfl⟩ := List.mem_map.1 hx; rfl
theorem allRL (l : List Rw) : ((l.map encR).all fun x => x.all leafok) = true := by rw [List.all_eq_true]; intro x hx; obtain ⟨v, _, rfl⟩ := List.mem_map.1 hx; rfl
attribute [go_sem] all3 allL allR1 allRL
theorem len3 (v : Vl) : ((encV v).length == 3) = true := rfl
theorem len1 (r : Rw) : ((encR r).length == 1) = true := rfl
attribute [go_sem] len3 len1
theorem encR_leaf (r : Rw) : (encR r).all leafok = true := rfl
attribute [go_sem] encR_leaf
theorem set_same {α β : Type} {f : α → β} {l : List α} {i : Nat} {r : α} (h : l[i]? = some r) : (l.map f).set i (f r) = l.map f := by
  have hi := (List.getElem?_eq_some_iff.1 h).1
  apply List.ext_getElem?
  intro j
  rw [List.getElem?_set]
  split
  · rename_i e
    subst e
    have e2 : l[i] = r := by rw [List.getElem?_eq_getElem hi] at h; exact Option.some.inj h
    simp [hi, e2]
  · rfl
end Go.Proofs.Ytlhnncmflnjinaa
set_option maxRecDepth 100000
namespace Go.Proofs.Ytlhnncmflnjinaa
open Go Go.RowKit Am
attribute [-go_sem] guardP_if guardK_if guardD_if COND_bool
attribute [local go_sem low] guardP_if guardK_if guardD_if COND_bool

theorem callD_conW {P : Program} {g : FuncId} {caps args : List AV} {pre : List (Nat × Ob)} {r : AEnd} {wr : Wr} {σ : Hp} {id : Nat} {K : AEnd → Wr → List Nat → Prop} (h : ConW P g (args ++ caps) pre id r wr) (hp : ∀ p ∈ pre, σ p.1 = some p.2)
    (hk : K r wr (pre.map (·.1))) : callD P (.fn g caps) args σ id K := .w ⟨pre, r, wr, hp, h, hk⟩
/-- rows on their way -/
structure TM (t : Tb) (b i : Nat) (l : List Rw) (σ : Hp) : Prop where
  ne : b ≠ i
  box : σ b = some (.c ⟨5, [[.s t.name, .tr (t.columns.map encC), .sc (.int .i64 t.key), .tr (t.indexes.map encX), .ow i 1 0 l.length]], true, false⟩)
  own : σ i = some (.c ⟨1, l.map encR, true, true⟩)
/-- a table's key stands in its columns, which are few -/
structure KOk (t : Tb) : Prop where
  k0 : 0 ≤ t.key
  k1 : t.key < t.columns.length
  cl : t.columns.length ≤ 1048576
theorem takeR (l : List Rw) : (l.map encR).take l.length = l.map encR := List.take_of_length_le (by simp)
attribute [go_sem] takeR
end Go.Proofs.Ytlhnncmflnjinaa
set_option maxRecDepth 100000
namespace Go.Proofs.Ytlhnncmflnjinaa
open Go Go.RowKit Am
attribute [-go_sem] guardP_if guardK_if guardD_if COND_bool
attribute [local go_sem low] guardP_if guardK_if guardD_if COND_bool

theorem CALL_conH {P : Program} {g : FuncId} {caps args : List AV} {R : AEnd → Hp → Nat → Prop} {σ : Hp} {n : Nat} {K : AEnd → Hp → Nat → Prop} (h : ConH P g (args ++ caps) σ n R) (hk : ∀ r σ' n', R r σ' n' → n ≤ n' → K r σ' n') : CALL P (.fn g caps) args σ n K := .h ⟨R, h, hk⟩
end Go.Proofs.Ytlhnncmflnjinaa
