/- Packed by a program of this repo: Pa. -/
import Derived.Test.YtlhnncmflnjinaaKCFb
import Derived.Sort.Walk0
set_option linter.unusedSimpArgs false
set_option linter.unusedVariables false
set_option maxRecDepth 100000
namespace Go.Proofs.Ytlhnncmflnjinaa
open Go Go.RowKit Am

/-! values in order -/
theorem cmpS_neg {a b : Tx} : cmpS a b < 0 ↔ a < b := by
  unfold cmpS; rw [bytesLess_eq]
  by_cases h : a < b
  · simp [h]
  · by_cases e : a = b
    · subst e; simp [h]
    · simp [h, e]
theorem cmpS_zero {a b : Tx} : cmpS a b = 0 ↔ a = b := by
  unfold cmpS; rw [bytesLess_eq]
  by_cases h : a < b
  · have : a ≠ b := fun e => by subst e; exact List.lt_irrefl _ h
    simp [h, this]
  · by_cases e : a = b <;> simp [h, e]
/-- what counts of a value -/
def okey (v : Vl) : Int × Int × Tx := (v.kind, (if v.kind = 1 ∨ v.kind = 2 then v.n else 0), (if v.kind = 3 then v.text else []))
def klt (a b : Int × Int × Tx) : Prop := a.1 < b.1 ∨ a.1 = b.1 ∧ (a.2.1 < b.2.1 ∨ a.2.1 = b.2.1 ∧ a.2.2 < b.2.2)
/-! the halving -/
def bsL (less : Nat → Bool) : Nat → Nat → Nat → Nat
  | 0, lo, _ => lo
  | f + 1, lo, hi => if lo < hi then (if less ((lo + hi) / 2) = true then bsL less f ((lo + hi) / 2 + 1) hi else bsL less f lo ((lo + hi) / 2)) else lo
theorem bsL_le (less : Nat → Bool) : ∀ (f lo hi : Nat), lo ≤ hi → bsL less f lo hi ≤ hi
  | 0, lo, hi, h => h
  | f + 1, lo, hi, h => by
    unfold bsL
    split
    · split
      · exact bsL_le less f _ _ (by omega)
      · exact Nat.le_trans (bsL_le less f _ _ (by omega)) (by omega)
    · exact h

/-! rows -/
abbrev Rw := List Vl
instance : Inhabited Vl := ⟨⟨0, 0, []⟩⟩
def kv (k : Nat) (r : Rw) : Vl := r.getD k default
/-- where a key stands, or would -/
def at_ (k : Nat) (l : List Rw) (x : Vl) : Nat := bsL (fun t => decide (orderF (kv k (l.getD t [])) x < 0)) l.length 0 l.length
/-- the keys rise -/
def Rise (k : Nat) (l : List Rw) : Prop := l.Pairwise fun a b => klt (okey (kv k a)) (okey (kv k b))
/-! what the program makes of rows -/
/-- rows that may be -/
structure Okr (t : Tb) (l : List Rw) : Prop where
  len : l.length ≤ 256
  may : mayF t = true
  fit : ∀ r ∈ l, fitsF t.columns r = 0
  rise : Rise t.key.toNat l
end Go.Proofs.Ytlhnncmflnjinaa
