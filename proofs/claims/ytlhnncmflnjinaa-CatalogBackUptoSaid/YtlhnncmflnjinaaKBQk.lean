/- Packed by a program of this repo: Qk. -/
import Derived.Test.YtlhnncmflnjinaaKBQi
set_option linter.unusedSimpArgs false
set_option linter.unusedVariables false
set_option maxRecDepth 100000
namespace Go.Proofs.Ytlhnncmflnjinaa
open Go Go.RowKit Am
/-! what the program makes of catalogs -/
def twG (cs : List Cl) : Nat → List Cl → Bool
  | _, [] => false
  | i, c :: r => if (colF cs c.name).1 ≠ (i : Int) then true else twG cs (i + 1) r
def notNullAt (cs : List Cl) (k : Int) : List Cl := match cs[k.toNat]? with
  | some c => cs.set k.toNat { c with notNull := true }
  | none => cs
def createF (ts : List Tb) (x : Sm) : List Tb × Int :=
  if catCheckF ts ≠ 0 then ([], catCheckF ts)
  else if x.kind ≠ 1 ∨ checkF x ≠ 0 then ([], 1)
  else if tis_ ts x.table = true then ([], 6)
  else if twG x.columns 0 x.columns = true then ([], 6)
  else if (colF x.columns x.key).2 ≠ 0 then ([], (colF x.columns x.key).2)
  else if (ts.length : Int) = 8 then ([], 51)
  else (ts.take (tpl_ ts x.table) ++ [⟨x.table, notNullAt x.columns (colF x.columns x.key).1, (colF x.columns x.key).1, []⟩] ++ ts.drop (tpl_ ts x.table), 0)
/-! laws -/
def ixn (ts : List Tb) : List Tx := ts.flatMap fun t => t.indexes.map (·.name)
/-- a catalog that may be -/
structure CatOk (ts : List Tb) : Prop where
  len : ts.length ≤ 8
  may : ∀ t ∈ ts, mayF t = true
  rise : ts.Pairwise (fun a b => a.name < b.name)
  ixs : (ixn ts).Nodup
/-! columns -/
theorem colF_find {cs : List Cl} {x : Tx} (h : (colF cs x).2 = 0) : ∃ c, cs[(colF cs x).1.toNat]? = some c ∧ c.name = x ∧ 0 ≤ (colF cs x).1 ∧ (colF cs x).1 < cs.length := by
  unfold colF at h ⊢
  split at h
  · simp at h
  · rename_i h1
    rw [if_neg h1]
    simp only
    unfold ixL at h1 ⊢
    by_cases ha : cs.any (fun c => decide (c.name = x)) = true
    · rw [if_pos ha]
      obtain ⟨c, hc, hq⟩ := List.any_eq_true.1 ha
      have hlt := List.findIdx_lt_length_of_exists (xs := cs) (p := fun c => decide (c.name = x)) ⟨c, hc, hq⟩
      refine ⟨cs[cs.findIdx (fun c => decide (c.name = x))], by simp [hlt], ?_, by omega, by omega⟩
      have := List.findIdx_getElem (xs := cs) (p := fun c => decide (c.name = x)) (w := hlt)
      simpa using this
    · rw [if_neg ha] at h1; omega
theorem notNull_names (cs : List Cl) (k : Int) : (notNullAt cs k).map (·.name) = cs.map (·.name) := by
  unfold notNullAt
  split
  · rename_i c hc
    obtain ⟨hk, rfl⟩ := List.getElem?_eq_some_iff.1 hc
    rw [List.map_set]
    refine List.ext_getElem (by simp) fun i h1 h2 => ?_
    rw [List.getElem_set]
    split
    · rename_i e; subst e; simp
    · rfl
  · rfl
theorem notNull_len (cs : List Cl) (k : Int) : (notNullAt cs k).length = cs.length := by
  have := congrArg List.length (notNull_names cs k)
  simpa using this
/-- what a statement that may be says of the table that it makes -/
structure MkOk (x : Sm) : Prop where
  name : nameL x.table = true
  one : 1 ≤ x.columns.length
  few : x.columns.length ≤ 8
  cols : ∀ c ∈ x.columns, colBad c = false
/-! what a statement that may be says -/
theorem shape_of {x : Sm} (hc : checkF x = 0) : shapeF x = true := by
  unfold checkF at hc
  split at hc
  · omega
  · split at hc
    · omega
    · rename_i h; simpa using h
/-! how large -/
end Go.Proofs.Ytlhnncmflnjinaa
