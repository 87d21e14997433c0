/- Packed by a program of this repo: De. -/
import Derived.Test.YtodoejfkjimeaaaDoorKEDd
set_option linter.unusedSimpArgs false
set_option linter.unusedVariables false
set_option maxRecDepth 100000
namespace Go.Proofs.YtodoejfkjimeaaaDoor
open Go Go.RowKit Am

theorem brw_all {σ : Hp} {d i k len : Nat} {rows : List (List AV)} {w : Bool} (h : σ i = some (.c ⟨k, rows, w, true⟩)) (hl : rows.length = len) (hk : 0 < k) : brw σ (d + 1) (.ow i k 0 len) = some (.tr rows, [i]) := by
  subst hl
  rw [brw_ow', h]
  simp only
  rw [if_pos ⟨trivial, trivial, by omega, hk⟩, List.drop_zero, List.take_of_length_le (Nat.le_refl _)]
theorem encX_len (x : Ix) : (encX x).length = 2 := rfl
theorem encC_all (l : List Cl) : ((l.map encC).all fun r => r.length == 3) = true := all_enc encC 3 encC_len l
theorem encX_all (l : List Ix) : ((l.map encX).all fun r => r.length == 2) = true := all_enc encX 2 encX_len l
theorem encT_all (l : List Tb) : ((l.map encT).all fun r => r.length == 4) = true := all_enc encT 4 encT_len l
theorem encC_leafs (l : List Cl) : ((l.map encC).all fun r => r.all leafok) = true := by simp [encC, leafok]
theorem encX_leafs (l : List Ix) : ((l.map encX).all fun r => r.all leafok) = true := by simp [encX, leafok]
theorem encC_leaf (c : Cl) : (encC c).all leafok = true := rfl
theorem encX_leaf (x : Ix) : (encX x).all leafok = true := rfl
theorem encX_clo (x : Ix) : (encX x).all clo = true := rfl
theorem encX_take (x : Ix) : (encX x).take 2 = encX x := rfl
theorem encX_drop (x : Ix) : (encX x).drop 2 = [] := rfl
theorem encC_drop (x : Cl) : (encC x).drop 3 = [] := rfl
theorem encC_take (x : Cl) : (encC x).take 3 = encC x := rfl
theorem encT_take (x : Tb) : (encT x).take 4 = encT x := rfl
theorem encT_drop (x : Tb) : (encT x).drop 4 = [] := rfl
attribute [go_sem] encX_take encX_drop encC_take encC_drop encT_take encT_drop
theorem encT_leafs (l : List Tb) : ((l.map encT).all fun r => r.all leafok) = true := by simp [encT, leafok]
theorem encT_leaf (t : Tb) : (encT t).all leafok = true := rfl
theorem encT_clo (t : Tb) : (encT t).all clo = true := rfl
theorem encT_brw (σ : Hp) (d : Nat) (t : Tb) : brwL σ d (encT t) = some (encT t, []) := by
  simp only [brwL_cons, brwL_nil, brw_sc, brw_tr, encT, brw_s, List.append_nil]
theorem encX_brw (σ : Hp) (d : Nat) (x : Ix) : brwL σ d (encX x) = some (encX x, []) := by
  simp only [brwL_cons, brwL_nil, brw_sc, encX, brw_s, List.append_nil]
attribute [go_sem] encC_leaf encX_leaf encX_clo encX_len encC_all encX_all encT_all encC_leafs encX_leafs encT_leafs encT_leaf encT_clo encT_brw encX_brw
/-- tables that are not too long -/
structure TBd (t : Tb) : Prop where
  col : t.columns.length ≤ 1048576
  ind : t.indexes.length ≤ 1048576
end Go.Proofs.YtodoejfkjimeaaaDoor
