/- Packed by a program of this repo: Uo Kw Dj Ua Vf. -/
import Derived.Test.YtodoejfkjimeaaaDoorKRUe
import Derived.Test.YtodoejfkjimeaaaDoorKRQa
import Derived.Test.YtodoejfkjimeaaaDoorKRLxPlain
import Derived.Lib.IndexAny
import Derived.Test.YtodoejfkjimeaaaDoorKRVb
import Derived.Test.YtodoejfkjimeaaaDoorKRCx
import Derived.Test.YtodoejfkjimeaaaDoorKRCa
import Derived.Test.YtodoejfkjimeaaaDoorKRQf
set_option linter.unusedSimpArgs false
set_option linter.unusedVariables false
set_option maxRecDepth 100000
namespace Go.Proofs.YtodoejfkjimeaaaDoor
open Go Go.RowKit Am Go.ChangeShapes Go.WideShapes Go.ChangeAt
attribute [-go_sem] guardP_if guardK_if guardD_if COND_bool
attribute [local go_sem low] guardP_if guardK_if guardD_if COND_bool

instance : Inhabited Se := ⟨⟨[], .zero⟩⟩
instance : Inhabited Od := ⟨⟨0, false⟩⟩
theorem opens_Exprs (n : Nat) : Opens 24 1 encRx (fun l : List Ep => l.length ≤ 1048576 ∧ ∀ a ∈ l, BdRg a) n :=
  opens_slice Tryd.underlying24 cols_E (by omega) n (fun m _ => opens_Expr m)
structure SRg (x : Sm) : Prop where
  row : ∀ l ∈ x.rows, ∀ e ∈ l, Rg e
  set : ∀ s ∈ x.sets, Rg s.ex
  items : ∀ e ∈ x.items, Rg e
  on : ∀ e ∈ x.on, Rg e
  where_ : ∀ e ∈ x.where_, Rg e
  group : ∀ e ∈ x.group, Rg e
  order : ∀ o ∈ x.order, rng o.n
  limit : rng x.limit
theorem LBd.of {l : List Ep} (h : l.length ≤ 1048576 ∧ ∀ a ∈ l, BdRg a) : LBd l := ⟨h.1, fun e he => (h.2 e he).1⟩
theorem opens_Order (n : Nat) : Opens 75 2 encO (fun x : Od => rng x.n) n := by
  intro H enc W cs x h hb
  obtain ⟨xs, m, rfl, rfl, hl, hlen, hf⟩ := DataW.trod_struct Tryd.underlying75 h
  have hc : Tryd.prog.cellsOf 75 = 2 := by kernel_rfl
  rw [hc] at hl
  simp only [Rows.uptoBulk] at hb
  match cs, hl, xs, hlen, hf, hb with
  | [c0, c1], _, [y0, y1], _, hf, hb =>
    simp only [List.map_cons, List.map_nil, Rows.uptoBulkAll] at hb
    have z0 : Tryd.prog.cellsOf 3 = 1 := by kernel_rfl
    have f0 : DataW.trod enc Tryd.prog W 0 (fun _ => true) true m 3 [c0] = some y0 := by have this : DataW.trod enc Tryd.prog W 0 (fun _ => true) true m 3 (([c0, c1].drop 0).take (Tryd.prog.cellsOf 3)) = some y0 := hf 0 _ rfl; rw [z0] at this; exact this
    obtain ⟨a0, b0, _, _, r0⟩ := opens_int m enc W _ _ f0 (by omega)
    have z1 : Tryd.prog.cellsOf 4 = 1 := by kernel_rfl
    have f1 : DataW.trod enc Tryd.prog W 0 (fun _ => true) true m 4 [c1] = some y1 := by have this : DataW.trod enc Tryd.prog W 0 (fun _ => true) true m 4 (([c0, c1].drop 1).take (Tryd.prog.cellsOf 4)) = some y1 := hf 1 _ rfl; rw [z1] at this; exact this
    obtain ⟨a1, b1, _, _, r1⟩ := opens_bool m enc W _ _ f1 (by omega)
    refine ⟨⟨a0, a1⟩, b0, rfl, rfl, ?_⟩
    intro i u v h1 h2
    match i, h1, h2 with
    | 0, h1, h2 => exact r0 0 u v h1 h2
    | 1, h1, h2 => exact r1 0 u v h1 h2
    | i + 2, h1, h2 => cases h1
theorem opens_Set (n : Nat) : Opens 67 8 encS (fun x : Se => x.name.length ≤ 1048576 ∧ BdRg x.ex) n := by
  intro H enc W cs x h hb
  obtain ⟨xs, m, rfl, rfl, hl, hlen, hf⟩ := DataW.trod_struct Tryd.underlying67 h
  have hc : Tryd.prog.cellsOf 67 = 8 := by kernel_rfl
  rw [hc] at hl
  simp only [Rows.uptoBulk] at hb
  match cs, hl, xs, hlen, hf, hb with
  | [c0, c1, c2, c3, c4, c5, c6, c7], _, [y0, y1], _, hf, hb =>
    simp only [List.map_cons, List.map_nil, Rows.uptoBulkAll] at hb
    have z0 : Tryd.prog.cellsOf 9 = 1 := by kernel_rfl
    have f0 : DataW.trod enc Tryd.prog W 0 (fun _ => true) true m 9 [c0] = some y0 := by have this : DataW.trod enc Tryd.prog W 0 (fun _ => true) true m 9 (([c0, c1, c2, c3, c4, c5, c6, c7].drop 0).take (Tryd.prog.cellsOf 9)) = some y0 := hf 0 _ rfl; rw [z0] at this; exact this
    obtain ⟨a0, b0, _, _, r0⟩ := opens_str m enc W _ _ f0 (by omega)
    have z1 : Tryd.prog.cellsOf 26 = 7 := by kernel_rfl
    have f1 : DataW.trod enc Tryd.prog W 0 (fun _ => true) true m 26 [c1, c2, c3, c4, c5, c6, c7] = some y1 := by have this : DataW.trod enc Tryd.prog W 0 (fun _ => true) true m 26 (([c0, c1, c2, c3, c4, c5, c6, c7].drop 1).take (Tryd.prog.cellsOf 26)) = some y1 := hf 1 _ rfl; rw [z1] at this; exact this
    obtain ⟨a1, b1, _, _, r1⟩ := opens_Expr m enc W _ _ f1 (by omega)
    refine ⟨⟨a0, a1⟩, ⟨b0, b1⟩, rfl, encS_len _, ?_⟩
    intro i u v h1 h2
    rw [encS] at h2
    match i, h1, h2 with
    | 0, h1, h2 => exact r0 0 u v h1 h2
    | 1, h1, h2 => exact r1 0 u v h1 h2
    | 2, h1, h2 => exact r1 1 u v h1 h2
    | 3, h1, h2 => exact r1 2 u v h1 h2
    | 4, h1, h2 => exact r1 3 u v h1 h2
    | 5, h1, h2 => exact r1 4 u v h1 h2
    | 6, h1, h2 => exact r1 5 u v h1 h2
    | 7, h1, h2 => exact r1 6 u v h1 h2
    | i + 8, h1, h2 => cases h1
theorem cols_S : Tryd.prog.cellsOf 67 = 8 := by kernel_rfl
theorem cols_O : Tryd.prog.cellsOf 75 = 2 := by kernel_rfl
theorem cols_Es : Tryd.prog.cellsOf 24 = 1 := by kernel_rfl
theorem opens_Stmt (n : Nat) : Opens 44 14 encSm (fun x : Sm => SBd x ∧ SRg x) n := by
  intro H enc W cs x h hb
  obtain ⟨xs, m, rfl, rfl, hl, hlen, hf⟩ := DataW.trod_struct Tryd.underlying44 h
  have hc : Tryd.prog.cellsOf 44 = 14 := by kernel_rfl
  rw [hc] at hl
  simp only [Rows.uptoBulk] at hb
  match cs, hl, xs, hlen, hf, hb with
  | [c0, c1, c2, c3, c4, c5, c6, c7, c8, c9, c10, c11, c12, c13], _, [y0, y1, y2, y3, y4, y5, y6, y7, y8, y9, y10, y11, y12, y13], _, hf, hb =>
    simp only [List.map_cons, List.map_nil, Rows.uptoBulkAll] at hb
    have z0 : Tryd.prog.cellsOf 3 = 1 := by kernel_rfl
    have f0 : DataW.trod enc Tryd.prog W 0 (fun _ => true) true m 3 [c0] = some y0 := by have this : DataW.trod enc Tryd.prog W 0 (fun _ => true) true m 3 (([c0, c1, c2, c3, c4, c5, c6, c7, c8, c9, c10, c11, c12, c13].drop 0).take (Tryd.prog.cellsOf 3)) = some y0 := hf 0 _ rfl; rw [z0] at this; exact this
    obtain ⟨a0, b0, _, _, r0⟩ := opens_int m enc W _ _ f0 (by omega)
    have z1 : Tryd.prog.cellsOf 9 = 1 := by kernel_rfl
    have f1 : DataW.trod enc Tryd.prog W 0 (fun _ => true) true m 9 [c1] = some y1 := by have this : DataW.trod enc Tryd.prog W 0 (fun _ => true) true m 9 (([c0, c1, c2, c3, c4, c5, c6, c7, c8, c9, c10, c11, c12, c13].drop 1).take (Tryd.prog.cellsOf 9)) = some y1 := hf 1 _ rfl; rw [z1] at this; exact this
    obtain ⟨a1, b1, _, _, r1⟩ := opens_str m enc W _ _ f1 (by omega)
    have z2 : Tryd.prog.cellsOf 39 = 1 := by kernel_rfl
    have f2 : DataW.trod enc Tryd.prog W 0 (fun _ => true) true m 39 [c2] = some y2 := by have this : DataW.trod enc Tryd.prog W 0 (fun _ => true) true m 39 (([c0, c1, c2, c3, c4, c5, c6, c7, c8, c9, c10, c11, c12, c13].drop 2).take (Tryd.prog.cellsOf 39)) = some y2 := hf 2 _ rfl; rw [z2] at this; exact this
    obtain ⟨a2, b2, _, _, r2⟩ := opens_slice Tryd.underlying39 cols_C (by omega) m (fun m _ => opens_Column m) enc W _ _ f2 (by omega)
    have z3 : Tryd.prog.cellsOf 9 = 1 := by kernel_rfl
    have f3 : DataW.trod enc Tryd.prog W 0 (fun _ => true) true m 9 [c3] = some y3 := by have this : DataW.trod enc Tryd.prog W 0 (fun _ => true) true m 9 (([c0, c1, c2, c3, c4, c5, c6, c7, c8, c9, c10, c11, c12, c13].drop 3).take (Tryd.prog.cellsOf 9)) = some y3 := hf 3 _ rfl; rw [z3] at this; exact this
    obtain ⟨a3, b3, _, _, r3⟩ := opens_str m enc W _ _ f3 (by omega)
    have z4 : Tryd.prog.cellsOf 9 = 1 := by kernel_rfl
    have f4 : DataW.trod enc Tryd.prog W 0 (fun _ => true) true m 9 [c4] = some y4 := by have this : DataW.trod enc Tryd.prog W 0 (fun _ => true) true m 9 (([c0, c1, c2, c3, c4, c5, c6, c7, c8, c9, c10, c11, c12, c13].drop 4).take (Tryd.prog.cellsOf 9)) = some y4 := hf 4 _ rfl; rw [z4] at this; exact this
    obtain ⟨a4, b4, _, _, r4⟩ := opens_str m enc W _ _ f4 (by omega)
    have z5 : Tryd.prog.cellsOf 40 = 1 := by kernel_rfl
    have f5 : DataW.trod enc Tryd.prog W 0 (fun _ => true) true m 40 [c5] = some y5 := by have this : DataW.trod enc Tryd.prog W 0 (fun _ => true) true m 40 (([c0, c1, c2, c3, c4, c5, c6, c7, c8, c9, c10, c11, c12, c13].drop 5).take (Tryd.prog.cellsOf 40)) = some y5 := hf 5 _ rfl; rw [z5] at this; exact this
    obtain ⟨a5, b5, _, _, r5⟩ := opens_slice Tryd.underlying40 cols_Es (by omega) m (fun m _ => opens_Exprs m) enc W _ _ f5 (by omega)
    have z6 : Tryd.prog.cellsOf 41 = 1 := by kernel_rfl
    have f6 : DataW.trod enc Tryd.prog W 0 (fun _ => true) true m 41 [c6] = some y6 := by have this : DataW.trod enc Tryd.prog W 0 (fun _ => true) true m 41 (([c0, c1, c2, c3, c4, c5, c6, c7, c8, c9, c10, c11, c12, c13].drop 6).take (Tryd.prog.cellsOf 41)) = some y6 := hf 6 _ rfl; rw [z6] at this; exact this
    obtain ⟨a6, b6, _, _, r6⟩ := opens_slice Tryd.underlying41 cols_S (by omega) m (fun m _ => opens_Set m) enc W _ _ f6 (by omega)
    have z7 : Tryd.prog.cellsOf 24 = 1 := by kernel_rfl
    have f7 : DataW.trod enc Tryd.prog W 0 (fun _ => true) true m 24 [c7] = some y7 := by have this : DataW.trod enc Tryd.prog W 0 (fun _ => true) true m 24 (([c0, c1, c2, c3, c4, c5, c6, c7, c8, c9, c10, c11, c12, c13].drop 7).take (Tryd.prog.cellsOf 24)) = some y7 := hf 7 _ rfl; rw [z7] at this; exact this
    obtain ⟨a7, b7, _, _, r7⟩ := opens_Exprs m enc W _ _ f7 (by omega)
    have z8 : Tryd.prog.cellsOf 9 = 1 := by kernel_rfl
    have f8 : DataW.trod enc Tryd.prog W 0 (fun _ => true) true m 9 [c8] = some y8 := by have this : DataW.trod enc Tryd.prog W 0 (fun _ => true) true m 9 (([c0, c1, c2, c3, c4, c5, c6, c7, c8, c9, c10, c11, c12, c13].drop 8).take (Tryd.prog.cellsOf 9)) = some y8 := hf 8 _ rfl; rw [z8] at this; exact this
    obtain ⟨a8, b8, _, _, r8⟩ := opens_str m enc W _ _ f8 (by omega)
    have z9 : Tryd.prog.cellsOf 24 = 1 := by kernel_rfl
    have f9 : DataW.trod enc Tryd.prog W 0 (fun _ => true) true m 24 [c9] = some y9 := by have this : DataW.trod enc Tryd.prog W 0 (fun _ => true) true m 24 (([c0, c1, c2, c3, c4, c5, c6, c7, c8, c9, c10, c11, c12, c13].drop 9).take (Tryd.prog.cellsOf 24)) = some y9 := hf 9 _ rfl; rw [z9] at this; exact this
    obtain ⟨a9, b9, _, _, r9⟩ := opens_Exprs m enc W _ _ f9 (by omega)
    have z10 : Tryd.prog.cellsOf 24 = 1 := by kernel_rfl
    have f10 : DataW.trod enc Tryd.prog W 0 (fun _ => true) true m 24 [c10] = some y10 := by have this : DataW.trod enc Tryd.prog W 0 (fun _ => true) true m 24 (([c0, c1, c2, c3, c4, c5, c6, c7, c8, c9, c10, c11, c12, c13].drop 10).take (Tryd.prog.cellsOf 24)) = some y10 := hf 10 _ rfl; rw [z10] at this; exact this
    obtain ⟨a10, b10, _, _, r10⟩ := opens_Exprs m enc W _ _ f10 (by omega)
    have z11 : Tryd.prog.cellsOf 24 = 1 := by kernel_rfl
    have f11 : DataW.trod enc Tryd.prog W 0 (fun _ => true) true m 24 [c11] = some y11 := by have this : DataW.trod enc Tryd.prog W 0 (fun _ => true) true m 24 (([c0, c1, c2, c3, c4, c5, c6, c7, c8, c9, c10, c11, c12, c13].drop 11).take (Tryd.prog.cellsOf 24)) = some y11 := hf 11 _ rfl; rw [z11] at this; exact this
    obtain ⟨a11, b11, _, _, r11⟩ := opens_Exprs m enc W _ _ f11 (by omega)
    have z12 : Tryd.prog.cellsOf 42 = 1 := by kernel_rfl
    have f12 : DataW.trod enc Tryd.prog W 0 (fun _ => true) true m 42 [c12] = some y12 := by have this : DataW.trod enc Tryd.prog W 0 (fun _ => true) true m 42 (([c0, c1, c2, c3, c4, c5, c6, c7, c8, c9, c10, c11, c12, c13].drop 12).take (Tryd.prog.cellsOf 42)) = some y12 := hf 12 _ rfl; rw [z12] at this; exact this
    obtain ⟨a12, b12, _, _, r12⟩ := opens_slice Tryd.underlying42 cols_O (by omega) m (fun m _ => opens_Order m) enc W _ _ f12 (by omega)
    have z13 : Tryd.prog.cellsOf 3 = 1 := by kernel_rfl
    have f13 : DataW.trod enc Tryd.prog W 0 (fun _ => true) true m 3 [c13] = some y13 := by have this : DataW.trod enc Tryd.prog W 0 (fun _ => true) true m 3 (([c0, c1, c2, c3, c4, c5, c6, c7, c8, c9, c10, c11, c12, c13].drop 13).take (Tryd.prog.cellsOf 3)) = some y13 := hf 13 _ rfl; rw [z13] at this; exact this
    obtain ⟨a13, b13, _, _, r13⟩ := opens_int m enc W _ _ f13 (by omega)
    refine ⟨⟨a0, a1, a2, a3, a4, a5, a6, a7, a8, a9, a10, a11, a12, a13⟩, ⟨⟨b1, b3, b4, b8, b2.1, b2.2, b5.1, fun l hl => LBd.of (b5.2 l hl), b6.1, fun s hs => ⟨(b6.2 s hs).1, (b6.2 s hs).2.1⟩, LBd.of b7, LBd.of b9, LBd.of b10, LBd.of b11, b12.1⟩, ⟨fun l hl e he => ((b5.2 l hl).2 e he).2, fun s hs => (b6.2 s hs).2.2, fun e he => (b7.2 e he).2, fun e he => (b9.2 e he).2, fun e he => (b10.2 e he).2, fun e he => (b11.2 e he).2, b12.2, b13⟩⟩, rfl, rfl, ?_⟩
    intro i u v h1 h2
    match i, h1, h2 with
    | 0, h1, h2 => exact r0 0 u v h1 h2
    | 1, h1, h2 => exact r1 0 u v h1 h2
    | 2, h1, h2 => exact r2 0 u v h1 h2
    | 3, h1, h2 => exact r3 0 u v h1 h2
    | 4, h1, h2 => exact r4 0 u v h1 h2
    | 5, h1, h2 => exact r5 0 u v h1 h2
    | 6, h1, h2 => exact r6 0 u v h1 h2
    | 7, h1, h2 => exact r7 0 u v h1 h2
    | 8, h1, h2 => exact r8 0 u v h1 h2
    | 9, h1, h2 => exact r9 0 u v h1 h2
    | 10, h1, h2 => exact r10 0 u v h1 h2
    | 11, h1, h2 => exact r11 0 u v h1 h2
    | 12, h1, h2 => exact r12 0 u v h1 h2
    | 13, h1, h2 => exact r13 0 u v h1 h2
    | i + 14, h1, h2 => cases h1
end Go.Proofs.YtodoejfkjimeaaaDoor

set_option linter.unusedSimpArgs false
set_option linter.unusedVariables false
set_option maxRecDepth 100000
namespace Go.Proofs.YtodoejfkjimeaaaDoor
open Go Go.RowKit

end Go.Proofs.YtodoejfkjimeaaaDoor

set_option linter.unusedSimpArgs false
set_option linter.unusedVariables false
set_option maxRecDepth 100000
namespace Go.Proofs.YtodoejfkjimeaaaDoor
open Go Go.RowKit Am

end Go.Proofs.YtodoejfkjimeaaaDoor
set_option maxRecDepth 100000
namespace Go.Proofs.YtodoejfkjimeaaaDoor
open Go Go.RowKit Am

end Go.Proofs.YtodoejfkjimeaaaDoor
set_option maxRecDepth 100000
namespace Go.Proofs.YtodoejfkjimeaaaDoor
open Go Go.RowKit Am

end Go.Proofs.YtodoejfkjimeaaaDoor
set_option maxRecDepth 100000
namespace Go.Proofs.YtodoejfkjimeaaaDoor
open Go Go.RowKit Am

end Go.Proofs.YtodoejfkjimeaaaDoor
set_option maxRecDepth 100000
namespace Go.Proofs.YtodoejfkjimeaaaDoor
open Go Go.RowKit Am

end Go.Proofs.YtodoejfkjimeaaaDoor

set_option linter.unusedSimpArgs false
set_option linter.unusedVariables false
set_option maxRecDepth 100000
namespace Go.Proofs.YtodoejfkjimeaaaDoor
open Go Go.RowKit Am
attribute [-go_sem] guardP_if guardK_if guardD_if COND_bool
attribute [local go_sem low] guardP_if guardK_if guardD_if COND_bool
theorem ld_box {σ : Hp} {i k c : Nat} {row : List AV} {w cl : Bool} {v : AV} (h : σ i = some (.c ⟨k, [row], w, cl⟩)) (hc : row[c]? = some v) (hf : 0 < k := by omega) : aLd σ none (.rf i k 0 c) = some v := by
  simp [aLd, h, part_none, hc]
theorem len_tr {α : Type} (l : List α) (f : α → List AV) : aLen false (.tr (l.map f)) = some (.sc (.int .i64 l.length)) := by
  rw [aLen_tr, List.length_map]
end Go.Proofs.YtodoejfkjimeaaaDoor

set_option linter.unusedSimpArgs false
set_option linter.unusedVariables false
set_option maxRecDepth 100000
namespace Go.Proofs.YtodoejfkjimeaaaDoor
open Go Go.RowKit Am
attribute [-go_sem] guardP_if guardK_if guardD_if COND_bool
attribute [local go_sem low] guardP_if guardK_if guardD_if COND_bool
structure PS (σ : Hp) (n i j : Nat) (ob : Ob) (τ : Hp) (n' : Nat) (l : Tx) : Prop where
  lt : n + 16 ≤ n'
  bld : ∃ j', (j' = j ∨ n + 16 ≤ j') ∧ BldS τ n' i j' l
  box : τ n = some ob
  old : ∀ k, k < n → k ≠ i → k ≠ j → τ k = σ k
section
variable {σ τ : Hp} {n i j n' : Nat} {ob : Ob} {l : Tx} {K : AEnd → Hp → Nat → Prop}
theorem PS.call (hi : i < n) (hj : j < n) (h : PS σ n i j ob τ n' l) {g : FuncId} {args : List AV} {m : Tx} (hc : ∀ j', BldS τ n' i j' l → ConH Tryd.prog g (args ++ []) τ n' (BPost τ n' i j' m (.ret (.tp []))))
    (hk : ∀ τ2 n2, PS σ n i j ob τ2 n2 m → K (.ret (.tp [])) τ2 n2) : CALL Tryd.prog (.fn g []) args τ n' K := by
  obtain ⟨h1, ⟨j', hj', hb⟩, h3, h4⟩ := h
  refine CALL_conH (hc j' hb) ?_
  rintro r τ2 n2 ⟨rfl, j2, hj2, hb2, hf2⟩ hn2
  have hne : ∀ k, k < n + 16 → k ≠ j → k ≠ j' := fun k hk hkj => by rcases hj' with rfl | h <;> omega
  refine hk τ2 n2 ⟨by omega, ⟨j2, ?_, hb2⟩, (hf2 n (by omega) (by omega) (hne n (by omega) (by omega))).trans h3, fun k h5 h6 h7 => (hf2 k (by omega) h6 (hne k (by omega) h7)).trans (h4 k h5 h6 h7)⟩
  rcases hj2 with rfl | h
  · exact hj'
  · exact .inr (by omega)
theorem PS.put (hi : i < n) (hj : j < n) (h : PS σ n i j ob τ n' l) (ts : List Tx) (hlen : (l ++ ts.flatten).length ≤ 140737488355328) (hts : ts.length ≤ 1000)
    (hk : ∀ τ2 n2, PS σ n i j ob τ2 n2 (l ++ ts.flatten) → K (.ret (.tp [])) τ2 n2) : CALL Tryd.prog (.fn 70 []) [.rt i 2 PRT, .ow n' 1 0 ts.length] (applyW τ [(n', some (.c ⟨1, txRows ts, true, true⟩))]) (n' + 16) K := by
  simp only [applyW_cons, applyW_nil]
  have h' : PS σ n i j ob (upd τ n' (some (.c ⟨1, txRows ts, true, true⟩))) (n' + 16) l := by
    obtain ⟨h1, ⟨j', hj', hb⟩, h3, h4⟩ := h
    exact ⟨by omega, ⟨j', hj', hb.up (by omega) (fun k hk => upd_not (by omega))⟩, by rw [upd_not (by omega)]; exact h3, fun k h5 h6 h7 => by rw [upd_not (by omega)]; exact h4 k h5 h6 h7⟩
  have hjl : ∀ j', BldS τ n' i j' l → j' < n' := fun j' hb => hb.jlt
  obtain ⟨h1, ⟨j', hj', hb⟩, h3, h4⟩ := h
  have hi2 := hb.lt
  have hj2 := hb.jlt
  have h'' : PS σ n i j ob (upd τ n' (some (.c ⟨1, txRows ts, true, true⟩))) (n' + 16) l := h'
  refine CALL_conH (put_conH i j' n' l ts _ _ (hb.up (by omega) (fun k hk => upd_not (by omega))) (upd_is rfl) (by omega) (by omega) (by omega) hlen hts) ?_
  rintro r τ2 n2 ⟨rfl, j2, hj2, hb2, hf2⟩ hn2
  have hne : ∀ k, k < n + 16 → k ≠ j → k ≠ j' := fun k hk hkj => by rcases hj' with rfl | h <;> omega
  refine hk τ2 n2 ⟨by omega, ⟨j2, ?_, hb2⟩, (hf2 n (by omega) (by omega) (hne n (by omega) (by omega))).trans (by rw [upd_not (by omega)]; exact h3), fun k h5 h6 h7 => (hf2 k (by omega) h6 (hne k (by omega) h7)).trans (by rw [upd_not (by omega)]; exact h4 k h5 h6 h7)⟩
  rcases hj2 with rfl | h
  · exact hj'
  · exact .inr (by omega)
theorem PS.post (h : PS σ n i j ob τ n' l) (n0 : Nat) (σ0 : Hp) (hn : n0 ≤ n + 16) (hs : ∀ k, k < n0 → k ≠ i → k ≠ j → k < n ∧ σ k = σ0 k) : BPost σ0 n0 i j l (.ret (.tp [])) (.ret (.tp [])) τ n' := by
  obtain ⟨h1, ⟨j', hj', hb⟩, h3, h4⟩ := h
  exact ⟨rfl, j', hj'.imp (fun h => h) (fun h => by omega), hb, fun k h5 h6 h7 => (h4 k (hs k h5 h6 h7).1 h6 h7).trans (hs k h5 h6 h7).2⟩
end
theorem PS.start {σ : Hp} {n i j : Nat} {l : Tx} (hb : BldS σ n i j l) (ob : Ob) : PS σ n i j ob (upd σ n (some ob)) (n + 16) l :=
  ⟨Nat.le_refl _, ⟨j, .inl rfl, hb.up (by omega) (fun k hk => upd_not (by omega))⟩, upd_is rfl, fun k hk _ _ => upd_not (by omega)⟩
set_option maxHeartbeats 4000000 in
theorem create_conH (x : Sm) (hb : SBd x) (hk : SOk x) (σ : Hp) (n i j : Nat) (h : BldS σ n i j []) : ConH Tryd.prog 69 [.rt i 2 PRT, .ag (encSm x)] σ n (BPost σ n i j (createT x) (.ret (.tp []))) := by
  refine by_psyntax_printer_create ?_
  have hi := h.lt
  have hj := h.jlt
  generalize hR : BPost σ n i j (createT x) (.ret (.tp [])) = R
  have HR := Lib.hid hR; clear hR
  have hl2 := joinT_le2 colT x.columns [32, 40] 1048600 8 (fun c hc => by
    have h1 := hb.col c hc
    have h2 := hk.col c hc
    have h3 : ∀ m : Nat, (([[32, 73, 78, 84], [32, 66, 79, 79, 76], [32, 84, 69, 88, 84]] : List Tx).getD m []).length ≤ 5 := fun m => by
      match m with
      | 0 => decide
      | 1 => decide
      | 2 => decide
      | m + 3 => simp
    have h4 := h3 (c.kind - 1).toNat
    unfold colT
    split <;> simp only [List.length_append, List.length_cons, List.length_nil] <;> omega) hk.cols
  have e1 := hb.table; have e3 := hb.key
  rw [sh_psyntax_printer_create]
  change bindS (some (.rf n 14 0 0, [(n, some (Ob.c ⟨14, [encSm x], true, false⟩))])) _ _ _
  rw [bindS_some]
  simp only [applyW_cons, applyW_nil]
  have P := PS.start h (.c ⟨14, [encSm x], true, false⟩)
  generalize upd σ n _ = τ at P
  rw [aFad_rf, bindP_some, ld_box P.box rfl, bindP_some]
  change bindS (some (.ow _ 1 0 2, [(_, some (Ob.c ⟨1, txRows [[67, 82, 69, 65, 84, 69, 32, 84, 65, 66, 76, 69, 32], x.table], true, true⟩))])) _ _ _
  rw [bindS_some]
  refine P.put hi hj [[67, 82, 69, 65, 84, 69, 32, 84, 65, 66, 76, 69, 32], x.table] (by simp; omega) (by simp) (fun τ1 n1 P1 => ?_)
  clear P
  rw [kc_psyntax_printer_create3, onEnd_ret, aFad_rf, bindP_some, ld_box P1.box rfl, bindP_some]
  refine P1.call hi hj (fun j' hb' => listC_conH _ colT i j' _ [32, 40] x.columns _ _ hb' (fun c hc => colT_con c (hk.col c hc) (hb.col c hc)) (by simp at hl2 ⊢; omega) hb.cols) (fun τ2 n2 P2 => ?_)
  clear P1
  rw [kc_psyntax_printer_create2, onEnd_ret, aFad_rf, bindP_some, ld_box P2.box rfl, bindP_some]
  change bindS (some (.ow _ 1 0 3, [(_, some (Ob.c ⟨1, txRows [[44, 32, 80, 82, 73, 77, 65, 82, 89, 32, 75, 69, 89, 32, 40], x.key, [41, 41]], true, true⟩))])) _ _ _
  rw [bindS_some]
  refine P2.put hi hj [[44, 32, 80, 82, 73, 77, 65, 82, 89, 32, 75, 69, 89, 32, 40], x.key, [41, 41]] (by simp at hl2 ⊢; omega) (by simp) (fun τ3 n3 P3 => ?_)
  rw [kc_psyntax_printer_create1, onEnd_ret, ← HR.out]
  have := P3.post n σ (by omega) (fun k h1 _ _ => ⟨h1, rfl⟩)
  have e : createT x = [] ++ [[67, 82, 69, 65, 84, 69, 32, 84, 65, 66, 76, 69, 32], x.table].flatten ++ joinT [32, 40] (x.columns.map colT) ++ [[44, 32, 80, 82, 73, 77, 65, 82, 89, 32, 75, 69, 89, 32, 40], x.key, [41, 41]].flatten := by simp [createT]
  rw [e]; exact this
theorem smBrw0 (σ : Hp) (d : Nat) (x : Sm) : brwL σ d (encSm x) = some (encSm x, []) := by
  simp only [encSm, brwL_cons, brwL_nil, brw_ag, brw_sc, brw_tr, brw_s, List.append_nil, Option.map_some, List.nil_append]
theorem in_items (x : Sm) : x.items ∈ listsF x := by unfold listsF; simp
theorem in_on (x : Sm) : x.on ∈ listsF x := by unfold listsF; simp
theorem in_where (x : Sm) : x.where_ ∈ listsF x := by unfold listsF; simp
theorem in_group (x : Sm) : x.group ∈ listsF x := by unfold listsF; simp
theorem in_rows {x : Sm} {l : List Ep} (h : l ∈ x.rows) : l ∈ listsF x := by unfold listsF; simp [h]
theorem in_sets {x : Sm} {s : Se} (h : s ∈ x.sets) : [s.ex] ∈ listsF x := by
  simp only [listsF, List.mem_append, List.mem_map]
  exact .inr (.inl ⟨s, h, rfl⟩)
theorem PS.exprs {σ τ : Hp} {n i j n' : Nat} {ob : Ob} {l head : Tx} {K : AEnd → Hp → Nat → Prop} (hi : i < n) (hj : j < n) (h : PS σ n i j ob τ n' l) (xs : List Ep) (hb : LBd xs) (hr : ∀ e ∈ xs, Rg e) (hk : ∀ e ∈ xs, OKk 12 e) (hlen : (l ++ joinT head (xs.map printF)).length ≤ 140737488355328)
    (hK : ∀ τ2 n2, PS σ n i j ob τ2 n2 (l ++ joinT head (xs.map printF)) → K (.ret (.tp [])) τ2 n2) : CALL Tryd.prog (.fn 73 []) [.rt i 2 PRT, .s head, .tr (xs.map encE), .fn 27 []] τ n' K :=
  h.call hi hj (fun j' hb' => listE_conH 27 printF i j' l head xs τ n' hb' (fun e he => printed_con 12 e (by omega) (hk e he) (hb.bd e he) (hr e he)) hlen hb.len) hK
theorem exprs_len {xs : List Ep} (head : Tx) (k : Nat) (hb : LBd xs) (hk : ∀ e ∈ xs, OKk 12 e) (hl : xs.length ≤ k) : (joinT head (xs.map printF)).length ≤ head.length + k * 16383999902 :=
  joinT_le2 printF xs head 16383999900 k (fun e he => pf_len (hk e he) (hb.bd e he)) hl
set_option maxHeartbeats 4000000 in
theorem query_conH (x : Sm) (hb : SBd x) (hg : SRg x) (hk : SOk x) (σ : Hp) (n i j : Nat) (h : BldS σ n i j []) : ConH Tryd.prog 76 [.rt i 2 PRT, .ag (encSm x)] σ n (BPost σ n i j (queryT x) (.ret (.tp []))) := by
  refine by_psyntax_printer_query ?_
  have hi := h.lt
  have hj := h.jlt
  generalize hR : BPost σ n i j (queryT x) (.ret (.tp [])) = R
  have HR := Lib.hid hR; clear hR
  have l1 := exprs_len [83, 69, 76, 69, 67, 84, 32] 16 hb.items (hk.ok _ (in_items x)) hk.items
  have l2 := exprs_len [32, 79, 78, 32] 1 hb.on (hk.ok _ (in_on x)) hk.on
  have l3 := exprs_len [32, 87, 72, 69, 82, 69, 32] 1 hb.where_ (hk.ok _ (in_where x)) hk.where_
  have l4 := exprs_len [32, 71, 82, 79, 85, 80, 32, 66, 89, 32] 1 hb.group (hk.ok _ (in_group x)) hk.group
  have l5 := joinT_le2 ordT x.order [32, 79, 82, 68, 69, 82, 32, 66, 89, 32] 50 8 (fun o ho => by
    have := decF_len 40 o.n
    unfold ordT
    split <;> simp only [List.length_append, List.length_cons, List.length_nil] <;> omega) hk.order
  have l6 := decF_len 40 x.limit
  have e1 := hb.table; have e3 := hb.join
  simp only [List.length_cons, List.length_nil] at l1 l2 l3 l4 l5
  rw [sh_psyntax_printer_query]
  change bindS (some (.rf n 14 0 0, [(n, some (Ob.c ⟨14, [encSm x], true, false⟩))])) _ _ _
  rw [bindS_some]
  simp only [applyW_cons, applyW_nil]
  have P := PS.start h (.c ⟨14, [encSm x], true, false⟩)
  generalize upd σ n _ = τ at P
  rw [aFad_rf, bindP_some, ld_box P.box rfl, bindP_some]
  refine P.exprs hi hj x.items hb.items hg.items (hk.ok _ (in_items x)) (by simp; omega) (fun τ1 n1 P1 => ?_)
  clear P
  rw [kc_psyntax_printer_query10, onEnd_ret, aFad_rf, bindP_some, ld_box P1.box rfl, bindP_some]
  change bindS (some (.ow _ 1 0 2, [(_, some (Ob.c ⟨1, txRows [[32, 70, 82, 79, 77, 32], x.table], true, true⟩))])) _ _ _
  rw [bindS_some]
  refine P1.put hi hj [[32, 70, 82, 79, 77, 32], x.table] (by simp; omega) (by simp) (fun τ2 n2 P2 => ?_)
  clear P1
  rw [kc_psyntax_printer_query9, onEnd_ret, aFad_rf, JOIN_eq, bindP_some, ld_box P2.box rfl, bindP_some]
  have rest : ∀ (s : List AV) (τ3 : Hp) (n3 : Nat), PS σ n i j (.c ⟨14, [encSm x], true, false⟩) τ3 n3 ([] ++ joinT [83, 69, 76, 69, 67, 84, 32] (x.items.map printF) ++ [[32, 70, 82, 79, 77, 32], x.table].flatten ++ (if x.join = [] then [] else [32, 74, 79, 73, 78, 32] ++ x.join)) →
      jk_psyntax_printer_query8 (.rf n 14 0 0) (.rt i 2 PRT) R s τ3 n3 := by
    intro s τ3 n3 P3
    have lj : (if x.join = [] then [] else [32, 74, 79, 73, 78, 32] ++ x.join).length ≤ x.join.length + 6 := by split <;> simp
    generalize hjn : (if x.join = [] then [] else [32, 74, 79, 73, 78, 32] ++ x.join) = jn at *
    rw [jk_psyntax_printer_query8, aFad_rf, bindP_some, ld_box P3.box rfl, bindP_some]
    refine P3.exprs hi hj x.on hb.on hg.on (hk.ok _ (in_on x)) (by simp; omega) (fun τ4 n4 P4 => ?_)
    clear P3
    rw [kc_psyntax_printer_query6, onEnd_ret, aFad_rf, bindP_some, ld_box P4.box rfl, bindP_some]
    refine P4.exprs hi hj x.where_ hb.where_ hg.where_ (hk.ok _ (in_where x)) (by simp; omega) (fun τ5 n5 P5 => ?_)
    clear P4
    rw [kc_psyntax_printer_query5, onEnd_ret, aFad_rf, bindP_some, ld_box P5.box rfl, bindP_some]
    refine P5.exprs hi hj x.group hb.group hg.group (hk.ok _ (in_group x)) (by simp; omega) (fun τ6 n6 P6 => ?_)
    clear P5
    rw [kc_psyntax_printer_query4, onEnd_ret, aFad_rf, bindP_some, ld_box P6.box rfl, bindP_some]
    refine P6.call hi hj (fun j' hb' => listO_conH _ ordT i j' _ [32, 79, 82, 68, 69, 82, 32, 66, 89, 32] x.order _ _ hb' (fun o ho => ordT_con o (hk.ord o ho)) (by simp; omega) hb.order) (fun τ7 n7 P7 => ?_)
    clear P6
    have eq : queryT x = [] ++ joinT [83, 69, 76, 69, 67, 84, 32] (x.items.map printF) ++ [[32, 70, 82, 79, 77, 32], x.table].flatten ++ jn ++ joinT [32, 79, 78, 32] (x.on.map printF) ++ joinT [32, 87, 72, 69, 82, 69, 32] (x.where_.map printF)
        ++ joinT [32, 71, 82, 79, 85, 80, 32, 66, 89, 32] (x.group.map printF) ++ joinT [32, 79, 82, 68, 69, 82, 32, 66, 89, 32] (x.order.map ordT) ++ (if 0 ≤ x.limit then [[32, 76, 73, 77, 73, 84, 32], decF 40 x.limit].flatten else []) := by
      rw [queryT, hjn, whereT]; simp
    rw [kc_psyntax_printer_query3, onEnd_ret, aFad_rf, bindP_some, ld_box P7.box rfl, bindP_some, bin_geq, bindP_some]
    by_cases hlm : 0 ≤ x.limit
    · rw [COND_yes hlm, bindP_some, ld_box P7.box rfl, bindP_some]
      refine CALL_con0 (decimal_con 40 19 x.limit (by omega) (by have := hk.limit; omega) (by split <;> omega) (by omega) (by have := hk.limit; unfold rng; omega)) rfl ?_
      rw [kc_psyntax_printer_query2, onEnd_ret]
      change bindS (some (.ow _ 1 0 2, [(_, some (Ob.c ⟨1, txRows [[32, 76, 73, 77, 73, 84, 32], decF 40 x.limit], true, true⟩))])) _ _ _
      rw [bindS_some]
      refine P7.put hi hj [[32, 76, 73, 77, 73, 84, 32], decF 40 x.limit] (by simp; omega) (by simp) (fun τ8 n8 P8 => ?_)
      rw [kc_psyntax_printer_query1, onEnd_ret, ← HR.out, eq, if_pos hlm]
      exact P8.post n σ (by omega) (fun k h1 _ _ => ⟨h1, rfl⟩)
    · rw [COND_no hlm, ← HR.out, eq, if_neg hlm, List.append_nil]
      exact P7.post n σ (by omega) (fun k h1 _ _ => ⟨h1, rfl⟩)
  have HRest := Lib.hid rest; clear rest
  by_cases hjn : x.join = []
  · rw [if_pos hjn] at HRest
    rw [binS_neq, bindP_some, show (!decide (x.join = [])) = false by simp [hjn], COND_false]
    exact HRest.out _ _ _ (by rw [List.append_nil]; exact P2)
  · rw [if_neg hjn] at HRest
    rw [binS_neq, bindP_some, show (!decide (x.join = [])) = true by simp [hjn], COND_true, bindP_some, ld_box P2.box rfl, bindP_some]
    change bindS (some (.ow _ 1 0 2, [(_, some (Ob.c ⟨1, txRows [[32, 74, 79, 73, 78, 32], x.join], true, true⟩))])) _ _ _
    rw [bindS_some]
    refine P2.put hi hj [[32, 74, 79, 73, 78, 32], x.join] (by simp; omega) (by simp) (fun τ3 n3 P3 => ?_)
    rw [kc_psyntax_printer_query7, onEnd_ret]
    exact HRest.out _ _ _ (by simpa using P3)
theorem rows_len {x : Sm} (hb : SBd x) (hk : SOk x) : (joinT [32, 86, 65, 76, 85, 69, 83, 32] (x.rows.map rowT)).length ≤ 8 + 16 * 140000000002 :=
  joinT_le2 rowT x.rows [32, 86, 65, 76, 85, 69, 83, 32] 140000000000 16 (fun l hl => by
    have := exprs_len [40] 8 (hb.row l hl) (hk.ok _ (in_rows hl)) (hk.row l hl).2
    simp only [List.length_cons, List.length_nil] at this
    unfold rowT
    simp only [List.length_append, List.length_cons, List.length_nil]
    omega) hk.rows
theorem sets_len {x : Sm} (hb : SBd x) (hk : SOk x) : (joinT [32, 83, 69, 84, 32] (x.sets.map setT)).length ≤ 5 + 8 * 20000000002 :=
  joinT_le2 setT x.sets [32, 83, 69, 84, 32] 20000000000 8 (fun s hs => by
    have := pf_len (hk.ok _ (in_sets hs) s.ex (by simp)) (hb.set s hs).2
    have h2 := (hb.set s hs).1
    unfold setT
    simp only [List.length_append, List.length_cons, List.length_nil]
    omega) hk.sets
set_option maxHeartbeats 4000000 in
theorem stmt_conH (x : Sm) (hb : SBd x) (hg : SRg x) (hk : SOk x) (σ : Hp) (n i j : Nat) (h : BldS σ n i j []) : ConH Tryd.prog 48 [.rt i 2 PRT, .ag (encSm x)] σ n (BPost σ n i j (stmtT x) (.ret (.tp []))) := by
  refine by_psyntax_printer_stmt ?_
  have hi := h.lt
  have hj := h.jlt
  generalize hR : BPost σ n i j (stmtT x) (.ret (.tp [])) = R
  have HR := Lib.hid hR; clear hR
  have l3 := exprs_len [32, 87, 72, 69, 82, 69, 32] 1 hb.where_ (hk.ok _ (in_where x)) hk.where_
  have l4 := rows_len hb hk
  have l5 := sets_len hb hk
  have e1 := hb.table; have e2 := hb.key; have e3 := hb.index
  simp only [List.length_cons, List.length_nil] at l3
  have hT : stmtT x = if x.kind = 1 then createT x
    else if x.kind = 2 then [67, 82, 69, 65, 84, 69, 32, 73, 78, 68, 69, 88, 32] ++ x.index ++ [32, 79, 78, 32] ++ x.table ++ [32, 40] ++ x.key ++ [41]
    else if x.kind = 3 then [68, 82, 79, 80, 32, 84, 65, 66, 76, 69, 32] ++ x.table
    else if x.kind = 4 then [73, 78, 83, 69, 82, 84, 32, 73, 78, 84, 79, 32] ++ x.table ++ joinT [32, 86, 65, 76, 85, 69, 83, 32] (x.rows.map rowT)
    else if x.kind = 5 then [85, 80, 68, 65, 84, 69, 32] ++ x.table ++ joinT [32, 83, 69, 84, 32] (x.sets.map setT) ++ whereT x
    else if x.kind = 6 then [68, 69, 76, 69, 84, 69, 32, 70, 82, 79, 77, 32] ++ x.table ++ whereT x
    else if x.kind = 7 then queryT x
    else ([[66, 69, 71, 73, 78], [67, 79, 77, 77, 73, 84], [82, 79, 76, 76, 66, 65, 67, 75]] : List Tx).getD (x.kind - 8).toNat [] := rfl
  have fin : ∀ (τ : Hp) (n' : Nat) (l : Tx), PS σ n i j (.c ⟨14, [encSm x], true, false⟩) τ n' l → l = stmtT x → R (.ret (.tp [])) τ n' := by
    rintro τ n' l P rfl
    rw [← HR.out]
    exact P.post n σ (by omega) (fun k h1 _ _ => ⟨h1, rfl⟩)
  rw [sh_psyntax_printer_stmt]
  change bindS (some (.rf n 14 0 0, [(n, some (Ob.c ⟨14, [encSm x], true, false⟩))])) _ _ _
  rw [bindS_some]
  simp only [applyW_cons, applyW_nil]
  have P := PS.start h (.c ⟨14, [encSm x], true, false⟩)
  generalize upd σ n _ = τ at P
  have hld14 : aLd τ (some 14) (.rf n 14 0 0) = some (.ag (encSm x)) := by simp [aLd, P.box, Am.part, encSm]
  rw [aFad_rf, bindP_some, ld_box P.box rfl, bindP_some, bindP_eqI]
  by_cases k1 : x.kind = 1
  · rw [if_pos k1] at hT
    rw [COND_yes k1, hld14, bindP_some]
    refine P.call hi hj (fun j' hb' => create_conH x hb hk _ _ i j' hb') (fun τ2 n2 P2 => ?_)
    rw [kc_psyntax_printer_stmt1, onEnd_ret]
    exact fin _ _ _ P2 hT.symm
  rw [if_neg k1] at hT
  rw [COND_no k1, bindP_eqI]
  by_cases k2 : x.kind = 2
  · rw [if_pos k2] at hT
    rw [COND_yes k2]
    simp only [aFad_rf, bindP_some, Nat.zero_add]
    rw [show aLd τ none (.rf n 14 0 4) = some (.s x.index) from ld_box P.box rfl, bindP_some, show aLd τ none (.rf n 14 0 1) = some (.s x.table) from ld_box P.box rfl, bindP_some, show aLd τ none (.rf n 14 0 3) = some (.s x.key) from ld_box P.box rfl, bindP_some]
    change bindS (some (.ow _ 1 0 7, [(_, some (Ob.c ⟨1, txRows [[67, 82, 69, 65, 84, 69, 32, 73, 78, 68, 69, 88, 32], x.index, [32, 79, 78, 32], x.table, [32, 40], x.key, [41]], true, true⟩))])) _ _ _
    rw [bindS_some]
    refine P.put hi hj [[67, 82, 69, 65, 84, 69, 32, 73, 78, 68, 69, 88, 32], x.index, [32, 79, 78, 32], x.table, [32, 40], x.key, [41]] (by simp; omega) (by simp) (fun τ2 n2 P2 => ?_)
    rw [kc_psyntax_printer_stmt2, onEnd_ret]
    exact fin _ _ _ P2 (by rw [hT]; simp)
  rw [if_neg k2] at hT
  rw [COND_no k2, bindP_eqI]
  by_cases k3 : x.kind = 3
  · rw [if_pos k3] at hT
    rw [COND_yes k3]
    simp only [aFad_rf, bindP_some, Nat.zero_add]
    rw [show aLd τ none (.rf n 14 0 1) = some (.s x.table) from ld_box P.box rfl, bindP_some]
    change bindS (some (.ow _ 1 0 2, [(_, some (Ob.c ⟨1, txRows [[68, 82, 79, 80, 32, 84, 65, 66, 76, 69, 32], x.table], true, true⟩))])) _ _ _
    rw [bindS_some]
    refine P.put hi hj [[68, 82, 79, 80, 32, 84, 65, 66, 76, 69, 32], x.table] (by simp; omega) (by simp) (fun τ2 n2 P2 => ?_)
    rw [kc_psyntax_printer_stmt3, onEnd_ret]
    exact fin _ _ _ P2 (by rw [hT]; simp)
  rw [if_neg k3] at hT
  rw [COND_no k3, bindP_eqI]
  by_cases k4 : x.kind = 4
  · rw [if_pos k4] at hT
    rw [COND_yes k4]
    simp only [aFad_rf, bindP_some, Nat.zero_add]
    rw [show aLd τ none (.rf n 14 0 1) = some (.s x.table) from ld_box P.box rfl, bindP_some]
    change bindS (some (.ow _ 1 0 2, [(_, some (Ob.c ⟨1, txRows [[73, 78, 83, 69, 82, 84, 32, 73, 78, 84, 79, 32], x.table], true, true⟩))])) _ _ _
    rw [bindS_some]
    refine P.put hi hj [[73, 78, 83, 69, 82, 84, 32, 73, 78, 84, 79, 32], x.table] (by simp; omega) (by simp) (fun τ2 n2 P2 => ?_)
    rw [kc_psyntax_printer_stmt5, onEnd_ret, aFad_rf, bindP_some, ld_box P2.box rfl, bindP_some]
    refine P2.call hi hj (fun j' hb' => listR_conH _ rowT i j' _ [32, 86, 65, 76, 85, 69, 83, 32] x.rows _ _ hb' (fun l hl => rowT_con l (hk.row l hl) (hb.row l hl) (hg.row l hl) (hk.ok _ (in_rows hl))) (by simp at l4 ⊢; omega) hb.rows) (fun τ3 n3 P3 => ?_)
    rw [kc_psyntax_printer_stmt4, onEnd_ret]
    exact fin _ _ _ P3 (by rw [hT]; simp)
  rw [if_neg k4] at hT
  rw [COND_no k4, bindP_eqI]
  by_cases k5 : x.kind = 5
  · rw [if_pos k5] at hT
    rw [COND_yes k5]
    simp only [aFad_rf, bindP_some, Nat.zero_add]
    rw [show aLd τ none (.rf n 14 0 1) = some (.s x.table) from ld_box P.box rfl, bindP_some]
    change bindS (some (.ow _ 1 0 2, [(_, some (Ob.c ⟨1, txRows [[85, 80, 68, 65, 84, 69, 32], x.table], true, true⟩))])) _ _ _
    rw [bindS_some]
    refine P.put hi hj [[85, 80, 68, 65, 84, 69, 32], x.table] (by simp; omega) (by simp) (fun τ2 n2 P2 => ?_)
    rw [kc_psyntax_printer_stmt8, onEnd_ret, aFad_rf, bindP_some, ld_box P2.box rfl, bindP_some]
    refine P2.call hi hj (fun j' hb' => listS_conH _ setT i j' _ [32, 83, 69, 84, 32] x.sets _ _ hb' (fun s hs => setT_con s (hk.ok _ (in_sets hs) s.ex (by simp)) (hb.set s hs).2 (hg.set s hs) (hb.set s hs).1) (by simp at l5 ⊢; omega) hb.sets) (fun τ3 n3 P3 => ?_)
    rw [kc_psyntax_printer_stmt7, onEnd_ret, aFad_rf, bindP_some, ld_box P3.box rfl, bindP_some]
    refine P3.exprs hi hj x.where_ hb.where_ hg.where_ (hk.ok _ (in_where x)) (by simp at l5 ⊢; omega) (fun τ4 n4 P4 => ?_)
    rw [kc_psyntax_printer_stmt6, onEnd_ret]
    exact fin _ _ _ P4 (by rw [hT, whereT]; simp)
  rw [if_neg k5] at hT
  rw [COND_no k5, bindP_eqI]
  by_cases k6 : x.kind = 6
  · rw [if_pos k6] at hT
    rw [COND_yes k6]
    simp only [aFad_rf, bindP_some, Nat.zero_add]
    rw [show aLd τ none (.rf n 14 0 1) = some (.s x.table) from ld_box P.box rfl, bindP_some]
    change bindS (some (.ow _ 1 0 2, [(_, some (Ob.c ⟨1, txRows [[68, 69, 76, 69, 84, 69, 32, 70, 82, 79, 77, 32], x.table], true, true⟩))])) _ _ _
    rw [bindS_some]
    refine P.put hi hj [[68, 69, 76, 69, 84, 69, 32, 70, 82, 79, 77, 32], x.table] (by simp; omega) (by simp) (fun τ2 n2 P2 => ?_)
    rw [kc_psyntax_printer_stmt10, onEnd_ret, aFad_rf, bindP_some, ld_box P2.box rfl, bindP_some]
    refine P2.exprs hi hj x.where_ hb.where_ hg.where_ (hk.ok _ (in_where x)) (by simp; omega) (fun τ4 n4 P4 => ?_)
    rw [kc_psyntax_printer_stmt9, onEnd_ret]
    exact fin _ _ _ P4 (by rw [hT, whereT]; simp)
  rw [if_neg k6] at hT
  rw [COND_no k6, bindP_eqI]
  by_cases k7 : x.kind = 7
  · rw [if_pos k7] at hT
    rw [COND_yes k7, hld14, bindP_some]
    refine P.call hi hj (fun j' hb' => query_conH x hb hg hk _ _ i j' hb') (fun τ2 n2 P2 => ?_)
    rw [kc_psyntax_printer_stmt11, onEnd_ret]
    exact fin _ _ _ P2 hT.symm
  rw [if_neg k7] at hT
  rw [COND_no k7]
  have hkk : x.kind = 8 ∨ x.kind = 9 ∨ x.kind = 10 := by have := hk.kind1; have := hk.kind10; omega
  have last : ∀ (t : Tx), t.length ≤ 20 → stmtT x = t → CALL Tryd.prog (.fn 70 []) [.rt i 2 PRT, .ow (n + 16) 1 0 1] (applyW τ [(n + 16, some (.c ⟨1, txRows [t], true, true⟩))]) (n + 16 + 16) (kc_psyntax_printer_stmt12 R) := by
    intro t ht he
    refine P.put hi hj [t] (by simp; omega) (by simp) (fun τ2 n2 P2 => ?_)
    rw [kc_psyntax_printer_stmt12, onEnd_ret]
    exact fin _ _ _ P2 (by rw [he]; simp)
  have HLast := Lib.hid last; clear last
  have hB : aBuild [(.string ⟨#[]⟩), (.string ⟨#[]⟩), (.string ⟨#[]⟩)] [(0, 1, (.s [66, 69, 71, 73, 78])), (1, 1, (.s [67, 79, 77, 77, 73, 84])), (2, 1, (.s [82, 79, 76, 76, 66, 65, 67, 75]))] = some (.ag [.s [66, 69, 71, 73, 78], .s [67, 79, 77, 77, 73, 84], .s [82, 79, 76, 76, 66, 65, 67, 75]]) := by rfl
  rw [hB, bindP_some, bindP_some, ld_box P.box rfl, bindP_some]
  rcases hkk with hkk | hkk | hkk
  · rw [hkk] at hT ⊢
    rw [show semBin .sub (.sc (.int .i64 8)) (.sc (.int .i64 8)) = some (.sc (.int .i64 0)) from by kernel_rfl, bindP_some, show aIarr none 1 3 (.ag [AV.s [66, 69, 71, 73, 78], AV.s [67, 79, 77, 77, 73, 84], AV.s [82, 79, 76, 76, 66, 65, 67, 75]]) (.sc (.int .i64 0)) = some (.s [66, 69, 71, 73, 78]) from by kernel_rfl, bindP_some]
    change bindS (some (.ow _ 1 0 1, [(_, some (Ob.c ⟨1, txRows [[66, 69, 71, 73, 78]], true, true⟩))])) _ _ _
    rw [bindS_some]
    exact HLast.out _ (by decide) hT
  · rw [hkk] at hT ⊢
    rw [show semBin .sub (.sc (.int .i64 9)) (.sc (.int .i64 8)) = some (.sc (.int .i64 1)) from by kernel_rfl, bindP_some, show aIarr none 1 3 (.ag [AV.s [66, 69, 71, 73, 78], AV.s [67, 79, 77, 77, 73, 84], AV.s [82, 79, 76, 76, 66, 65, 67, 75]]) (.sc (.int .i64 1)) = some (.s [67, 79, 77, 77, 73, 84]) from by kernel_rfl, bindP_some]
    change bindS (some (.ow _ 1 0 1, [(_, some (Ob.c ⟨1, txRows [[67, 79, 77, 77, 73, 84]], true, true⟩))])) _ _ _
    rw [bindS_some]
    exact HLast.out _ (by decide) hT
  · rw [hkk] at hT ⊢
    rw [show semBin .sub (.sc (.int .i64 10)) (.sc (.int .i64 8)) = some (.sc (.int .i64 2)) from by kernel_rfl, bindP_some, show aIarr none 1 3 (.ag [AV.s [66, 69, 71, 73, 78], AV.s [67, 79, 77, 77, 73, 84], AV.s [82, 79, 76, 76, 66, 65, 67, 75]]) (.sc (.int .i64 2)) = some (.s [82, 79, 76, 76, 66, 65, 67, 75]) from by kernel_rfl, bindP_some]
    change bindS (some (.ow _ 1 0 1, [(_, some (Ob.c ⟨1, txRows [[82, 79, 76, 76, 66, 65, 67, 75]], true, true⟩))])) _ _ _
    rw [bindS_some]
    exact HLast.out _ (by decide) hT
def psF (x : Sm) : Tx × Int := if checkF x = 0 then (stmtT x, 0) else ([], checkF x)
theorem stmt_len {x : Sm} (hb : SBd x) (hk : SOk x) : (stmtT x).length ≤ 100000000000000 := by
  have l1 := exprs_len [83, 69, 76, 69, 67, 84, 32] 16 hb.items (hk.ok _ (in_items x)) hk.items
  have l2 := exprs_len [32, 79, 78, 32] 1 hb.on (hk.ok _ (in_on x)) hk.on
  have l3 := exprs_len [32, 87, 72, 69, 82, 69, 32] 1 hb.where_ (hk.ok _ (in_where x)) hk.where_
  have l4 := exprs_len [32, 71, 82, 79, 85, 80, 32, 66, 89, 32] 1 hb.group (hk.ok _ (in_group x)) hk.group
  have l5 := joinT_le2 ordT x.order [32, 79, 82, 68, 69, 82, 32, 66, 89, 32] 50 8 (fun o ho => by
    have := decF_len 40 o.n
    unfold ordT
    split <;> simp only [List.length_append, List.length_cons, List.length_nil] <;> omega) hk.order
  have l6 := decF_len 40 x.limit
  have l7 := rows_len hb hk
  have l8 := sets_len hb hk
  have l9 := joinT_le2 colT x.columns [32, 40] 1048600 8 (fun c hc => by
    have h1 := hb.col c hc
    have h3 : ∀ m : Nat, (([[32, 73, 78, 84], [32, 66, 79, 79, 76], [32, 84, 69, 88, 84]] : List Tx).getD m []).length ≤ 5 := fun m => by
      match m with
      | 0 => decide
      | 1 => decide
      | 2 => decide
      | m + 3 => simp
    have h4 := h3 (c.kind - 1).toNat
    unfold colT
    split <;> simp only [List.length_append, List.length_cons, List.length_nil] <;> omega) hk.cols
  have e1 := hb.table; have e2 := hb.key; have e3 := hb.index; have e4 := hb.join
  have h3 : ∀ m : Nat, (([[66, 69, 71, 73, 78], [67, 79, 77, 77, 73, 84], [82, 79, 76, 76, 66, 65, 67, 75]] : List Tx).getD m []).length ≤ 8 := fun m => by
    match m with
    | 0 => decide
    | 1 => decide
    | 2 => decide
    | m + 3 => simp
  have h4 := h3 (x.kind - 8).toNat
  simp only [List.length_cons, List.length_nil] at l1 l2 l3 l4 l5 l9
  unfold stmtT createT queryT whereT
  repeat' split
  all_goals (first | omega | (simp only [List.length_append, List.length_cons, List.length_nil]; omega))
theorem stmt_ne {x : Sm} (hk : SOk x) : stmtT x ≠ [] := by
  unfold stmtT createT queryT
  repeat' split
  all_goals try simp
  · rename_i h1 h2 h3 h4 h5 h6 h7
    have hkk : x.kind = 8 ∨ x.kind = 9 ∨ x.kind = 10 := by have := hk.kind1; have := hk.kind10; omega
    rcases hkk with hkk | hkk | hkk <;> rw [hkk] <;> decide
set_option maxHeartbeats 2000000 in
theorem print_con (x : Sm) (hb : SBd x) (hg : SRg x) : Con Tryd.prog 21 [.ag (encSm x)] (.ret (.tp [.s (psF x).1, .sc (.int .i64 (psF x).2)])) := by
  refine con_of (by_syntax_Print ?_)
  generalize hR : RC _ = R
  have HR := Lib.hid hR; clear hR
  have HC := Lib.hid (check_con x hb)
  have hP : psF x = if checkF x = 0 then (stmtT x, 0) else ([], checkF x) := rfl
  rw [sh_syntax_Print]
  change bindS (some (.rf 0 14 0 0, [(0, some (Ob.c ⟨14, [encSm x], true, false⟩))])) _ _ _
  rw [bindS_some]
  simp only [applyW_cons, applyW_nil]
  generalize hτ : upd (fun _ => none) 0 (some (Ob.c ⟨14, [encSm x], true, false⟩)) = τ
  have hbox : τ 0 = some (.c ⟨14, [encSm x], true, false⟩) := by rw [← hτ]; exact upd_is rfl
  clear hτ
  have hld14 : ∀ ρ : Hp, ρ 0 = some (.c ⟨14, [encSm x], true, false⟩) → aLd ρ (some 14) (.rf 0 14 0 0) = some (.ag (encSm x)) := fun ρ h => by simp [aLd, h, Am.part, encSm]
  rw [hld14 τ hbox, bindP_some]
  refine CALL_con0 HC.out (by simp only [List.append_nil, brwL_cons, brwL_nil, brw_ag, smBrw0, Option.map_some]) ?_
  rw [kc_syntax_Print3, onEnd_ret, bin_neq, bindP_some]
  by_cases h0 : checkF x = 0
  · have hk := checkF_ok x h0
    rw [if_pos h0] at hP
    rw [show (!decide (checkF x = 0)) = false by simp [h0], COND_false]
    change bindS (some (.rt 16 2 PRT, [(16, some (Ob.c ⟨2, [[.sc (.pointer none), .em]], true, false⟩))])) _ _ _
    rw [bindS_some]
    simp only [applyW_cons, applyW_nil]
    rw [hld14 _ (by rw [upd_not (by omega)]; exact hbox), bindP_some]
    refine CALL_conH (caps := []) (stmt_conH x hb hg hk _ _ 16 16 (bld_new τ 16)) ?_
    rintro r ρ n' ⟨rfl, j', hj', hbl, hfr⟩ hn'
    rw [kc_syntax_Print2, onEnd_ret, aFad_rt, if_pos rfl, bindP_some]
    refine CALL_str hbl (stmt_ne hk) (by have := stmt_len hb hk; omega) (fun ρ2 n2 hn2 hρ => ?_)
    rw [kc_syntax_Print1, onEnd_ret, ← HR.out, hP]
    exact RC_ret rfl rfl
  · rw [if_neg h0] at hP
    rw [show (!decide (checkF x = 0)) = true by simp [h0], COND_true, ← HR.out, hP]
    exact RC_ret rfl rfl
end Go.Proofs.YtodoejfkjimeaaaDoor
