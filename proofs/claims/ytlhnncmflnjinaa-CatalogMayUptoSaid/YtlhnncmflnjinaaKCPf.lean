/- Packed by a program of this repo: Pf. -/
import Derived.Test.YtlhnncmflnjinaaKCPb
set_option linter.unusedSimpArgs false
set_option linter.unusedVariables false
set_option maxRecDepth 100000
namespace Go.Proofs.Ytlhnncmflnjinaa
open Go Go.RowKit Am Go.ChangeShapes Go.WideShapes Go.ChangeAt
attribute [-go_sem] guardP_if guardK_if guardD_if COND_bool
attribute [local go_sem low] guardP_if guardK_if guardD_if COND_bool

theorem opens_IndexR (n : Nat) : Opens 132 2 encX (fun x : Ix => x.name.length ≤ 1048576 ∧ rng x.at_) n := by
  intro H enc W cs x h hb
  obtain ⟨xs, m, rfl, rfl, hl, hlen, hf⟩ := DataW.trod_struct Try.underlying132 h
  have hc : Try.prog.cellsOf 132 = 2 := by kernel_rfl
  rw [hc] at hl
  simp only [Rows.uptoBulk] at hb
  match cs, hl, xs, hlen, hf, hb with
  | [c0, c1], _, [y0, y1], _, hf, hb =>
    simp only [List.map_cons, List.map_nil, Rows.uptoBulkAll] at hb
    have z0 : Try.prog.cellsOf 9 = 1 := by kernel_rfl
    have f0 : DataW.trod enc Try.prog W 0 (fun _ => true) true m 9 [c0] = some y0 := by have this : DataW.trod enc Try.prog W 0 (fun _ => true) true m 9 (([c0, c1].drop 0).take (Try.prog.cellsOf 9)) = some y0 := hf 0 _ rfl; rw [z0] at this; exact this
    obtain ⟨a0, b0, _, _, r0⟩ := opens_str m enc W _ _ f0 (by omega)
    have z1 : Try.prog.cellsOf 3 = 1 := by kernel_rfl
    have f1 : DataW.trod enc Try.prog W 0 (fun _ => true) true m 3 [c1] = some y1 := by have this : DataW.trod enc Try.prog W 0 (fun _ => true) true m 3 (([c0, c1].drop 1).take (Try.prog.cellsOf 3)) = some y1 := hf 1 _ rfl; rw [z1] at this; exact this
    obtain ⟨a1, b1, _, _, r1⟩ := opens_int m enc W _ _ f1 (by omega)
    refine ⟨⟨a0, a1⟩, ⟨b0, b1⟩, rfl, rfl, ?_⟩
    intro i u v h1 h2
    match i, h1, h2 with
    | 0, h1, h2 => exact r0 0 u v h1 h2
    | 1, h1, h2 => exact r1 0 u v h1 h2
    | i + 2, h1, h2 => cases h1
theorem opens_TableR (n : Nat) : Opens 43 4 encT TRg n := by
  intro H enc W cs x h hb
  obtain ⟨xs, m, rfl, rfl, hl, hlen, hf⟩ := DataW.trod_struct Try.underlying43 h
  have hc : Try.prog.cellsOf 43 = 4 := by kernel_rfl
  rw [hc] at hl
  simp only [Rows.uptoBulk] at hb
  match cs, hl, xs, hlen, hf, hb with
  | [c0, c1, c2, c3], _, [y0, y1, y2, y3], _, hf, hb =>
    simp only [List.map_cons, List.map_nil, Rows.uptoBulkAll] at hb
    have z0 : Try.prog.cellsOf 9 = 1 := by kernel_rfl
    have f0 : DataW.trod enc Try.prog W 0 (fun _ => true) true m 9 [c0] = some y0 := by have this : DataW.trod enc Try.prog W 0 (fun _ => true) true m 9 (([c0, c1, c2, c3].drop 0).take (Try.prog.cellsOf 9)) = some y0 := hf 0 _ rfl; rw [z0] at this; exact this
    obtain ⟨a0, b0, _, _, r0⟩ := opens_str m enc W _ _ f0 (by omega)
    have z1 : Try.prog.cellsOf 40 = 1 := by kernel_rfl
    have f1 : DataW.trod enc Try.prog W 0 (fun _ => true) true m 40 [c1] = some y1 := by have this : DataW.trod enc Try.prog W 0 (fun _ => true) true m 40 (([c0, c1, c2, c3].drop 1).take (Try.prog.cellsOf 40)) = some y1 := hf 1 _ rfl; rw [z1] at this; exact this
    obtain ⟨a1, b1, _, _, r1⟩ := opens_slice Try.underlying40 cols_C (by omega) m (fun m _ => opens_Column m) enc W _ _ f1 (by omega)
    have z2 : Try.prog.cellsOf 3 = 1 := by kernel_rfl
    have f2 : DataW.trod enc Try.prog W 0 (fun _ => true) true m 3 [c2] = some y2 := by have this : DataW.trod enc Try.prog W 0 (fun _ => true) true m 3 (([c0, c1, c2, c3].drop 2).take (Try.prog.cellsOf 3)) = some y2 := hf 2 _ rfl; rw [z2] at this; exact this
    obtain ⟨a2, b2, _, _, r2⟩ := opens_int m enc W _ _ f2 (by omega)
    have z3 : Try.prog.cellsOf 41 = 1 := by kernel_rfl
    have f3 : DataW.trod enc Try.prog W 0 (fun _ => true) true m 41 [c3] = some y3 := by have this : DataW.trod enc Try.prog W 0 (fun _ => true) true m 41 (([c0, c1, c2, c3].drop 3).take (Try.prog.cellsOf 41)) = some y3 := hf 3 _ rfl; rw [z3] at this; exact this
    obtain ⟨a3, b3, _, _, r3⟩ := opens_slice Try.underlying41 cols_X (by omega) m (fun m _ => opens_IndexR m) enc W _ _ f3 (by omega)
    refine ⟨⟨a0, a1, a2, a3⟩, ⟨⟨b0, b1, ⟨b3.1, fun c hc => (b3.2 c hc).1⟩⟩, b2, fun c hc => (b3.2 c hc).2⟩, rfl, rfl, ?_⟩
    intro i u v h1 h2
    match i, h1, h2 with
    | 0, h1, h2 => exact r0 0 u v h1 h2
    | 1, h1, h2 => exact r1 0 u v h1 h2
    | 2, h1, h2 => exact r2 0 u v h1 h2
    | 3, h1, h2 => exact r3 0 u v h1 h2
    | i + 4, h1, h2 => cases h1
instance : Inhabited Rw := ⟨[]⟩
end Go.Proofs.Ytlhnncmflnjinaa
set_option maxRecDepth 100000
namespace Go.Proofs.Ytlhnncmflnjinaa
open Go Go.RowKit Am
attribute [-go_sem] guardP_if guardK_if guardD_if COND_bool
attribute [local go_sem low] guardP_if guardK_if guardD_if COND_bool

end Go.Proofs.Ytlhnncmflnjinaa
