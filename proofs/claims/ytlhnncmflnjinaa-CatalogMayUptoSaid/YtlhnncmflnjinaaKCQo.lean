/- Packed by a program of this repo: Qo. -/
import Derived.Test.YtlhnncmflnjinaaKCPf
import Derived.Test.YtlhnncmflnjinaaKCQg
set_option linter.unusedSimpArgs false
set_option linter.unusedVariables false
set_option maxRecDepth 100000
namespace Go.Proofs.Ytlhnncmflnjinaa
open Go Go.RowKit Am Go.ChangeShapes Go.WideShapes Go.ChangeAt
attribute [-go_sem] guardP_if guardK_if guardD_if COND_bool
attribute [local go_sem low] guardP_if guardK_if guardD_if COND_bool

instance : Inhabited Se := ⟨⟨[], .zero⟩⟩
instance : Inhabited Od := ⟨⟨0, false⟩⟩
theorem opens_Exprs (n : Nat) : Opens 25 1 encRx (fun l : List Ep => l.length ≤ 1048576 ∧ ∀ a ∈ l, BdRg a) n :=
  opens_slice Try.underlying25 cols_E (by omega) n (fun m _ => opens_Expr m)
theorem LBd.of {l : List Ep} (h : l.length ≤ 1048576 ∧ ∀ a ∈ l, BdRg a) : LBd l := ⟨h.1, fun e he => (h.2 e he).1⟩
theorem opens_Order (n : Nat) : Opens 128 2 encO (fun _ : Od => True) n := by
  intro H enc W cs x h hb
  obtain ⟨xs, m, rfl, rfl, hl, hlen, hf⟩ := DataW.trod_struct Try.underlying128 h
  have hc : Try.prog.cellsOf 128 = 2 := by kernel_rfl
  rw [hc] at hl
  simp only [Rows.uptoBulk] at hb
  match cs, hl, xs, hlen, hf, hb with
  | [c0, c1], _, [y0, y1], _, hf, hb =>
    simp only [List.map_cons, List.map_nil, Rows.uptoBulkAll] at hb
    have z0 : Try.prog.cellsOf 3 = 1 := by kernel_rfl
    have f0 : DataW.trod enc Try.prog W 0 (fun _ => true) true m 3 [c0] = some y0 := by have this : DataW.trod enc Try.prog W 0 (fun _ => true) true m 3 (([c0, c1].drop 0).take (Try.prog.cellsOf 3)) = some y0 := hf 0 _ rfl; rw [z0] at this; exact this
    obtain ⟨a0, b0, _, _, r0⟩ := opens_int m enc W _ _ f0 (by omega)
    have z1 : Try.prog.cellsOf 4 = 1 := by kernel_rfl
    have f1 : DataW.trod enc Try.prog W 0 (fun _ => true) true m 4 [c1] = some y1 := by have this : DataW.trod enc Try.prog W 0 (fun _ => true) true m 4 (([c0, c1].drop 1).take (Try.prog.cellsOf 4)) = some y1 := hf 1 _ rfl; rw [z1] at this; exact this
    obtain ⟨a1, b1, _, _, r1⟩ := opens_bool m enc W _ _ f1 (by omega)
    refine ⟨⟨a0, a1⟩, trivial, rfl, rfl, ?_⟩
    intro i u v h1 h2
    match i, h1, h2 with
    | 0, h1, h2 => exact r0 0 u v h1 h2
    | 1, h1, h2 => exact r1 0 u v h1 h2
    | i + 2, h1, h2 => cases h1
theorem opens_Set (n : Nat) : Opens 126 8 encS (fun x : Se => x.name.length ≤ 1048576 ∧ Bd x.ex) n := by
  intro H enc W cs x h hb
  obtain ⟨xs, m, rfl, rfl, hl, hlen, hf⟩ := DataW.trod_struct Try.underlying126 h
  have hc : Try.prog.cellsOf 126 = 8 := by kernel_rfl
  rw [hc] at hl
  simp only [Rows.uptoBulk] at hb
  match cs, hl, xs, hlen, hf, hb with
  | [c0, c1, c2, c3, c4, c5, c6, c7], _, [y0, y1], _, hf, hb =>
    simp only [List.map_cons, List.map_nil, Rows.uptoBulkAll] at hb
    have z0 : Try.prog.cellsOf 9 = 1 := by kernel_rfl
    have f0 : DataW.trod enc Try.prog W 0 (fun _ => true) true m 9 [c0] = some y0 := by have this : DataW.trod enc Try.prog W 0 (fun _ => true) true m 9 (([c0, c1, c2, c3, c4, c5, c6, c7].drop 0).take (Try.prog.cellsOf 9)) = some y0 := hf 0 _ rfl; rw [z0] at this; exact this
    obtain ⟨a0, b0, _, _, r0⟩ := opens_str m enc W _ _ f0 (by omega)
    have z1 : Try.prog.cellsOf 27 = 7 := by kernel_rfl
    have f1 : DataW.trod enc Try.prog W 0 (fun _ => true) true m 27 [c1, c2, c3, c4, c5, c6, c7] = some y1 := by have this : DataW.trod enc Try.prog W 0 (fun _ => true) true m 27 (([c0, c1, c2, c3, c4, c5, c6, c7].drop 1).take (Try.prog.cellsOf 27)) = some y1 := hf 1 _ rfl; rw [z1] at this; exact this
    obtain ⟨a1, b1, _, _, r1⟩ := opens_Expr m enc W _ _ f1 (by omega)
    refine ⟨⟨a0, a1⟩, ⟨b0, b1.1⟩, rfl, encS_len _, ?_⟩
    intro i u v h1 h2
    rw [encS] at h2
    match i, h1, h2 with
    | 0, h1, h2 => exact r0 0 u v h1 h2
    | 1, h1, h2 => exact r1 0 u v h1 h2
    | 2, h1, h2 => exact r1 1 u v h1 h2
    | 3, h1, h2 => exact r1 2 u v h1 h2
    | 4, h1, h2 => exact r1 3 u v h1 h2
    | 5, h1, h2 => exact r1 4 u v h1 h2
    | 6, h1, h2 => exact r1 5 u v h1 h2
    | 7, h1, h2 => exact r1 6 u v h1 h2
    | i + 8, h1, h2 => cases h1
theorem cols_S : Try.prog.cellsOf 126 = 8 := by kernel_rfl
theorem cols_O : Try.prog.cellsOf 128 = 2 := by kernel_rfl
theorem cols_Es : Try.prog.cellsOf 25 = 1 := by kernel_rfl
theorem cols_T : Try.prog.cellsOf 43 = 4 := by kernel_rfl
theorem opens_Stmt (n : Nat) : Opens 52 14 encSm SBd n := by
  intro H enc W cs x h hb
  obtain ⟨xs, m, rfl, rfl, hl, hlen, hf⟩ := DataW.trod_struct Try.underlying52 h
  have hc : Try.prog.cellsOf 52 = 14 := by kernel_rfl
  rw [hc] at hl
  simp only [Rows.uptoBulk] at hb
  match cs, hl, xs, hlen, hf, hb with
  | [c0, c1, c2, c3, c4, c5, c6, c7, c8, c9, c10, c11, c12, c13], _, [y0, y1, y2, y3, y4, y5, y6, y7, y8, y9, y10, y11, y12, y13], _, hf, hb =>
    simp only [List.map_cons, List.map_nil, Rows.uptoBulkAll] at hb
    have z0 : Try.prog.cellsOf 3 = 1 := by kernel_rfl
    have f0 : DataW.trod enc Try.prog W 0 (fun _ => true) true m 3 [c0] = some y0 := by have this : DataW.trod enc Try.prog W 0 (fun _ => true) true m 3 (([c0, c1, c2, c3, c4, c5, c6, c7, c8, c9, c10, c11, c12, c13].drop 0).take (Try.prog.cellsOf 3)) = some y0 := hf 0 _ rfl; rw [z0] at this; exact this
    obtain ⟨a0, b0, _, _, r0⟩ := opens_int m enc W _ _ f0 (by omega)
    have z1 : Try.prog.cellsOf 9 = 1 := by kernel_rfl
    have f1 : DataW.trod enc Try.prog W 0 (fun _ => true) true m 9 [c1] = some y1 := by have this : DataW.trod enc Try.prog W 0 (fun _ => true) true m 9 (([c0, c1, c2, c3, c4, c5, c6, c7, c8, c9, c10, c11, c12, c13].drop 1).take (Try.prog.cellsOf 9)) = some y1 := hf 1 _ rfl; rw [z1] at this; exact this
    obtain ⟨a1, b1, _, _, r1⟩ := opens_str m enc W _ _ f1 (by omega)
    have z2 : Try.prog.cellsOf 40 = 1 := by kernel_rfl
    have f2 : DataW.trod enc Try.prog W 0 (fun _ => true) true m 40 [c2] = some y2 := by have this : DataW.trod enc Try.prog W 0 (fun _ => true) true m 40 (([c0, c1, c2, c3, c4, c5, c6, c7, c8, c9, c10, c11, c12, c13].drop 2).take (Try.prog.cellsOf 40)) = some y2 := hf 2 _ rfl; rw [z2] at this; exact this
    obtain ⟨a2, b2, _, _, r2⟩ := opens_slice Try.underlying40 cols_C (by omega) m (fun m _ => opens_Column m) enc W _ _ f2 (by omega)
    have z3 : Try.prog.cellsOf 9 = 1 := by kernel_rfl
    have f3 : DataW.trod enc Try.prog W 0 (fun _ => true) true m 9 [c3] = some y3 := by have this : DataW.trod enc Try.prog W 0 (fun _ => true) true m 9 (([c0, c1, c2, c3, c4, c5, c6, c7, c8, c9, c10, c11, c12, c13].drop 3).take (Try.prog.cellsOf 9)) = some y3 := hf 3 _ rfl; rw [z3] at this; exact this
    obtain ⟨a3, b3, _, _, r3⟩ := opens_str m enc W _ _ f3 (by omega)
    have z4 : Try.prog.cellsOf 9 = 1 := by kernel_rfl
    have f4 : DataW.trod enc Try.prog W 0 (fun _ => true) true m 9 [c4] = some y4 := by have this : DataW.trod enc Try.prog W 0 (fun _ => true) true m 9 (([c0, c1, c2, c3, c4, c5, c6, c7, c8, c9, c10, c11, c12, c13].drop 4).take (Try.prog.cellsOf 9)) = some y4 := hf 4 _ rfl; rw [z4] at this; exact this
    obtain ⟨a4, b4, _, _, r4⟩ := opens_str m enc W _ _ f4 (by omega)
    have z5 : Try.prog.cellsOf 48 = 1 := by kernel_rfl
    have f5 : DataW.trod enc Try.prog W 0 (fun _ => true) true m 48 [c5] = some y5 := by have this : DataW.trod enc Try.prog W 0 (fun _ => true) true m 48 (([c0, c1, c2, c3, c4, c5, c6, c7, c8, c9, c10, c11, c12, c13].drop 5).take (Try.prog.cellsOf 48)) = some y5 := hf 5 _ rfl; rw [z5] at this; exact this
    obtain ⟨a5, b5, _, _, r5⟩ := opens_slice Try.underlying48 cols_Es (by omega) m (fun m _ => opens_Exprs m) enc W _ _ f5 (by omega)
    have z6 : Try.prog.cellsOf 49 = 1 := by kernel_rfl
    have f6 : DataW.trod enc Try.prog W 0 (fun _ => true) true m 49 [c6] = some y6 := by have this : DataW.trod enc Try.prog W 0 (fun _ => true) true m 49 (([c0, c1, c2, c3, c4, c5, c6, c7, c8, c9, c10, c11, c12, c13].drop 6).take (Try.prog.cellsOf 49)) = some y6 := hf 6 _ rfl; rw [z6] at this; exact this
    obtain ⟨a6, b6, _, _, r6⟩ := opens_slice Try.underlying49 cols_S (by omega) m (fun m _ => opens_Set m) enc W _ _ f6 (by omega)
    have z7 : Try.prog.cellsOf 25 = 1 := by kernel_rfl
    have f7 : DataW.trod enc Try.prog W 0 (fun _ => true) true m 25 [c7] = some y7 := by have this : DataW.trod enc Try.prog W 0 (fun _ => true) true m 25 (([c0, c1, c2, c3, c4, c5, c6, c7, c8, c9, c10, c11, c12, c13].drop 7).take (Try.prog.cellsOf 25)) = some y7 := hf 7 _ rfl; rw [z7] at this; exact this
    obtain ⟨a7, b7, _, _, r7⟩ := opens_Exprs m enc W _ _ f7 (by omega)
    have z8 : Try.prog.cellsOf 9 = 1 := by kernel_rfl
    have f8 : DataW.trod enc Try.prog W 0 (fun _ => true) true m 9 [c8] = some y8 := by have this : DataW.trod enc Try.prog W 0 (fun _ => true) true m 9 (([c0, c1, c2, c3, c4, c5, c6, c7, c8, c9, c10, c11, c12, c13].drop 8).take (Try.prog.cellsOf 9)) = some y8 := hf 8 _ rfl; rw [z8] at this; exact this
    obtain ⟨a8, b8, _, _, r8⟩ := opens_str m enc W _ _ f8 (by omega)
    have z9 : Try.prog.cellsOf 25 = 1 := by kernel_rfl
    have f9 : DataW.trod enc Try.prog W 0 (fun _ => true) true m 25 [c9] = some y9 := by have this : DataW.trod enc Try.prog W 0 (fun _ => true) true m 25 (([c0, c1, c2, c3, c4, c5, c6, c7, c8, c9, c10, c11, c12, c13].drop 9).take (Try.prog.cellsOf 25)) = some y9 := hf 9 _ rfl; rw [z9] at this; exact this
    obtain ⟨a9, b9, _, _, r9⟩ := opens_Exprs m enc W _ _ f9 (by omega)
    have z10 : Try.prog.cellsOf 25 = 1 := by kernel_rfl
    have f10 : DataW.trod enc Try.prog W 0 (fun _ => true) true m 25 [c10] = some y10 := by have this : DataW.trod enc Try.prog W 0 (fun _ => true) true m 25 (([c0, c1, c2, c3, c4, c5, c6, c7, c8, c9, c10, c11, c12, c13].drop 10).take (Try.prog.cellsOf 25)) = some y10 := hf 10 _ rfl; rw [z10] at this; exact this
    obtain ⟨a10, b10, _, _, r10⟩ := opens_Exprs m enc W _ _ f10 (by omega)
    have z11 : Try.prog.cellsOf 25 = 1 := by kernel_rfl
    have f11 : DataW.trod enc Try.prog W 0 (fun _ => true) true m 25 [c11] = some y11 := by have this : DataW.trod enc Try.prog W 0 (fun _ => true) true m 25 (([c0, c1, c2, c3, c4, c5, c6, c7, c8, c9, c10, c11, c12, c13].drop 11).take (Try.prog.cellsOf 25)) = some y11 := hf 11 _ rfl; rw [z11] at this; exact this
    obtain ⟨a11, b11, _, _, r11⟩ := opens_Exprs m enc W _ _ f11 (by omega)
    have z12 : Try.prog.cellsOf 50 = 1 := by kernel_rfl
    have f12 : DataW.trod enc Try.prog W 0 (fun _ => true) true m 50 [c12] = some y12 := by have this : DataW.trod enc Try.prog W 0 (fun _ => true) true m 50 (([c0, c1, c2, c3, c4, c5, c6, c7, c8, c9, c10, c11, c12, c13].drop 12).take (Try.prog.cellsOf 50)) = some y12 := hf 12 _ rfl; rw [z12] at this; exact this
    obtain ⟨a12, b12, _, _, r12⟩ := opens_slice Try.underlying50 cols_O (by omega) m (fun m _ => opens_Order m) enc W _ _ f12 (by omega)
    have z13 : Try.prog.cellsOf 3 = 1 := by kernel_rfl
    have f13 : DataW.trod enc Try.prog W 0 (fun _ => true) true m 3 [c13] = some y13 := by have this : DataW.trod enc Try.prog W 0 (fun _ => true) true m 3 (([c0, c1, c2, c3, c4, c5, c6, c7, c8, c9, c10, c11, c12, c13].drop 13).take (Try.prog.cellsOf 3)) = some y13 := hf 13 _ rfl; rw [z13] at this; exact this
    obtain ⟨a13, b13, _, _, r13⟩ := opens_int m enc W _ _ f13 (by omega)
    refine ⟨⟨a0, a1, a2, a3, a4, a5, a6, a7, a8, a9, a10, a11, a12, a13⟩, ⟨b1, b3, b4, b8, b2.1, b2.2, b5.1, fun l hl => LBd.of (b5.2 l hl), b6.1, b6.2, LBd.of b7, LBd.of b9, LBd.of b10, LBd.of b11, b12.1⟩, rfl, rfl, ?_⟩
    intro i u v h1 h2
    match i, h1, h2 with
    | 0, h1, h2 => exact r0 0 u v h1 h2
    | 1, h1, h2 => exact r1 0 u v h1 h2
    | 2, h1, h2 => exact r2 0 u v h1 h2
    | 3, h1, h2 => exact r3 0 u v h1 h2
    | 4, h1, h2 => exact r4 0 u v h1 h2
    | 5, h1, h2 => exact r5 0 u v h1 h2
    | 6, h1, h2 => exact r6 0 u v h1 h2
    | 7, h1, h2 => exact r7 0 u v h1 h2
    | 8, h1, h2 => exact r8 0 u v h1 h2
    | 9, h1, h2 => exact r9 0 u v h1 h2
    | 10, h1, h2 => exact r10 0 u v h1 h2
    | 11, h1, h2 => exact r11 0 u v h1 h2
    | 12, h1, h2 => exact r12 0 u v h1 h2
    | 13, h1, h2 => exact r13 0 u v h1 h2
    | i + 14, h1, h2 => cases h1
theorem opens_State (n : Nat) : Opens 47 1 (fun ts : List Tb => [.tr (ts.map encT)]) CBd n := by
  intro H enc W cs x h hb
  obtain ⟨xs, m, rfl, rfl, hl, hlen, hf⟩ := DataW.trod_struct Try.underlying47 h
  have hc : Try.prog.cellsOf 47 = 1 := by kernel_rfl
  rw [hc] at hl
  simp only [Rows.uptoBulk] at hb
  match cs, hl, xs, hlen, hf, hb with
  | [c0], _, [y0], _, hf, hb =>
    simp only [List.map_cons, List.map_nil, Rows.uptoBulkAll] at hb
    have z0 : Try.prog.cellsOf 22 = 1 := by kernel_rfl
    have f0 : DataW.trod enc Try.prog W 0 (fun _ => true) true m 22 [c0] = some y0 := by have this : DataW.trod enc Try.prog W 0 (fun _ => true) true m 22 (([c0].drop 0).take (Try.prog.cellsOf 22)) = some y0 := hf 0 _ rfl; rw [z0] at this; exact this
    obtain ⟨a0, b0, _, _, r0⟩ := opens_slice Try.underlying22 cols_T (by omega) m (fun m _ => opens_TableR m) enc W _ _ f0 (by omega)
    refine ⟨a0, ⟨b0.1, b0.2⟩, rfl, rfl, ?_⟩
    intro i u v h1 h2
    match i, h1, h2 with
    | 0, h1, h2 => exact r0 0 u v h1 h2
    | i + 1, h1, h2 => cases h1
theorem rel_struct {α : Type} {t : TypeId} {k : Nat} {f : α → List AV} {B : α → Prop} (ho : ∀ n, Opens t k f B n) {H : Type} {enc : TypeId × Value → H} {W : World} {cs : Array Value} {d : DataW H} {ps : List MemPlace} (h : DataW.Trod enc Try.prog W 0 (fun _ => true) true t (.agg cs) d ps) (hb : Rows.uptoBulk d ≤ 1048576) :
    ∃ a, B a ∧ Rel noB W nob (.agg cs) (.ag (f a)) := by
  obtain ⟨n, hn⟩ := h
  obtain ⟨a, h1, h2, h3, h4⟩ := ho n enc W _ _ hn hb
  refine ⟨a, h1, .ag _ _ (by simp [Value.cells] at h2 ⊢; omega) (fun i u z hu hz => h4 i u z ?_ hz)⟩
  simpa [Value.cells] using hu
end Go.Proofs.Ytlhnncmflnjinaa
