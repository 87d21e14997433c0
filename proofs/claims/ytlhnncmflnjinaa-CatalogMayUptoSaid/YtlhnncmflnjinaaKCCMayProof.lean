/- Packed by a program of this repo: CMayProof. -/
import Derived.Test.YtlhnncmflnjinaaKCRx
import Derived.Test.YtlhnncmflnjinaaKCQs
import Derived.Test.YtlhnncmflnjinaaKCQo
set_option linter.unusedSimpArgs false
set_option linter.unusedVariables false
namespace Go.Proofs.Ytlhnncmflnjinaa.catalogMay
open Go Go.RowKit Am Go.ChangeShapes Go.WideShapes Go.ChangeAt

theorem own : ownKnob Try.prog.godebug = none := by kernel_rfl

set_option maxRecDepth 100000 in
theorem contract (H : Type) (enc : TypeId × Value → H) (W : World) (base : Nat) (args : Array Value) (ds gs : List (DataW H)) (before : List MemPlace)
    (hval : ∀ (j : Nat) t v, Try.f12.params[j]? = some t → args[j]? = some v → Value.okWide Try.prog W .any base t v)
    (hW : DataW.Whole enc Try.prog Try.f12.params.toList Rows.catalogMaySpec.vars false W args.toList ds gs before) (hk : Rows.uptoSmall H (ds ++ gs) = true) (hsh : W.ShapedOpen Try.prog) :
    Calls Try.prog 12 args W fun e W' => ∃ v, e = .returned v ∧ Rows.catalogMaySpec.post enc Try.prog Try.f12 false true false false W args v W' := by
  have hW' := hW
  obtain ⟨p, q, hA, hV, rfl, hfz, hnd⟩ := hW
  rw [Try.params12] at hA hval
  obtain ⟨v0, vs0, d0, ds0, p0, q0, hargs, rfl, rfl, h0, r0⟩ := trodAll_cons hA
  obtain ⟨v1, vs1, d1, ds1, p1, q1, rfl, rfl, rfl, h1, r1⟩ := trodAll_cons r0
  obtain ⟨v2, vs2, d2, ds2, p2, q2, rfl, rfl, rfl, h2, r2⟩ := trodAll_cons r1
  obtain ⟨rfl, rfl, rfl⟩ := trodAll_nil r2
  obtain rfl : args = #[v0, v1, v2] := by cases args; simp_all
  obtain ⟨rfl, rfl⟩ := trodVars_none hV
  obtain ⟨cs0, rfl, _⟩ := okWide_struct Try.underlying47 (hval 0 47 v0 rfl rfl)
  have hkk : Rows.uptoBulkAll [d0, d1, d2] ≤ 1048576 := of_decide_eq_true hk
  simp only [Rows.uptoBulkAll] at hkk
  obtain ⟨a0, k0, hrel0⟩ := rel_struct opens_State h0 (by omega)
  obtain ⟨a1, k1, hrel1⟩ := rel_agg (by omega) opens_Stmt h1 (by omega)
  obtain ⟨a2, k2, hrel2⟩ := rel_agg (by omega) opens_Stmt h2 (by omega)
  have hc := catalogMay_con a0 a1 a2 k0 k1 k2
  refine (hc.2 noB W _ (away_of hsh) ⟨rfl, ?_⟩).mono fun e' W' ⟨h, hf⟩ => ?_
  · intro i u z hu hz
    match i, hu, hz with
    | 0, hu, hz => cases hu; cases hz; exact hrel0
    | 1, hu, hz => cases hu; cases hz; exact hrel1
    | 2, hu, hz => cases hu; cases hz; exact hrel2
    | i + 3, hu, hz => cases hz
  · cases e' with
    | returned v =>
      have : v = .bool true := by cases h; rfl
      subst this
      exact ⟨_, rfl, post_true rfl rfl (by rw [Try.params12]; exact of_decide_eq_true (by kernel_rfl)) hW' rfl (Fr.below hf)⟩
    | panicked ch => exact h.elim
    | _ => exact h.elim

set_option maxRecDepth 100000 in
theorem lifted (os : Os) (started : os.Started) (H : Type) (enc : TypeId × Value → H) (F : Stop.Interp) :
    ReturnsInHanded {} Try.checked os 12 .any ((Rows.OpenSpec.upto Rows.catalogMaySpec).pre6 enc Try.prog Try.f12 Rows.catalogMayUptoRow.domain false) (((Rows.OpenSpec.upto Rows.catalogMaySpec).at F).post enc Try.prog Try.f12 false true false false) := by
  refine returnsInHanded_of_cond_shaped (C := Try.checked) (s := Rows.OpenSpec.upto Rows.catalogMaySpec) (k := Rows.uptoSmall) rfl own started (by kernel_rfl) Try.func12
    (OpenSpec.witness (enc := enc) (C := Try.checked) (s := Rows.OpenSpec.upto Rows.catalogMaySpec) (k := Rows.uptoSmall) rfl false ⟨#[], #[.agg #[.slice none 0 0], .agg #[.int .i64 0, .string .empty, .slice none 0 0, .string .empty, .string .empty, .slice none 0 0, .slice none 0 0, .slice none 0 0, .string .empty, .slice none 0 0, .slice none 0 0, .slice none 0 0, .slice none 0 0, .int .i64 0], .agg #[.int .i64 0, .string .empty, .slice none 0 0, .string .empty, .string .empty, .slice none 0 0, .slice none 0 0, .slice none 0 0, .string .empty, .slice none 0 0, .slice none 0 0, .slice none 0 0, .slice none 0 0, .int .i64 0]], []⟩ 8 (by kernel_rfl) (by kernel_rfl) (by kernel_rfl)
      (x := ([.agg [.nil], .agg [.lit (.int .i64 0), .lit (.string []), .nil, .lit (.string []), .lit (.string []), .nil, .nil, .nil, .lit (.string []), .nil, .nil, .nil, .nil, .lit (.int .i64 0)], .agg [.lit (.int .i64 0), .lit (.string []), .nil, .lit (.string []), .lit (.string []), .nil, .nil, .nil, .lit (.string []), .nil, .nil, .nil, .nil, .lit (.int .i64 0)]], [], [])) (by kernel_rfl) (by kernel_rfl) (by kernel_rfl)) ?_
  intro W base args ds gs before hval hW hk hsh
  exact contract H enc W base args ds gs before hval hW hk hsh

theorem over : Rows.CatalogMayUptoSaid :=
  OpenClaim.holds_of_cond 12 Try.f12 rfl rfl rfl rfl rfl rfl rfl ⟨rfl, rfl, rfl, rfl, rfl⟩ rfl rfl rfl rfl rfl (by kernel_rfl) Try.func12 (by kernel_rfl)
    (of_decide_eq_true (by kernel_rfl)) (by unfold Func.isWrapper; first | (rw [if_pos (by decide +kernel)]; kernel_rfl) | (rw [if_neg (by decide +kernel)]; exact ⟨rfl, rfl⟩))
    (fun os started H enc _ F => lifted os started H enc F)
end Go.Proofs.Ytlhnncmflnjinaa.catalogMay
namespace Go.Proofs.Ytlhnncmflnjinaa
theorem CatalogMayUpto_holds : Rows.CatalogMayUptoSaid := catalogMay.over
end Go.Proofs.Ytlhnncmflnjinaa
