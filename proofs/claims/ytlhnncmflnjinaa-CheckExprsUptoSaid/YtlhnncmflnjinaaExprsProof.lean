/- CheckExprs: for every list of tables, expression and flag, of bulk at most 1048576, the law returns true. -/
import Derived.Test.YtlhnncmflnjinaaRx
import Derived.Test.YtlhnncmflnjinaaDq
set_option linter.unusedSimpArgs false
set_option linter.unusedVariables false
namespace Go.Proofs.Ytlhnncmflnjinaa.checkExprs
open Go Go.RowKit Am Go.ChangeShapes Go.WideShapes Go.ChangeAt

theorem own : ownKnob Try.prog.godebug = none := by kernel_rfl

set_option maxRecDepth 100000 in
theorem contract (H : Type) (enc : TypeId × Value → H) (W : World) (base : Nat) (args : Array Value) (ds gs : List (DataW H)) (before : List MemPlace)
    (hval : ∀ (j : Nat) t v, Try.f3.params[j]? = some t → args[j]? = some v → Value.okWide Try.prog W .any base t v)
    (hW : DataW.Whole enc Try.prog Try.f3.params.toList Rows.checkExprsSpec.vars false W args.toList ds gs before) (hk : Rows.uptoSmall H (ds ++ gs) = true) (hsh : W.ShapedOpen Try.prog) :
    Calls Try.prog 3 args W fun e W' => ∃ v, e = .returned v ∧ Rows.checkExprsSpec.post enc Try.prog Try.f3 false true false false W args v W' := by
  have hW' := hW
  obtain ⟨p, q, hA, hV, rfl, hfz, hnd⟩ := hW
  rw [Try.params3] at hA hval
  obtain ⟨v0, vs0, d0, ds0, p0, q0, hargs, rfl, rfl, h0, r0⟩ := trodAll_cons hA
  obtain ⟨v1, vs1, d1, ds1, p1, q1, rfl, rfl, rfl, h1, r1⟩ := trodAll_cons r0
  obtain ⟨v2, vs2, d2, ds2, p2, q2, rfl, rfl, rfl, h2, r2⟩ := trodAll_cons r1
  obtain ⟨rfl, rfl, rfl⟩ := trodAll_nil r2
  obtain rfl : args = #[v0, v1, v2] := by cases args; simp_all
  obtain ⟨rfl, rfl⟩ := trodVars_none hV
  obtain ⟨b, rfl, rfl, rfl⟩ := open_bool Try.underlying4 (hval 2 4 v2 rfl rfl) h2
  obtain ⟨a0, len0, cap0, rfl⟩ := okWide_slice Try.underlying22 (hval 0 22 v0 rfl rfl)
  have hkk : Rows.uptoBulkAll [d0, d1, DataW.lit (.bool b)] ≤ 1048576 := of_decide_eq_true hk
  simp only [Rows.uptoBulkAll] at hkk
  obtain ⟨ts, z, ⟨ht1, ht2⟩, hz, hrel0⟩ := rel_one (fun n => opens_slice Try.underlying22 (by kernel_rfl : Try.prog.cellsOf 43 = 4) (by omega) n (fun m _ => opens_Table m)) h0 rfl (by omega)
  cases hz
  obtain ⟨e, he, hrel1⟩ := rel_agg (by omega) opens_Expr h1 (by omega)
  have hc := checkExprs_con ts e b ht1 (fun t ht => ⟨(ht2 t ht).col.1, (ht2 t ht).ind.1⟩) he.1 he.2
  refine (hc.2 noB W _ (away_of hsh) ⟨rfl, ?_⟩).mono fun e' W' ⟨h, hf⟩ => ?_
  · intro i u z hu hz
    match i, hu, hz with
    | 0, hu, hz => cases hu; cases hz; exact hrel0
    | 1, hu, hz => cases hu; cases hz; exact hrel1
    | 2, hu, hz => cases hu; cases hz; exact .sc _
    | i + 3, hu, hz => cases hz
  · cases e' with
    | returned v =>
      have : v = .bool true := by cases h; rfl
      subst this
      exact ⟨_, rfl, post_true rfl rfl (by rw [Try.params3]; exact of_decide_eq_true (by kernel_rfl)) hW' rfl (Fr.below hf)⟩
    | panicked ch => exact h.elim
    | _ => exact h.elim

set_option maxRecDepth 100000 in
theorem lifted (os : Os) (started : os.Started) (H : Type) (enc : TypeId × Value → H) (F : Stop.Interp) :
    ReturnsInHanded {} Try.checked os 3 .any ((Rows.OpenSpec.upto Rows.checkExprsSpec).pre6 enc Try.prog Try.f3 Rows.checkExprsUptoRow.domain false) (((Rows.OpenSpec.upto Rows.checkExprsSpec).at F).post enc Try.prog Try.f3 false true false false) := by
  refine returnsInHanded_of_cond_shaped (C := Try.checked) (s := Rows.OpenSpec.upto Rows.checkExprsSpec) (k := Rows.uptoSmall) rfl own started (by kernel_rfl) Try.func3
    (OpenSpec.witness (enc := enc) (C := Try.checked) (s := Rows.OpenSpec.upto Rows.checkExprsSpec) (k := Rows.uptoSmall) rfl false ⟨#[], #[.slice none 0 0, .agg #[.int .i64 0, .int .i64 0, .int .i64 0, .string .empty, .string .empty, .string .empty, .slice none 0 0], .bool false], []⟩ 8 (by kernel_rfl) (by kernel_rfl) (by kernel_rfl)
      (x := ([.nil, .agg [.lit (.int .i64 0), .agg [.lit (.int .i64 0), .lit (.int .i64 0), .lit (.string [])], .lit (.string []), .lit (.string []), .nil], .lit (.bool false)], [], [])) (by kernel_rfl) (by kernel_rfl) (by kernel_rfl)) ?_
  intro W base args ds gs before hval hW hk hsh
  exact contract H enc W base args ds gs before hval hW hk hsh

theorem over : Rows.CheckExprsUptoSaid :=
  OpenClaim.holds_of_cond 3 Try.f3 rfl rfl rfl rfl rfl rfl rfl ⟨rfl, rfl, rfl, rfl, rfl⟩ rfl rfl rfl rfl rfl (by kernel_rfl) Try.func3 (by kernel_rfl)
    (of_decide_eq_true (by kernel_rfl)) (by unfold Func.isWrapper; first | (rw [if_pos (by decide +kernel)]; kernel_rfl) | (rw [if_neg (by decide +kernel)]; exact ⟨rfl, rfl⟩))
    (fun os started H enc _ F => lifted os started H enc F)
end Go.Proofs.Ytlhnncmflnjinaa.checkExprs
namespace Go.Proofs.Ytlhnncmflnjinaa
theorem CheckExprsUpto_holds : Rows.CheckExprsUptoSaid := checkExprs.over
end Go.Proofs.Ytlhnncmflnjinaa
