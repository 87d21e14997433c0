/- The abstract machine: contracts that tell what they write. -/
import Derived.Test.YtlhnncmflnjinaaMs
set_option linter.unusedSimpArgs false
set_option linter.unusedVariables false
namespace Go.Proofs.Ytlhnncmflnjinaa.Am
open Go Go.RowKit
section
variable {P : Program}
theorem ConH.fresh {f : FuncId} {args : List AV} {σ : Hp} {n : Nat} {R : AEnd → Hp → Nat → Prop} (hgo : goFn P f = true) (h : (∀ j, n ≤ j → σ j = none) → ConH P f args σ n R) : ConH P f args σ n R :=
  ⟨hgo, fun N T U β w vs hT hN H hargs => (h (fun j hj => (H.dom j (.inl hj)).2)).2 N T U β w vs hT hN H hargs⟩
/-- what it makes of the memory, but for what is forgotten -/
theorem conW_less {f : FuncId} {args : List AV} {pre : List (Nat × Ob)} {id : Nat} {r : AEnd} {wr : Wr} (hgo : goFn P f = true)
    (h : ∀ (σ : Hp) (n : Nat), (∀ p ∈ pre, σ p.1 = some p.2) → (∀ j, n ≤ j → σ j = none) → ConH P f args σ n (fun r' σ' _ => r' = r ∧ ∀ i x, applyW σ wr i = some x → σ' i = some x)) : ConW P f args pre id r wr :=
  conW_of hgo fun σ n hp _ => ConH.fresh hgo fun hf => (h σ n hp hf).mono fun r' σ' n' _ ⟨h1, h2⟩ => by
    subst h1
    exact .less _ _ _ _ (applyW σ wr) _ _ (fun i x hx => ⟨x, h2 i x hx, .refl x⟩) (.done _ _ _ _)
/-- the same; how it ends is told behind a name -/
theorem conW_less' {f : FuncId} {args : List AV} {pre : List (Nat × Ob)} {id : Nat} {r : AEnd} {wr : Wr} (hgo : goFn P f = true)
    (h : ∀ (σ : Hp) (n : Nat) (R : AEnd → Hp → Nat → Prop), (∀ p ∈ pre, σ p.1 = some p.2) → (∀ j, n ≤ j → σ j = none) → (∀ r' σ' n', r' = r → (∀ i x, applyW σ wr i = some x → σ' i = some x) → R r' σ' n') → ConH P f args σ n R) : ConW P f args pre id r wr :=
  conW_less hgo fun σ n hp hf => h σ n _ hp hf (fun _ _ _ h1 h2 => ⟨h1, h2⟩)
theorem CALL_conW {g : FuncId} {caps args : List AV} {pre : List (Nat × Ob)} {r : AEnd} {wr : Wr} {σ : Hp} {n : Nat} {K : AEnd → Hp → Nat → Prop} (h : ConW P g (args ++ caps) pre n r wr) (hp : ∀ p ∈ pre, σ p.1 = some p.2)
    (hk : ∀ n', n + 16 ≤ n' → K r (applyW σ wr) n') : CALL P (.fn g caps) args σ n K := .w ⟨pre, r, wr, hp, h, hk⟩
/-- a counter's block -/
abbrev blk1 (v : AV) : Ob := .c ⟨1, [[v]], true, false⟩
theorem callD_conS {g : FuncId} {caps args cs : List AV} {I : List Nat} {v : AV} {σ : Hp} {id : Nat} {K : AEnd → Wr → List Nat → Prop} (h : Con P g cs (.ret v)) (hb : brwL σ 3 (args ++ caps) = some (cs, I)) (hs : scal v = true)
    (hk : K (.ret v) [] I) : callD P (.fn g caps) args σ id K := .c ⟨cs, I, .ret v, hb, h, by simp only [hs, if_true]; exact hk⟩
theorem callD_conP {g : FuncId} {caps args cs : List AV} {I : List Nat} {v : Value} {σ : Hp} {id : Nat} {K : AEnd → Wr → List Nat → Prop} (h : Con P g cs (.pan v)) (hb : brwL σ 3 (args ++ caps) = some (cs, I))
    (hk : K (.pan v) [] I) : callD P (.fn g caps) args σ id K := .c ⟨cs, I, .pan v, hb, h, hk⟩
theorem brw_rf' (σ : Hp) (d i k r c : Nat) : brw σ (d + 1) (.rf i k r c) = (match σ i with
  | some (.c x) => if x.k = k then (match x.rows[r]? with
    | some row => if c < row.length then (brwL σ d (row.drop c)).map (fun p => (.fp p.1, i :: p.2)) else none
    | none => none) else none
  | _ => none) := rfl
theorem brw_ow' (σ : Hp) (d i k off len : Nat) : brw σ (d + 1) (.ow i k off len) = (match σ i with
  | some (.c x) => if x.k = k ∧ x.cl = true ∧ off + len ≤ x.rows.length ∧ 0 < k then some (.tr ((x.rows.drop off).take len), [i]) else none
  | _ => none) := rfl
attribute [go_sem] brw_rf' brw_ow' Apt names rdA rdY List.mem_cons List.not_mem_nil List.mem_append
end
end Go.Proofs.Ytlhnncmflnjinaa.Am
