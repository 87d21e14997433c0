/- The abstract machine: a contract that tells what it writes, whose result may be a slice without memory. -/
import Derived.Test.YtlhnncmflnjinaaMv
set_option linter.unusedSimpArgs false
set_option linter.unusedVariables false
namespace Go.Proofs.Ytlhnncmflnjinaa.Am
open Go Go.RowKit
section
variable {P : Program}
theorem conW_ofE {f : FuncId} {args : List AV} {pre : List (Nat × Ob)} {id k : Nat} {cl : Bool} {r : AEnd} {wr : Wr} (hgo : goFn P f = true)
    (h : ∀ (σ : Hp) (n : Nat), (∀ p ∈ pre, σ p.1 = some p.2) → (∀ q, q < 16 → σ (id + q) = none) → id + 16 ≤ n → (∀ j, n ≤ j → σ j = none) →
      ConH P f args σ n (fun r' σ' _ => Wn id r' σ' [] [] r (applyW σ wr) ∨ (r' = .ret .em ∧ r = .ret (.ow id k 0 0) ∧ wr = [(id, some (.c ⟨k, [], true, cl⟩))] ∧ ∀ i x, σ i = some x → σ' i = some x))) : ConW P f args pre id r wr := by
  refine ⟨hgo, fun N β σ F w vs hpre hid T hT hF hN H hargs => ?_⟩
  have H' : HRel N β σ (Fn T F T) w := ⟨fun i hi => H.dom i (hi.elim (hF i) (fun h => h.1)), H.off, H.inj, H.blk, H.map⟩
  refine ((h σ T hpre (fun q hq => (H.dom _ (hid _ (by omega) (by omega))).2) hT (fun j hj => (H.dom j (hF j hj)).2)).2 N T F β w vs (Nat.le_refl _) hN H' hargs).mono ?_
  rintro e w' ⟨β', r', σ', n', hw, hn, hl⟩
  rcases hw with hw | ⟨rfl, rfl, rfl, hk⟩
  · obtain ⟨β2, h2⟩ := hw.sound hN (fun p hp => by cases hp) (fun p hp => by cases hp) (fun i hi _ => Or.inr ⟨hid _ (by omega) (by omega), by omega⟩) hl
    refine ⟨β2, n', hn, h2.1, ⟨fun i hi => h2.2.1.dom i ⟨?_, hi.2.1⟩, h2.2.1.off, h2.2.1.inj, h2.2.1.blk, h2.2.1.map⟩, h2.2.2.1, h2.2.2.2.1, h2.2.2.2.2⟩
    rcases hi.2.2 with h | h
    · exact Or.inr ⟨hi.1, h⟩
    · exact Or.inl h
  · obtain ⟨l1, l2, l3, l4, l5⟩ := hl.less (σ2 := σ) (fun i x hx => ⟨x, hk i x hx, .refl x⟩)
    have R : SRel N w (own β σ) β [] β' (fun _ => .tp []) σ (Fn T F n') { tmps := #[], defers := [] } w' := ⟨l2, fun t => .tp #[] [] rfl (fun i u z h _ => by simp at h), l4, l5, hN, rfl, l1⟩
    obtain ⟨R', up⟩ := R.imagine id (Or.inr ⟨hid id (Nat.le_refl _) (by omega), by omega⟩) k cl
    refine ⟨β', n', hn, R'.ext, (R'.free (F' := fun j => F j ∧ ¬ (id ≤ j ∧ j < id + 16) ∧ (j < T ∨ n' ≤ j)) (fun j hj => ⟨?_, fun e => hj.2.1 ⟨by omega, by omega⟩⟩)).heap, ?_, R'.frame, R'.old⟩
    · rcases hj.2.2 with h | h
      · exact Or.inr ⟨hj.1, h⟩
      · exact Or.inl h
    · cases e with
      | returned v =>
        cases l3 with
        | em A => exact .ow0 _ _ _
      | panicked ch => exact l3.elim
      | _ => exact l3.elim
/-- a new block gets the name that was told -/
theorem wn_new {id j k off len : Nat} {x : Ob} {σ σ' : Hp} (hx : σ' j = some x) (hj : ∀ q, q < 16 → j ≠ id + q) (hj0 : σ j = none) (hk : ∀ i y, σ i = some y → σ' i = some y) :
    Wn id (.ret (.ow j k off len)) σ' [] [] (.ret (.ow id k off len)) (applyW σ [(id, some x)]) := by
  refine .move _ _ _ _ j 0 x _ _ hx (by omega) (by simp) hj (.ret _ (.ow (id + 0) k off len) _ _ _ _ _ (.ow j (id + 0) k off len (by simp)) (.less _ _ _ _ (applyW σ [(id, some x)]) _ _ (fun i y hy => ?_) (.done _ _ _ _)))
  simp only [applyW, upd, Nat.add_zero] at hy ⊢
  by_cases e : i = id
  · rw [if_pos e] at hy ⊢; exact ⟨y, hy, .refl y⟩
  · rw [if_neg e] at hy ⊢
    by_cases e2 : i = j
    · subst e2; rw [hj0] at hy; cases hy
    · rw [if_neg e2]; exact ⟨y, hk i y hy, .refl y⟩
end
end Go.Proofs.Ytlhnncmflnjinaa.Am
