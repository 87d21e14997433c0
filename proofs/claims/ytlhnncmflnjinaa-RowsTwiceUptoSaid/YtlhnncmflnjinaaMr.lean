/- The abstract machine: rules for reckoning shallow statements. -/
import Derived.Test.YtlhnncmflnjinaaMq
set_option linter.unusedSimpArgs false
set_option linter.unusedVariables false
namespace Go.Proofs.Ytlhnncmflnjinaa.Am
open Go Go.RowKit

theorem bindP_congr {o o' : Option AV} {K : AV → Prop} (h : o = o') : bindP o K = bindP o' K := by rw [h]
theorem bindS_congr {o o' : Option (AV × Wr)} {σ : Hp} {n : Nat} {K : AV → Hp → Nat → Prop} (h : o = o') : bindS o σ n K = bindS o' σ n K := by rw [h]
theorem bindH_congr {o o' : Option (AV × Wr)} {K : AV → Wr → Prop} (h : o = o') : bindH o K = bindH o' K := by rw [h]
theorem CALL_congr {P : Program} {f f' : AV} {args args' : List AV} {σ : Hp} {n : Nat} {K : AEnd → Hp → Nat → Prop} (h : f = f') (h' : args = args') : CALL P f args σ n K = CALL P f' args' σ n K := by rw [h, h']
theorem callD_congr {P : Program} {f f' : AV} {args args' : List AV} {σ σ' : Hp} {n : Nat} {K : AEnd → Wr → List Nat → Prop} (h : f = f') (h' : args = args') (h2 : σ = σ') : callD P f args σ n K = callD P f' args' σ' n K := by rw [h, h', h2]
theorem LOOP_congr {body : (List AV → Hp → Nat → Prop) → List AV → Hp → Nat → Prop} {s s' : List AV} {σ : Hp} {n : Nat} (h : s = s') : LOOP body s σ n = LOOP body s' σ n := by rw [h]
theorem COND_congr {c c' : AV} {A B : Prop} (h : c = c') : COND c A B = COND c' A B := by rw [h]
theorem guardP_congr {g g' : AV} {want : Bool} {o : Option AV} {K : AV → Prop} (h : g = g') : guardP g want o K = guardP g' want o K := by rw [h]
theorem guardK_congr {g g' : AV} {want : Bool} {e : (AV → Hp → Nat → Prop) → Prop} {σ : Hp} {n : Nat} {K : AV → Hp → Nat → Prop} (h : g = g') : guardK g want e σ n K = guardK g' want e σ n K := by rw [h]
theorem guardD_congr {g g' : AV} {want : Bool} {e : (AV → Wr → List Nat → Prop) → Prop} {K : AV → Wr → List Nat → Prop} (h : g = g') : guardD g want e K = guardD g' want e K := by rw [h]
theorem PAN_congr {x x' : AV} {K : Value → Prop} (h : x = x') : PAN x K = PAN x' K := by rw [h]
theorem onEnd_congr {r r' : AEnd} {K : AV → Prop} {Kp : Value → Prop} (h : r = r') : onEnd r K Kp = onEnd r' K Kp := by rw [h]
attribute [congr] bindP_congr bindS_congr bindH_congr CALL_congr callD_congr LOOP_congr COND_congr guardP_congr guardK_congr guardD_congr PAN_congr onEnd_congr

theorem bindP_some (v : AV) (K : AV → Prop) : bindP (some v) K = K v := rfl
theorem bindS_some (v : AV) (wr : Wr) (σ : Hp) (n : Nat) (K : AV → Hp → Nat → Prop) : bindS (some (v, wr)) σ n K = K v (applyW σ wr) (n + 16) := rfl
theorem bindH_some (v : AV) (wr : Wr) (K : AV → Wr → Prop) : bindH (some (v, wr)) K = K v wr := rfl
theorem onEnd_ret (v : AV) (K : AV → Prop) (Kp : Value → Prop) : onEnd (.ret v) K Kp = K v := id rfl
theorem onEnd_pan (x : Value) (K : AV → Prop) (Kp : Value → Prop) : onEnd (.pan x) K Kp = Kp x := id rfl
theorem onEnd_ite {c : Prop} [Decidable c] (a b : AEnd) (K : AV → Prop) (Kp : Value → Prop) : onEnd (if c then a else b) K Kp = ((c → onEnd a K Kp) ∧ (¬ c → onEnd b K Kp)) := by
  by_cases h : c <;> simp [h]
theorem onEnd_cond {c : Bool} (a b : AEnd) (K : AV → Prop) (Kp : Value → Prop) : onEnd (cond c a b) K Kp = ((c = true → onEnd a K Kp) ∧ (c = false → onEnd b K Kp)) := by
  cases c <;> simp
theorem PAN_iface (t : TypeId) (v : Value) (K : Value → Prop) : PAN (.sc (.iface t v)) K = K (.iface t v) := rfl
theorem COND_bool (t : Bool) (A B : Prop) : COND (.sc (.bool t)) A B = ((t = true → A) ∧ (t = false → B)) := rfl
theorem COND_bo (A B : Prop) : COND .bo A B = (A ∧ B) := rfl
theorem COND_true (A B : Prop) : COND (.sc (.bool true)) A B = A := by simp [COND]
theorem COND_false (A B : Prop) : COND (.sc (.bool false)) A B = B := by simp [COND]
theorem guardP_on (w : Bool) (o : Option AV) (K : AV → Prop) : guardP (.sc (.bool w)) w o K = bindP o K := by
  refine propext ⟨fun h => ?_, fun h => ⟨?_⟩⟩
  · obtain ⟨v, hv, h⟩ := h.h
    simp only [beq_self_eq_true, cond_true] at h
    rw [hv rfl]; exact h
  · unfold bindP at h
    split at h
    · rename_i v; exact ⟨v, fun _ => rfl, by simpa using h⟩
    · exact h.elim
theorem guardP_t (o : Option AV) (K : AV → Prop) : guardP (.sc (.bool true)) false o K = K (.tp []) :=
  propext ⟨fun h => (by obtain ⟨v, _, h⟩ := h.h; exact h), fun h => ⟨.any, (fun h => by cases h), h⟩⟩
theorem guardP_f (o : Option AV) (K : AV → Prop) : guardP (.sc (.bool false)) true o K = K (.tp []) :=
  propext ⟨fun h => (by obtain ⟨v, _, h⟩ := h.h; exact h), fun h => ⟨.any, (fun h => by cases h), h⟩⟩
theorem guardP_none (w : Bool) (o : Option AV) (K : AV → Prop) : guardP (.tp []) w o K = K (.tp []) := propext ⟨fun h => h.h, fun h => ⟨h⟩⟩
theorem guardP_if (b w : Bool) (o : Option AV) (K : AV → Prop) : guardP (.sc (.bool b)) w o K = ((b = w → bindP o K) ∧ (b = !w → K (.tp []))) := by
  cases b <;> cases w <;> simp [guardP_on, guardP_t, guardP_f]
theorem guardK_on (w : Bool) (e : (AV → Hp → Nat → Prop) → Prop) (σ : Hp) (n : Nat) (K : AV → Hp → Nat → Prop) : guardK (.sc (.bool w)) w e σ n K = e K := by
  refine propext ⟨fun h => ?_, fun h => ⟨?_⟩⟩
  · have := h.h; simpa [guardK'] using this
  · simpa [guardK'] using h
theorem guardK_t (e : (AV → Hp → Nat → Prop) → Prop) (σ : Hp) (n : Nat) (K : AV → Hp → Nat → Prop) : guardK (.sc (.bool true)) false e σ n K = K (.tp []) σ n := propext ⟨fun h => h.h, fun h => ⟨h⟩⟩
theorem guardK_f (e : (AV → Hp → Nat → Prop) → Prop) (σ : Hp) (n : Nat) (K : AV → Hp → Nat → Prop) : guardK (.sc (.bool false)) true e σ n K = K (.tp []) σ n := propext ⟨fun h => h.h, fun h => ⟨h⟩⟩
theorem guardK_none (w : Bool) (e : (AV → Hp → Nat → Prop) → Prop) (σ : Hp) (n : Nat) (K : AV → Hp → Nat → Prop) : guardK (.tp []) w e σ n K = K (.tp []) σ n := propext ⟨fun h => h.h, fun h => ⟨h⟩⟩
theorem guardK_if (b w : Bool) (e : (AV → Hp → Nat → Prop) → Prop) (σ : Hp) (n : Nat) (K : AV → Hp → Nat → Prop) : guardK (.sc (.bool b)) w e σ n K = ((b = w → e K) ∧ (b = !w → K (.tp []) σ n)) := by
  cases b <;> cases w <;> simp [guardK_on, guardK_t, guardK_f]
theorem guardD_on (w : Bool) (e : (AV → Wr → List Nat → Prop) → Prop) (K : AV → Wr → List Nat → Prop) : guardD (.sc (.bool w)) w e K = e K := by
  refine propext ⟨fun h => ?_, fun h => ⟨?_⟩⟩
  · have := h.h; simpa [guardD'] using this
  · simpa [guardD'] using h
theorem guardD_t (e : (AV → Wr → List Nat → Prop) → Prop) (K : AV → Wr → List Nat → Prop) : guardD (.sc (.bool true)) false e K = K (.tp []) [] [] := propext ⟨fun h => h.h, fun h => ⟨h⟩⟩
theorem guardD_f (e : (AV → Wr → List Nat → Prop) → Prop) (K : AV → Wr → List Nat → Prop) : guardD (.sc (.bool false)) true e K = K (.tp []) [] [] := propext ⟨fun h => h.h, fun h => ⟨h⟩⟩
theorem guardD_none (w : Bool) (e : (AV → Wr → List Nat → Prop) → Prop) (K : AV → Wr → List Nat → Prop) : guardD (.tp []) w e K = K (.tp []) [] [] := propext ⟨fun h => h.h, fun h => ⟨h⟩⟩
theorem guardD_if (b w : Bool) (e : (AV → Wr → List Nat → Prop) → Prop) (K : AV → Wr → List Nat → Prop) : guardD (.sc (.bool b)) w e K = ((b = w → e K) ∧ (b = !w → K (.tp []) [] [])) := by
  cases b <;> cases w <;> simp [guardD_on, guardD_t, guardD_f]
theorem beqI (a b : Int) : (a == b) = decide (a = b) := by by_cases h : a = b <;> simp [h]
theorem beqL (a b : List UInt8) : (a == b) = decide (a = b) := by by_cases h : a = b <;> simp [h]
theorem beqB (a b : Bool) : (a == b) = decide (a = b) := by cases a <;> cases b <;> rfl
theorem COND_decide (p : Prop) [Decidable p] (A B : Prop) : COND (.sc (.bool (decide p))) A B = ((p → A) ∧ (¬ p → B)) := by simp [COND]
theorem COND_not (b : Bool) (A B : Prop) : COND (.sc (.bool (!b))) A B = COND (.sc (.bool b)) B A := by cases b <;> simp [COND]
theorem guardP_decT (p : Prop) [Decidable p] (o : Option AV) (K : AV → Prop) : guardP (.sc (.bool (decide p))) true o K = ((p → bindP o K) ∧ (¬ p → K (.tp []))) := by
  simp [guardP_if]
theorem guardP_decF (p : Prop) [Decidable p] (o : Option AV) (K : AV → Prop) : guardP (.sc (.bool (decide p))) false o K = ((¬ p → bindP o K) ∧ (p → K (.tp []))) := by
  simp [guardP_if]
theorem guardP_notT (b : Bool) (o : Option AV) (K : AV → Prop) : guardP (.sc (.bool (!b))) true o K = guardP (.sc (.bool b)) false o K := by
  cases b <;> simp [guardP_on, guardP_f, guardP_t]
theorem guardP_notF (b : Bool) (o : Option AV) (K : AV → Prop) : guardP (.sc (.bool (!b))) false o K = guardP (.sc (.bool b)) true o K := by
  cases b <;> simp [guardP_on, guardP_f, guardP_t]
theorem guardK_decT (p : Prop) [Decidable p] (e : (AV → Hp → Nat → Prop) → Prop) (σ : Hp) (n : Nat) (K : AV → Hp → Nat → Prop) : guardK (.sc (.bool (decide p))) true e σ n K = ((p → e K) ∧ (¬ p → K (.tp []) σ n)) := by
  simp [guardK_if]
theorem guardK_decF (p : Prop) [Decidable p] (e : (AV → Hp → Nat → Prop) → Prop) (σ : Hp) (n : Nat) (K : AV → Hp → Nat → Prop) : guardK (.sc (.bool (decide p))) false e σ n K = ((¬ p → e K) ∧ (p → K (.tp []) σ n)) := by
  simp [guardK_if]
theorem guardK_notT (b : Bool) (e : (AV → Hp → Nat → Prop) → Prop) (σ : Hp) (n : Nat) (K : AV → Hp → Nat → Prop) : guardK (.sc (.bool (!b))) true e σ n K = guardK (.sc (.bool b)) false e σ n K := by
  cases b <;> simp [guardK_on, guardK_f, guardK_t]
theorem guardK_notF (b : Bool) (e : (AV → Hp → Nat → Prop) → Prop) (σ : Hp) (n : Nat) (K : AV → Hp → Nat → Prop) : guardK (.sc (.bool (!b))) false e σ n K = guardK (.sc (.bool b)) true e σ n K := by
  cases b <;> simp [guardK_on, guardK_f, guardK_t]
theorem COND_bif (b : Bool) (x y : AV) (A B : Prop) : COND (bif b then x else y) A B = ((b = true → COND x A B) ∧ (b = false → COND y A B)) := by cases b <;> simp
theorem COND_bifd (p : Prop) [Decidable p] (x y : AV) (A B : Prop) : COND (bif decide p then x else y) A B = ((p → COND x A B) ∧ (¬ p → COND y A B)) := by by_cases h : p <;> simp [h]
theorem JOIN_eq (K : List AV → Hp → Nat → Prop) (F : (List AV → Hp → Nat → Prop) → Prop) : JOIN K F = F K := propext ⟨fun h => h.h, fun h => ⟨h⟩⟩
theorem applyW_nil (σ : Hp) : applyW σ [] = σ := rfl
theorem applyW_cons (σ : Hp) (i : Nat) (x : Option Ob) (l : Wr) : applyW σ ((i, x) :: l) = applyW (upd σ i x) l := rfl
theorem upd_is {σ : Hp} {i j : Nat} {x : Option Ob} (h : j = i) : upd σ i x j = x := by subst h; simp [upd]
theorem upd_not {σ : Hp} {i j : Nat} {x : Option Ob} (h : j ≠ i) : upd σ i x j = σ j := by simp [upd, h]
theorem brwL_nil (σ : Hp) (d : Nat) : brwL σ d [] = some ([], []) := rfl
theorem brwL_cons (σ : Hp) (d : Nat) (a : AV) (l : List AV) : brwL σ d (a :: l) = match brw σ d a, brwL σ d l with
  | some (c, I), some (cs, J) => some (c :: cs, I ++ J)
  | _, _ => none := rfl
theorem brw_ag (σ : Hp) (d : Nat) (l : List AV) : brw σ (d + 1) (.ag l) = (brwL σ d l).map fun p => (.ag p.1, p.2) := by cases l <;> rfl
theorem brw_tp (σ : Hp) (d : Nat) (l : List AV) : brw σ (d + 1) (.tp l) = (brwL σ d l).map fun p => (.tp p.1, p.2) := by cases l <;> rfl
theorem brw_fn (σ : Hp) (d f : Nat) (l : List AV) : brw σ (d + 1) (.fn f l) = (brwL σ d l).map fun p => (.fn f p.1, p.2) := by cases l <;> rfl
theorem brw_sc (σ : Hp) (d : Nat) (v : Value) : brw σ d (.sc v) = some (.sc v, []) := by cases d <;> rfl
theorem brw_s (σ : Hp) (d : Nat) (l : List UInt8) : brw σ d (.s l) = some (.s l, []) := by cases d <;> rfl
theorem brw_em (σ : Hp) (d : Nat) : brw σ d .em = some (.tr [], []) := by cases d <;> rfl
theorem brw_tr (σ : Hp) (d : Nat) (rows : List (List AV)) : brw σ d (.tr rows) = some (.tr rows, []) := by cases d <;> rfl
theorem brw_fp (σ : Hp) (d : Nat) (l : List AV) : brw σ d (.fp l) = some (.fp l, []) := by cases d <;> rfl
theorem brw_ow {σ : Hp} {d i k off len : Nat} {x : Blk} (h : σ i = some (.c x)) (hk : x.k = k ∧ x.cl = true ∧ off + len ≤ x.rows.length ∧ 0 < k) : brw σ (d + 1) (.ow i k off len) = some (.tr ((x.rows.drop off).take len), [i]) := by
  simp only [brw, h, if_pos hk]
theorem RC_ret {v c : AV} {I : List Nat} {σ : Hp} {n : Nat} {r0 : AEnd} (h : brw σ 3 v = some (c, I)) (hr : r0 = .ret c) : RC r0 (.ret v) σ n := by
  simp only [RC, h]; exact hr
theorem RC_pan {x : Value} {σ : Hp} {n : Nat} {r0 : AEnd} (hr : r0 = .pan x) : RC r0 (.pan x) σ n := hr
section
variable {P : Program}
def wrOf (r : AEnd) (σ : Hp) (I : List Nat) : Wr := match r with
  | .ret v => if scal v = true then [] else frz σ I
  | .pan _ => []
theorem CALL_con {g : FuncId} {caps args cs : List AV} {I : List Nat} {r : AEnd} {σ : Hp} {n : Nat} {K : AEnd → Hp → Nat → Prop} (h : Con P g cs r) (hb : brwL σ 3 (args ++ caps) = some (cs, I))
    (hk : K r (applyW σ (wrOf r σ I)) n) : CALL P (.fn g caps) args σ n K := .c ⟨cs, I, r, hb, h, by cases r <;> exact hk⟩
theorem CALL_con0 {g : FuncId} {caps args cs : List AV} {r : AEnd} {σ : Hp} {n : Nat} {K : AEnd → Hp → Nat → Prop} (h : Con P g cs r) (hb : brwL σ 3 (args ++ caps) = some (cs, []))
    (hk : K r σ n) : CALL P (.fn g caps) args σ n K := by
  refine CALL_con h hb ?_
  cases r with
  | ret v => by_cases hs : scal v = true <;> simpa [wrOf, hs, frz, applyW] using hk
  | pan x => simpa [wrOf, applyW] using hk
theorem CALL_conS {g : FuncId} {caps args cs : List AV} {I : List Nat} {v : AV} {σ : Hp} {n : Nat} {K : AEnd → Hp → Nat → Prop} (h : Con P g cs (.ret v)) (hb : brwL σ 3 (args ++ caps) = some (cs, I)) (hs : scal v = true)
    (hk : K (.ret v) σ n) : CALL P (.fn g caps) args σ n K := by
  refine CALL_con h hb ?_
  simpa [wrOf, hs, applyW] using hk
/-- a loop that goes up to N -/
theorem LOOP_up {body : (List AV → Hp → Nat → Prop) → List AV → Hp → Nat → Prop} {s : List AV} {σ : Hp} {n : Nat} (N : Nat) (S : Nat → List AV → Hp → Nat → Prop) (h0 : Weak (S 0) s σ n)
    (hb : ∀ i K s' σ' n', n ≤ n' → i ≤ N → s'.length = s.length → S i s' σ' n' → (∀ s2 σ2 n2, i < N → Weak (S (i + 1)) s2 σ2 n2 → K s2 σ2 n2) → body K s' σ' n') : LOOP body s σ n := by
  refine ⟨fun m s σ n => m ≤ N ∧ S (N - m) s σ n, ⟨N, ?_⟩, fun m s' σ' n' hn hl h => ?_⟩
  · obtain ⟨s', σ', n', a, b, c, d⟩ := h0
    exact ⟨s', σ', n', a, b, c, Nat.le_refl _, by simpa using d⟩
  · refine hb (N - m) _ s' σ' n' hn (by omega) hl h.2 (fun s2 σ2 n2 hi hw => ?_)
    obtain ⟨s3, σ3, n3, a, b, c, d⟩ := hw
    refine ⟨m - 1, by omega, s3, σ3, n3, a, b, c, by omega, ?_⟩
    rw [show N - (m - 1) = N - m + 1 by omega]; exact d
/-- the same, where the memory stays -/
theorem LOOP_still {body : (List AV → Hp → Nat → Prop) → List AV → Hp → Nat → Prop} {s : List AV} {σ : Hp} {n : Nat} (N : Nat) (S : Nat → List AV → Prop) (h0 : S 0 s)
    (hb : ∀ i K s' n', n ≤ n' → i ≤ N → s'.length = s.length → S i s' → (∀ s2 n2, n' ≤ n2 → i < N → S (i + 1) s2 → K s2 σ n2) → body K s' σ n') : LOOP body s σ n := by
  refine LOOP_up N (fun i s' σ' n' => S i s' ∧ σ' = σ) (.refl ⟨h0, rfl⟩) ?_
  rintro i K s' σ' n' hn hi hl ⟨h, rfl⟩ hK
  exact hb i K s' n' hn hi hl h (fun s2 n2 _ h1 h2 => hK s2 _ n2 h1 (.refl ⟨h2, rfl⟩))
/-- a loop over a list -/
theorem LOOP_list {α : Type} {body : (List AV → Hp → Nat → Prop) → List AV → Hp → Nat → Prop} {s : List AV} {σ : Hp} {n : Nat} (xs : List α) (S : Nat → List AV → Prop) (h0 : S 0 s)
    (h1 : ∀ i x K s' n', xs[i]? = some x → i < xs.length → (i : Int) < xs.length → n ≤ n' → S i s' → (∀ s2 n2, n' ≤ n2 → S (i + 1) s2 → K s2 σ n2) → body K s' σ n')
    (h2 : ∀ K s' n', n ≤ n' → S xs.length s' → body K s' σ n') : LOOP body s σ n := by
  refine LOOP_still xs.length S h0 (fun i K s' n' hn hi _ hs hK => ?_)
  rcases Nat.lt_or_ge i xs.length with h | h
  · exact h1 i xs[i] K s' n' (List.getElem?_eq_getElem h) h (by omega) hn hs (fun s2 n2 hn2 hs2 => hK s2 n2 hn2 h hs2)
  · have e : i = xs.length := by omega
    subst e
    exact h2 K s' n' hn hs
/-- the same, where the memory changes -/
theorem LOOP_listM {α : Type} {body : (List AV → Hp → Nat → Prop) → List AV → Hp → Nat → Prop} {s : List AV} {σ : Hp} {n : Nat} (xs : List α) (S : Nat → List AV → Hp → Nat → Prop) (h0 : Weak (S 0) s σ n)
    (h1 : ∀ i x K s' σ' n', xs[i]? = some x → i < xs.length → (i : Int) < xs.length → n ≤ n' → S i s' σ' n' → (∀ s2 σ2 n2, Weak (S (i + 1)) s2 σ2 n2 → K s2 σ2 n2) → body K s' σ' n')
    (h2 : ∀ K s' σ' n', n ≤ n' → S xs.length s' σ' n' → body K s' σ' n') : LOOP body s σ n := by
  refine LOOP_up xs.length S h0 (fun i K s' σ' n' hn hi _ hs hK => ?_)
  rcases Nat.lt_or_ge i xs.length with h | h
  · exact h1 i xs[i] K s' σ' n' (List.getElem?_eq_getElem h) h (by omega) hn hs (fun s2 σ2 n2 hs2 => hK s2 σ2 n2 h hs2)
  · have e : i = xs.length := by omega
    subst e
    exact h2 K s' σ' n' hn hs
theorem all_take {α : Type} {p : α → Bool} {xs : List α} {i : Nat} {x : α} (hx : xs[i]? = some x) : (xs.take (i + 1)).all p = ((xs.take i).all p && p x) := by
  rw [List.take_add_one, List.all_append, hx]; simp
theorem any_take {α : Type} {p : α → Bool} {xs : List α} {i : Nat} {x : α} (hx : xs[i]? = some x) : (xs.take (i + 1)).any p = ((xs.take i).any p || p x) := by
  rw [List.take_add_one, List.any_append, hx]; simp
theorem all_not {α : Type} {p : α → Bool} {xs : List α} {i : Nat} {x : α} (hx : xs[i]? = some x) (h : p x = false) : xs.all p = false := by
  rw [List.all_eq_false]; exact ⟨x, List.mem_of_getElem? hx, by simp [h]⟩
theorem any_yes {α : Type} {p : α → Bool} {xs : List α} {i : Nat} {x : α} (hx : xs[i]? = some x) (h : p x = true) : xs.any p = true := List.any_eq_true.2 ⟨x, List.mem_of_getElem? hx, h⟩
theorem wrapI {n : Int} (h0 : -9223372036854775808 ≤ n) (h1 : n ≤ 9223372036854775807) : IntKind.i64.wrap n = n := by rw [IntKind.wrap_i64]; omega
theorem wrapB {n : Int} (h0 : 0 ≤ n) (h1 : n < 256) : IntKind.u8.wrap n = n := by rw [IntKind.wrap_u8]; omega
theorem aPick_b (t : Bool) (a b : AV) : aPick (.sc (.bool t)) a b = some (cond t a b) := rfl
theorem aFad_rf (off i k r c : Nat) : aFad off (.rf i k r c) = some (.rf i k r (c + off)) := rfl
theorem aFad_fp (off : Nat) (l : List AV) : aFad off (.fp l) = if off < l.length then some (.fp (l.drop off)) else none := rfl
theorem part_none (row : List AV) (c : Nat) : part row c none = row[c]? := rfl
theorem part_some (row : List AV) (c m : Nat) : part row c (some m) = if c + m ≤ row.length then some (.ag ((row.drop c).take m)) else none := rfl
theorem aFld_ag (m : Option Nat) (off : Nat) (l : List AV) : aFld m off (.ag l) = part l off m := rfl
theorem aIad_tr (k : Nat) (kd : IntKind) (n : Int) (rows : List (List AV)) : aIad k (.tr rows) (.sc (.int kd n)) = if 0 ≤ n then (match rows[n.toNat]? with | some row => if row.length = k then some (.fp row) else none | none => none) else none := rfl
theorem aIad_ow (k : Nat) (kd : IntKind) (n : Int) (j k' off len : Nat) : aIad k (.ow j k' off len) (.sc (.int kd n)) = if k' = k ∧ 0 ≤ n ∧ n < len then some (.rf j k (off + n.toNat) 0) else none := rfl
theorem aIstr_s (l : List UInt8) (kd : IntKind) (n : Int) : aIstr (.s l) (.sc (.int kd n)) = if 0 ≤ n then (match l[n.toNat]? with | some b => some (.sc (.int .u8 b.toNat)) | none => none) else none := rfl
theorem aIarr_ag (m : Option Nat) (k len : Nat) (l : List AV) (kd : IntKind) (n : Int) : aIarr m k len (.ag l) (.sc (.int kd n)) = if 0 ≤ n ∧ n < len then part l (n.toNat * k) m else none := rfl
theorem aUn_not (b : Bool) : aUn .not (.sc (.bool b)) = some (.sc (.bool (!b))) := rfl
theorem aUn_neg (k : IntKind) (n : Int) : aUn .neg (.sc (.int k n)) = some (.sc (.int k (k.wrap (0 - n)))) := rfl
theorem aCvi_int (k k' : IntKind) (n : Int) : aCvi k (.sc (.int k' n)) = some (.sc (.int k (k.wrap n))) := rfl
theorem aCvs_s (l : List UInt8) : aCvs (.s l) = some (.s l) := rfl
theorem aLen_s (l : List UInt8) : aLen true (.s l) = some (.sc (.int .i64 l.length)) := rfl
theorem aLen_em : aLen false .em = some (.sc (.int .i64 0)) := rfl
theorem aLen_tr (rows : List (List AV)) : aLen false (.tr rows) = some (.sc (.int .i64 rows.length)) := rfl
theorem aLen_ow (i k off len : Nat) : aLen false (.ow i k off len) = some (.sc (.int .i64 len)) := rfl
theorem asI_int (k : IntKind) (n : Int) : asI (.sc (.int k n)) = some n := rfl
theorem aSlc_em (k : Nat) (lo hi mx : Option AV) : aSlc k .em lo hi mx = (match optI 0 lo, optI 0 hi, optI 0 mx with | some l, some h, some m => if l = 0 ∧ h = 0 ∧ m = 0 ∧ (mx.isSome = true → hi.isSome = true) then some .em else none | _, _, _ => none) := rfl
theorem aSlc_tr (k : Nat) (rows : List (List AV)) (lo hi : Option AV) : aSlc k (.tr rows) lo hi none = (match optI 0 lo, optI rows.length hi with | some l, some h => if rows.all (fun r => r.length == k) = true ∧ 0 ≤ l ∧ l ≤ h ∧ h ≤ rows.length then some (.tr ((rows.take h.toNat).drop l.toNat)) else none | _, _ => none) := by simp only [aSlc]; cases optI 0 lo <;> cases optI rows.length hi <;> rfl
theorem aSlc_ow (k j k' off len : Nat) (lo hi : Option AV) : aSlc k (.ow j k' off len) lo hi none = (match optI 0 lo, optI len hi with | some l, some h => if k' = k ∧ 0 ≤ l ∧ l ≤ h ∧ h ≤ len ∧ (l = 0 ∨ l < len) then some (.ow j k (off + l.toNat) (h.toNat - l.toNat)) else none | _, _ => none) := by simp only [aSlc]; cases optI 0 lo <;> cases optI len hi <;> rfl
theorem aSstr_s (s : List UInt8) (lo hi : Option AV) : aSstr (.s s) lo hi = (match optI 0 lo, optI s.length hi with | some l, some h => if 0 ≤ l ∧ l ≤ h ∧ h ≤ s.length then some (.s ((s.take h.toNat).drop l.toNat)) else none | _, _ => none) := rfl
theorem aExt_tp (l : List AV) (i : Nat) : aExt (.tp l) i = l[i]? := rfl
theorem aNck_rf (i k r c : Nat) : aNck (.rf i k r c) = some (.rf i k r c) := rfl
theorem aNck_fp (l : List AV) : aNck (.fp l) = some (.fp l) := rfl
theorem aNck_fn (f : Nat) (l : List AV) : aNck (.fn f l) = some (.fn f l) := rfl
theorem aMki_sc (t : TypeId) (v : Value) : aMki t (.sc v) = some (.sc (.iface t v)) := rfl
theorem aTas_iface (t t' : TypeId) (z v : Value) : aTas t z (.sc (.iface t' v)) = if t' = t then some (.tp [ofV v, bb true]) else some (.tp [ofV z, bb false]) := rfl
theorem aTas_nil (t : TypeId) (z : Value) : aTas t z (.sc .nilIface) = some (.tp [ofV z, bb false]) := rfl
theorem aLd_rf (σ : Hp) (m : Option Nat) (i k r c : Nat) : aLd σ m (.rf i k r c) = (match σ i with | some (.c b) => if b.k = k then (match b.rows[r]? with | some row => part row c m | none => none) else none | _ => none) := rfl
theorem aLd_fp (σ : Hp) (m : Option Nat) (l : List AV) : aLd σ m (.fp l) = part l 0 m := rfl
theorem aEqs_ag (ks : List Nat) (neg : Bool) (l m : List AV) : aEqs ks neg (.ag l) (.ag m) = (eqK ks l m).map fun p => bb (if neg then !p else p) := rfl
theorem aEqb_b (neg p q : Bool) : aEqb neg (.sc (.bool p)) (.sc (.bool q)) = some (bb (if neg then !(p == q) else p == q)) := rfl
theorem aEqp_eq (neg : Bool) (x y : AV) : aEqp neg x y = (eqP x y).map fun p => bb (if neg then !p else p) := rfl
theorem eqP_nr (i k r c : Nat) : eqP (.sc (.pointer none)) (.rf i k r c) = some false := rfl
theorem eqP_rn (i k r c : Nat) : eqP (.rf i k r c) (.sc (.pointer none)) = some false := rfl
theorem eqP_nf (l : List AV) : eqP (.sc (.pointer none)) (.fp l) = some false := rfl
theorem eqP_fn (l : List AV) : eqP (.fp l) (.sc (.pointer none)) = some false := rfl
theorem eqP_nn : eqP (.sc (.pointer none)) (.sc (.pointer none)) = some true := rfl
theorem eqP_rr (i k r c i' k' r' c' : Nat) : eqP (.rf i k r c) (.rf i' k' r' c') = if i = i' ∧ k = k' ∧ c < k ∧ c' < k then some (r == r' && c == c') else none := rfl
theorem bin_add (k : IntKind) (a b : Int) : semBin .add (.sc (.int k a)) (.sc (.int k b)) = some (.sc (.int k (k.wrap (a + b)))) := by simp [semBin]
theorem bin_sub (k : IntKind) (a b : Int) : semBin .sub (.sc (.int k a)) (.sc (.int k b)) = some (.sc (.int k (k.wrap (a - b)))) := by simp [semBin]
theorem bin_mul (k : IntKind) (a b : Int) : semBin .mul (.sc (.int k a)) (.sc (.int k b)) = some (.sc (.int k (k.wrap (a * b)))) := by simp [semBin]
theorem bin_and (k : IntKind) (a b : Int) : semBin .and (.sc (.int k a)) (.sc (.int k b)) = some (.sc (.int k (bits .and k a b))) := by simp [semBin]
theorem bin_or (k : IntKind) (a b : Int) : semBin .or (.sc (.int k a)) (.sc (.int k b)) = some (.sc (.int k (bits .or k a b))) := by simp [semBin]
theorem bin_xor (k : IntKind) (a b : Int) : semBin .xor (.sc (.int k a)) (.sc (.int k b)) = some (.sc (.int k (bits .xor k a b))) := by simp [semBin]
theorem bin_andNot (k : IntKind) (a b : Int) : semBin .andNot (.sc (.int k a)) (.sc (.int k b)) = some (.sc (.int k (bits .andNot k a b))) := by simp [semBin]
theorem bin_quo (k : IntKind) (a b : Int) : semBin .quo (.sc (.int k a)) (.sc (.int k b)) = if b = 0 then none else some (.sc (.int k (k.wrap (a.tdiv b)))) := by simp [semBin]
theorem bin_rem (k : IntKind) (a b : Int) : semBin .rem (.sc (.int k a)) (.sc (.int k b)) = if b = 0 then none else some (.sc (.int k (a.tmod b))) := by simp [semBin]
theorem bin_eql (k : IntKind) (a b : Int) : semBin .eql (.sc (.int k a)) (.sc (.int k b)) = some (.sc (.bool (decide (a = b)))) := by simp [semBin, bb, beqI]
theorem bin_lss (k : IntKind) (a b : Int) : semBin .lss (.sc (.int k a)) (.sc (.int k b)) = some (.sc (.bool (decide (a < b)))) := by simp [semBin, bb, beqI]
theorem bin_leq (k : IntKind) (a b : Int) : semBin .leq (.sc (.int k a)) (.sc (.int k b)) = some (.sc (.bool (decide (a ≤ b)))) := by simp [semBin, bb, beqI]
theorem bin_gtr (k : IntKind) (a b : Int) : semBin .gtr (.sc (.int k a)) (.sc (.int k b)) = some (.sc (.bool (decide (b < a)))) := by simp [semBin, bb, beqI]
theorem bin_geq (k : IntKind) (a b : Int) : semBin .geq (.sc (.int k a)) (.sc (.int k b)) = some (.sc (.bool (decide (b ≤ a)))) := by simp [semBin, bb, beqI]
theorem bin_neq (k : IntKind) (a b : Int) : semBin .neq (.sc (.int k a)) (.sc (.int k b)) = some (.sc (.bool (!decide (a = b)))) := by simp [semBin, bb, bne, beqI]
theorem bin_shl (k k' : IntKind) (a b : Int) : semBin .shl (.sc (.int k a)) (.sc (.int k' b)) = if b < 0 then none else some (.sc (.int k (k.wrap (a * 2 ^ (min b.toNat k.bits))))) := rfl
theorem bin_shr (k k' : IntKind) (a b : Int) : semBin .shr (.sc (.int k a)) (.sc (.int k' b)) = if b < 0 then none else some (.sc (.int k (a.fdiv (2 ^ (min b.toNat k.bits))))) := rfl
theorem binS_add (a b : List UInt8) : semBin .add (.s a) (.s b) = if a.length + b.length ≤ 9223372036854775807 then some (.s (a ++ b)) else none := rfl
theorem binS_eql (a b : List UInt8) : semBin .eql (.s a) (.s b) = some (.sc (.bool (decide (a = b)))) := by simp [semBin, bb, beqL]
theorem binS_neq (a b : List UInt8) : semBin .neq (.s a) (.s b) = some (.sc (.bool (!decide (a = b)))) := by simp [semBin, bb, beqL]
theorem binS_lss (a b : List UInt8) : semBin .lss (.s a) (.s b) = some (.sc (.bool (Op.bytesLess a b))) := rfl
theorem binS_leq (a b : List UInt8) : semBin .leq (.s a) (.s b) = some (.sc (.bool (Op.bytesLess a b || (a == b)))) := rfl
theorem binS_gtr (a b : List UInt8) : semBin .gtr (.s a) (.s b) = some (.sc (.bool (!(Op.bytesLess a b || (a == b))))) := rfl
theorem binS_geq (a b : List UInt8) : semBin .geq (.s a) (.s b) = some (.sc (.bool (!(Op.bytesLess a b)))) := rfl
theorem rowsOf_em (σ : Hp) (k : Nat) : rowsOf σ k .em = some [] := rfl
theorem rowsOf_tr (σ : Hp) (k : Nat) (rows : List (List AV)) : rowsOf σ k (.tr rows) = if rows.all (fun r => r.length == k) = true then some rows else none := rfl
theorem rowsOf_ow (σ : Hp) (k i k' off len : Nat) : rowsOf σ k (.ow i k' off len) = if k' = k then (match σ i with | some (.c x) => if x.k = k ∧ x.cl = true ∧ off + len ≤ x.rows.length then some ((x.rows.drop off).take len) else none | _ => none) else none := rfl
theorem hSt_rf (σ : Hp) (m i k r c : Nat) (v : AV) : hSt σ m (.rf i k r c) v = (match σ i with | some (.c b) => if b.k = k ∧ b.wr = true then (match b.rows[r]?, v.cells with | some row, some l => if l.length = m ∧ c + m ≤ row.length ∧ l.all leafok = true ∧ (b.cl = true → l.all clo = true) then some (.tp [], [(i, some (.c ⟨k, b.rows.set r (splice row c l), true, b.cl⟩))]) else none | _, _ => none) else none | _ => none) := rfl
theorem aCvb_em (σ : Hp) : aCvb σ .em = some (.s []) := rfl
theorem bytesOf_map {α : Type} (f : α → Int) (l : List α) : bytesOf (l.map fun x => [.sc (.int .u8 (f x))]) = some (l.map f) := by
  induction l with
  | nil => rfl
  | cons x l ih => simp only [List.map_cons, bytesOf, ih]; rfl
/-- a whole block of bytes, as a text -/
theorem aCvb_all {σ : Hp} {i len : Nat} {α : Type} {f : α → Int} {l : List α} {w : Bool} (h : σ i = some (.c ⟨1, l.map fun x => [.sc (.int .u8 (f x))], w, true⟩)) (hl : l.length = len) (hb : len ≤ 9223372036854775807) :
    aCvb σ (.ow i 1 0 len) = some (.s (l.map fun x => UInt8.ofNat (f x).toNat)) := by
  subst hl
  have hr : rowsOf σ 1 (.ow i 1 0 l.length) = some (l.map fun x => [.sc (.int .u8 (f x))]) := by
    simp only [rowsOf, if_true, h]
    rw [if_pos ⟨trivial, trivial, by simp⟩, List.drop_zero, List.take_of_length_le (by simp)]
  unfold aCvb
  rw [hr]
  simp only [List.length_map]
  rw [if_pos hb, bytesOf_map, Option.map_some, List.map_map]; rfl
theorem aEqn_em (neg : Bool) : aEqn neg .em = some .bo := rfl
theorem aEqn_nil (neg : Bool) : aEqn neg (.tr []) = some .bo := rfl
theorem aEqn_cons (neg : Bool) (r : List AV) (rs : List (List AV)) : aEqn neg (.tr (r :: rs)) = some (.sc (.bool neg)) := rfl
theorem aEqn_ow0 (neg : Bool) (i k off : Nat) : aEqn neg (.ow i k off 0) = some .bo := rfl
theorem aEqn_ow (neg : Bool) (i k off n : Nat) : aEqn neg (.ow i k off (n + 1)) = some (.sc (.bool neg)) := rfl
/-- a set of texts: what a map[string]bool holds where only true is put -/
def setOf (ks : List (List UInt8)) : List (AV × AV) := ks.map fun k => (.s k, .sc (.bool true))
theorem keyAt_set (l : List UInt8) : ∀ (ks : List (List UInt8)) (n : Nat), (l ∈ ks → ∃ q, keyAt l n (setOf ks) = some (some (n + q)) ∧ (setOf ks)[q]? = some (.s l, .sc (.bool true))) ∧ (l ∉ ks → keyAt l n (setOf ks) = some none)
  | [], n => ⟨fun h => absurd h (List.not_mem_nil), fun _ => rfl⟩
  | k :: ks, n => by
    obtain ⟨h1, h2⟩ := keyAt_set l ks (n + 1)
    by_cases e : k = l
    · subst e
      exact ⟨fun _ => ⟨0, by simp [setOf, keyAt], by simp [setOf]⟩, fun h => absurd (List.mem_cons_self ..) h⟩
    · constructor
      · intro h
        rcases List.mem_cons.1 h with h | h
        · exact absurd h.symm e
        · obtain ⟨q, g1, g2⟩ := h1 h
          refine ⟨q + 1, ?_, by simpa [setOf] using g2⟩
          simp only [setOf, List.map_cons, keyAt, if_neg e]
          rw [show n + (q + 1) = n + 1 + q by omega]; exact g1
      · intro h
        simp only [setOf, List.map_cons, keyAt, if_neg e]
        exact h2 (fun h' => h (List.mem_cons_of_mem _ h'))
theorem aLkp_set {σ : Hp} {i : Nat} {ks : List (List UInt8)} {wr : Bool} (h : σ i = some (.m (setOf ks) wr)) (l : List UInt8) : aLkp σ (.bool false) false (.mp i) (.s l) = some (.sc (.bool (decide (l ∈ ks)))) := by
  obtain ⟨h1, h2⟩ := keyAt_set l ks 0
  by_cases e : l ∈ ks
  · obtain ⟨q, g1, g2⟩ := h1 e
    rw [Nat.zero_add] at g1
    simp only [aLkp, h, g1, g2, Bool.false_eq_true, if_false, decide_eq_true e]
  · simp only [aLkp, h, h2 e, Bool.false_eq_true, if_false, decide_eq_false e]
theorem hMup_set {σ : Hp} {i : Nat} {ks : List (List UInt8)} (h : σ i = some (.m (setOf ks) true)) (l : List UInt8) : hMup σ (.mp i) (.s l) (.sc (.bool true)) = some (.tp [], [(i, some (.m (setOf (if l ∈ ks then ks else ks ++ [l])) true))]) := by
  obtain ⟨h1, h2⟩ := keyAt_set l ks 0
  by_cases e : l ∈ ks
  · obtain ⟨q, g1, g2⟩ := h1 e
    rw [Nat.zero_add] at g1
    have hset : (setOf ks).set q (.s l, .sc (.bool true)) = setOf ks := by
      apply List.ext_getElem?
      intro j
      rw [List.getElem?_set]
      split
      · rename_i hj; subst hj
        split
        · exact g2.symm
        · rename_i hlt
          rw [List.getElem?_eq_none (by omega)] at g2; cases g2
      · rfl
    simp only [hMup, h, g1, hset, if_pos e]
  · simp only [hMup, h, h2 e, if_neg e]
    simp [setOf]
theorem hClm_mp {σ : Hp} {i : Nat} {es : List (AV × AV)} (h : σ i = some (.m es true)) : hClm σ (.mp i) = some (.tp [], [(i, some (.m (setOf []) true))]) := by simp only [hClm, h]; rfl
theorem hMkm_set (id : Nat) : hMkm id = some (.mp id, [(id, some (.m (setOf []) true))]) := rfl
attribute [go_sem] hMkm_set
attribute [go_sem] aCvb_em aEqn_em aEqn_nil aEqn_cons aEqn_ow0 aEqn_ow COND_bo
theorem hApp_em (σ : Hp) (id k bytes : Nat) (y : AV) : hApp σ id k bytes .em y = (match rowsOf σ k y with | some news => if news.all (fun r => r.all leafok) = true then (if news.length * bytes ≤ 140737488355328 then (match news with | [] => some (.em, []) | _ :: _ => some (.ow id k 0 news.length, [(id, some (.c ⟨k, news, true, true⟩))])) else none) else none | none => none) := rfl
theorem hApp_ow (σ : Hp) (id k bytes i k' len : Nat) (y : AV) : hApp σ id k bytes (.ow i k' 0 len) y = (match rowsOf σ k y with | some news => if news.all (fun r => r.all leafok) = true then (match σ i with | some (.c b) => if k' = k ∧ b.k = k ∧ b.wr = true ∧ b.cl = true ∧ b.rows.length = len ∧ (len + news.length) * bytes ≤ 140737488355328 ∧ i ≠ id then some (.ow id k 0 (len + news.length), [(i, none), (id, some (.c ⟨k, b.rows ++ news, true, true⟩))]) else none | _ => none) else none | none => none) := rfl
theorem cells_bool (x : Bool) : (.sc (.bool x) : AV).cells = some [.sc (.bool x)] := rfl
theorem leaf_bool (x : Bool) : leafok (.sc (.bool x)) = true := rfl
theorem clo_bool (x : Bool) : clo (.sc (.bool x)) = true := rfl
theorem cells_int (k : IntKind) (x : Int) : (.sc (.int k x) : AV).cells = some [.sc (.int k x)] := rfl
theorem leaf_int (k : IntKind) (x : Int) : leafok (.sc (.int k x)) = true := rfl
theorem clo_int (k : IntKind) (x : Int) : clo (.sc (.int k x)) = true := rfl
theorem cells_iface (t : TypeId) (x : Value) : (.sc (.iface t x) : AV).cells = some [.sc (.iface t x)] := rfl
theorem leaf_iface (t : TypeId) (x : Value) : leafok (.sc (.iface t x)) = true := rfl
theorem clo_iface (t : TypeId) (x : Value) : clo (.sc (.iface t x)) = true := rfl
theorem cells_nilI : (.sc .nilIface : AV).cells = some [.sc .nilIface] := rfl
theorem leaf_nilI : leafok (.sc .nilIface) = true := rfl
theorem clo_nilI : clo (.sc .nilIface) = true := rfl
theorem cells_ptr (x : Option Addr) : (.sc (.pointer x) : AV).cells = some [.sc (.pointer x)] := rfl
theorem leaf_ptr (x : Option Addr) : leafok (.sc (.pointer x)) = true := rfl
theorem clo_ptr (x : Option Addr) : clo (.sc (.pointer x)) = true := rfl
theorem cells_s (x : List UInt8) : (.s x : AV).cells = some [.s x] := rfl
theorem leaf_s (x : List UInt8) : leafok (.s x) = true := rfl
theorem clo_s (x : List UInt8) : clo (.s x) = true := rfl
theorem cells_em : (.em : AV).cells = some [.em] := rfl
theorem leaf_em : leafok (.em) = true := rfl
theorem clo_em : clo (.em) = true := rfl
theorem cells_tr (x : List (List AV)) : (.tr x : AV).cells = some [.tr x] := rfl
theorem leaf_tr (x : List (List AV)) : leafok (.tr x) = true := rfl
theorem clo_tr (x : List (List AV)) : clo (.tr x) = true := rfl
theorem cells_ow (i k off len : Nat) : (.ow i k off len : AV).cells = some [.ow i k off len] := rfl
theorem leaf_ow (i k off len : Nat) : leafok (.ow i k off len) = true := rfl
theorem clo_ow (i k off len : Nat) : clo (.ow i k off len) = false := rfl
theorem cells_rf (i k r c : Nat) : (.rf i k r c : AV).cells = some [.rf i k r c] := rfl
theorem leaf_rf (i k r c : Nat) : leafok (.rf i k r c) = true := rfl
theorem clo_rf (i k r c : Nat) : clo (.rf i k r c) = false := rfl
theorem cells_mp (i : Nat) : (.mp i : AV).cells = some [.mp i] := rfl
theorem leaf_mp (i : Nat) : leafok (.mp i) = true := rfl
theorem clo_mp (i : Nat) : clo (.mp i) = false := rfl
theorem cells_fp (x : List AV) : (.fp x : AV).cells = some [.fp x] := rfl
theorem leaf_fp (x : List AV) : leafok (.fp x) = true := rfl
theorem clo_fp (x : List AV) : clo (.fp x) = true := rfl
theorem cells_fn (f : Nat) (x : List AV) : (.fn f x : AV).cells = some [.fn f x] := rfl
theorem leaf_fn (f : Nat) (x : List AV) : leafok (.fn f x) = true := rfl
theorem clo_fn (f : Nat) (x : List AV) : clo (.fn f x) = false := rfl
theorem cells_ag (x : List AV) : (.ag x : AV).cells = some x := rfl
end
attribute [go_sem] aPick_b aFad_rf aFad_fp part_none part_some aFld_ag aIad_tr aIad_ow aIstr_s aIarr_ag aUn_not aUn_neg aCvi_int aCvs_s aLen_s aLen_em aLen_tr aLen_ow asI_int aSlc_em aSlc_tr aSlc_ow aSstr_s aExt_tp aNck_rf aNck_fp aNck_fn aMki_sc aTas_iface aTas_nil aLd_rf aLd_fp aEqs_ag aEqb_b aEqp_eq eqP_nr eqP_rn eqP_nf eqP_fn eqP_nn eqP_rr bin_add bin_sub bin_mul bin_and bin_or bin_xor bin_andNot bin_quo bin_rem bin_eql bin_lss bin_leq bin_gtr bin_geq bin_neq bin_shl bin_shr binS_add binS_eql binS_neq binS_lss binS_leq binS_gtr binS_geq rowsOf_em rowsOf_tr rowsOf_ow hSt_rf hApp_em hApp_ow cells_bool leaf_bool clo_bool cells_int leaf_int clo_int cells_iface leaf_iface clo_iface cells_nilI leaf_nilI clo_nilI cells_ptr leaf_ptr clo_ptr cells_s leaf_s clo_s cells_em leaf_em clo_em cells_tr leaf_tr clo_tr cells_ow leaf_ow clo_ow cells_rf leaf_rf clo_rf cells_mp leaf_mp clo_mp cells_fp leaf_fp clo_fp cells_fn leaf_fn clo_fn cells_ag
attribute [go_sem] bindP_some bindS_some bindH_some onEnd_ret onEnd_pan onEnd_ite PAN_iface COND_bifd COND_true COND_false COND_decide COND_not guardP_on guardP_t guardP_f guardP_none guardP_decT guardP_decF guardP_notT guardP_notF guardK_on guardK_t guardK_f guardK_none guardK_decT guardK_decF guardK_notT guardK_notF guardD_on guardD_t guardD_f guardD_none JOIN_eq applyW_nil applyW_cons hAlloc hBox hBsl fillR fillA aBuild eqK splice ofC ofV optI bb ii frz tupA brw_sc brw_s brw_em brw_tr brw_fp brw_ag brw_tp brw_fn brwL_nil brwL_cons beqI beqL beqB decide_eq_false_iff_not
attribute [go_sem] List.getD_cons_zero List.getD_cons_succ List.getElem?_cons_zero List.getElem?_cons_succ List.length_cons List.length_nil List.take_succ_cons List.take_zero List.drop_succ_cons List.drop_zero List.take_nil List.drop_nil List.cons_append List.nil_append List.append_nil List.map_cons List.map_nil List.foldr_cons List.foldr_nil List.all_cons List.all_nil List.set_cons_zero List.set_cons_succ List.replicate_succ List.replicate_zero Option.map_some Option.map_none Option.bind_some Bool.and_true Bool.true_and Bool.and_self Bool.not_true Bool.not_false Bool.not_not Bool.false_eq_true Bool.true_eq_false ite_true ite_false if_true if_false and_true true_and and_self and_false false_and or_true true_or or_false false_or not_true_eq_false not_false_eq_true ne_eq beq_self_eq_true true_implies forall_const false_implies implies_true cond_true cond_false Int.toNat_natCast Int.natCast_nonneg Int.toNat_zero Nat.lt_add_one Int.le_refl Nat.le_refl decide_true decide_false decide_eq_true_eq
attribute [go_sem] List.length_map Int.lt_irrefl List.getElem?_map bnd ge_iff_le gt_iff_lt
attribute [go_sem] COND_bool guardP_if guardK_if guardD_if COND_bif onEnd_cond decide_eq_false_iff_not Bool.not_eq_true' Bool.not_eq_false'
attribute [go_sem ↓] guardP_if guardP_on guardP_t guardP_f guardP_none guardK_if guardK_on guardK_t guardK_f guardK_none guardD_if guardD_on guardD_t guardD_f guardD_none COND_bool COND_true COND_false onEnd_ret onEnd_pan onEnd_ite onEnd_cond bindP_some bindS_some bindH_some JOIN_eq PAN_iface
end Go.Proofs.Ytlhnncmflnjinaa.Am
