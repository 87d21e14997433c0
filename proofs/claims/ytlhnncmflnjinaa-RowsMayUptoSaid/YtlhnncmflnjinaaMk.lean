/- The abstract machine: regions whose order is open are sound. -/
import Derived.Test.YtlhnncmflnjinaaMj
set_option linter.unusedSimpArgs false
set_option linter.unusedVariables false
namespace Go.Proofs.Ytlhnncmflnjinaa.Am
open Go Go.RowKit

section
variable {P : Program} {K : Kn} {Kp : Value → Kn} {l0 : List (SOper × List Nat)} {st0 : St} {n : Nat}
def deadAnc (anc : List Nat) (effs : List Eff) : Bool := anc.any (fun i => (effs[i]?).any (·.dead))
/-- what was reckoned -/
structure Trace (P : Program) (K : Kn) (Kp : Value → Kn) (l0 : List (SOper × List Nat)) (st0 : St) (n : Nat) (effs : List Eff) : Prop where
  len : effs.length = l0.length
  ok : ∀ (i : Nat) (o : SOper) (anc : List Nat) (e : Eff), l0[i]? = some (o, anc) → effs[i]? = some e → e.dst = o.dst ∧ (deadAnc anc (effs.take i) = true ∧ e.dead = true ∨ deadAnc anc (effs.take i) = false ∧ OpOk P Kp (stL (fun j => anc.contains j) 0 (effs.take i) st0) (n + 16 * i) o e)
  apt : ∀ (i j : Nat) (oi oj : SOper) (ai aj : List Nat) (ei ej : Eff), i < j → l0[i]? = some (oi, ai) → l0[j]? = some (oj, aj) → effs[i]? = some ei → effs[j]? = some ej → inert oi.op = false → inert oj.op = false → aj.contains i = false → Apt (names ei.wr) ei.rd (names ej.wr) ej.rd
  fin : (∀ e ∈ effs, e.dead = false) → ∀ n', n + 16 * l0.length ≤ n' → K (stL (fun _ => true) 0 effs st0).1 (stL (fun _ => true) 0 effs st0).2 n'
theorem side1_out {anc : List Nat} {w r : List Nat} : ∀ (i : Nat) (l : List (SOper × List Nat)) (es : List Eff) (X : Prop), side1 anc w r i l es X → X ∧ ∀ (k : Nat) (o : SOper) (a : List Nat) (e : Eff), l[k]? = some (o, a) → es[k]? = some e → inert o.op = false → anc.contains (i + k) = false → Apt (names e.wr) e.rd w r
  | i, [], es, X, h => ⟨h, fun k o a e h1 => by simp at h1⟩
  | i, (o, a) :: l, [], X, h => ⟨h, fun k o a e _ h1 => by simp at h1⟩
  | i, (o, a) :: l, e :: es, X, h => by
    simp only [side1] at h
    cases hb : (inert o.op || anc.contains i) with
    | true =>
      rw [hb, cond_true] at h
      obtain ⟨h1, h2⟩ := side1_out (i + 1) l es X h
      refine ⟨h1, fun k o' a' e' hk he hi ha => ?_⟩
      cases k with
      | zero =>
        simp only [List.getElem?_cons_zero, Option.some.injEq, Prod.mk.injEq] at hk
        obtain ⟨rfl, rfl⟩ := hk
        rw [Nat.add_zero] at ha
        rw [hi, ha] at hb; cases hb
      | succ k => exact h2 k o' a' e' (by simpa using hk) (by simpa using he) hi (by rwa [show i + 1 + k = i + (k + 1) by omega])
    | false =>
      rw [hb, cond_false] at h
      obtain ⟨h1, h2⟩ := side1_out (i + 1) l es X h.2
      refine ⟨h1, fun k o' a' e' hk he hi ha => ?_⟩
      cases k with
      | zero =>
        simp only [List.getElem?_cons_zero, Option.some.injEq, Prod.mk.injEq] at hk he
        subst he
        exact h.1
      | succ k => exact h2 k o' a' e' (by simpa using hk) (by simpa using he) hi (by rwa [show i + 1 + k = i + (k + 1) by omega])
theorem sideL_out {l0 : List (SOper × List Nat)} {effs : List Eff} (hlen : effs.length = l0.length) : ∀ (j : Nat) (l : List (SOper × List Nat)) (es : List Eff) (X : Prop), l = l0.drop j → es = effs.drop j → sideL l0 effs j l es X →
    X ∧ ∀ (i k : Nat) (oi oj : SOper) (ai aj : List Nat) (ei ej : Eff), i < k → j ≤ k → l0[i]? = some (oi, ai) → l0[k]? = some (oj, aj) → effs[i]? = some ei → effs[k]? = some ej → inert oi.op = false → inert oj.op = false → aj.contains i = false → Apt (names ei.wr) ei.rd (names ej.wr) ej.rd
  | j, [], es, X, hl, he, h => ⟨h, fun i k oi oj ai aj ei ej _ hjk _ hk => by
      have := (List.getElem?_eq_some_iff.1 hk).1
      have : l0.length ≤ j := List.drop_eq_nil_iff.1 hl.symm
      omega⟩
  | j, (o, a) :: l, [], X, hl, he, h => by
    have h1 : effs.length ≤ j := List.drop_eq_nil_iff.1 he.symm
    have h2 : l0.drop j = [] := List.drop_eq_nil_iff.2 (by omega)
    rw [h2] at hl; cases hl
  | j, (o, a) :: l, e :: es, X, hl, he, h => by
    have hl' : l = l0.drop (j + 1) := by rw [← List.drop_drop, ← hl]; rfl
    have he' : es = effs.drop (j + 1) := by rw [← List.drop_drop, ← he]; rfl
    have hoj : l0[j]? = some (o, a) := by have := congrArg (·[0]?) hl; simpa using this.symm
    have hej : effs[j]? = some e := by have := congrArg (·[0]?) he; simpa using this.symm
    simp only [sideL] at h
    cases hb : inert o.op with
    | true =>
      rw [hb, cond_true] at h
      obtain ⟨h1, h2⟩ := sideL_out hlen (j + 1) l es X hl' he' h
      refine ⟨h1, fun i k oi oj ai aj ei ej hik hjk a1 a2 a3 a4 a5 a6 a7 => ?_⟩
      by_cases hjk' : j = k
      · subst hjk'
        rw [hoj] at a2; cases a2
        rw [a6] at hb; cases hb
      · exact h2 i k oi oj ai aj ei ej hik (by omega) a1 a2 a3 a4 a5 a6 a7
    | false =>
      rw [hb, cond_false] at h
      obtain ⟨h0, h3⟩ := side1_out 0 _ _ _ h
      obtain ⟨h1, h2⟩ := sideL_out hlen (j + 1) l es X hl' he' h0
      refine ⟨h1, fun i k oi oj ai aj ei ej hik hjk a1 a2 a3 a4 a5 a6 a7 => ?_⟩
      by_cases hjk' : j = k
      · subst hjk'
        rw [hoj] at a2; cases a2
        rw [hej] at a4; cases a4
        exact h3 i oi ai ei (by rw [List.getElem?_take, if_pos hik]; exact a1) a3 a5 (by rw [Nat.zero_add]; exact a7)
      · exact h2 i k oi oj ai aj ei ej hik (by omega) a1 a2 a3 a4 a5 a6 a7
theorem trace_of : ∀ (rest : List (SOper × List Nat)) (effs : List Eff) (pn : Option Value), rest = l0.drop effs.length → effs.length ≤ l0.length →
    (∀ (i : Nat) (o : SOper) (anc : List Nat) (e : Eff), l0[i]? = some (o, anc) → effs[i]? = some e → e.dst = o.dst ∧ (deadAnc anc (effs.take i) = true ∧ e.dead = true ∨ deadAnc anc (effs.take i) = false ∧ ((∀ x, (e.dead = true → pn = some x → ∀ fr σ n, Kp x fr σ n)) → (e.dead = true → ∃ x, pn = some x) → OpOk P Kp (stL (fun j => anc.contains j) 0 (effs.take i) st0) (n + 16 * i) o e) ∧ (e.dead = true → ∃ x, pn = some x))) →
    ((∃ e ∈ effs, e.dead = true) → ∃ x, pn = some x) → (pn.isSome → ∃ e ∈ effs, e.dead = true) →
    dops P K Kp l0 st0 n rest effs pn → ∃ effs', Trace P K Kp l0 st0 n effs'
  | [], effs, pn, hr, hle, hok, hd1, hd2, h => by
    have hlen : effs.length = l0.length := by
      have : l0.length ≤ effs.length := List.drop_eq_nil_iff.1 hr.symm
      omega
    have fin : ∀ X : Prop, sideL l0 effs 0 l0 effs X → (X → (∀ x, pn = some x → ∀ fr σ n, Kp x fr σ n)) → (X → pn = none → ∀ n', n + 16 * l0.length ≤ n' → K (stL (fun _ => true) 0 effs st0).1 (stL (fun _ => true) 0 effs st0).2 n') → ∃ effs', Trace P K Kp l0 st0 n effs' := by
      intro X hX h1 h2
      obtain ⟨hx, hap⟩ := sideL_out hlen 0 l0 effs X rfl rfl hX
      refine ⟨effs, hlen, fun i o anc e a1 a2 => ?_, fun i j oi oj ai aj ei ej hij a1 a2 a3 a4 a5 a6 a7 => hap i j oi oj ai aj ei ej hij (Nat.zero_le _) a1 a2 a3 a4 a5 a6 a7, fun hnd => h2 hx ?_⟩
      · obtain ⟨b1, b2⟩ := hok i o anc e a1 a2
        exact ⟨b1, b2.imp (fun h => h) (fun h => ⟨h.1, h.2.1 (fun x _ hp => h1 hx x hp) h.2.2⟩)⟩
      · cases hp : pn with
        | none => rfl
        | some x =>
          obtain ⟨e, he, hde⟩ := hd2 (by simp [hp])
          rw [hnd e he] at hde; cases hde
    cases pn with
    | none => simp only [dops] at h; exact fin _ h (fun _ x hx => by cases hx) (fun hx _ => hx)
    | some x => simp only [dops] at h; exact fin _ h (fun hx y hy => by cases hy; exact hx) (fun _ hx => by cases hx)
  | (o, anc) :: rest, effs, pn, hr, hle, hok, hd1, hd2, h => by
    have hlt : effs.length < l0.length := by
      rcases Nat.lt_or_ge effs.length l0.length with h | h
      · exact h
      · rw [List.drop_eq_nil_iff.2 h] at hr; cases hr
    have hr' : rest = l0.drop (effs.length + 1) := by rw [← List.drop_drop, ← hr]; rfl
    have hoj : l0[effs.length]? = some (o, anc) := by have := congrArg (·[0]?) hr; simpa using this.symm
    -- one more
    have more : ∀ (e : Eff) (pn' : Option Value), e.dst = o.dst → (pn = none ∨ pn' = pn) → (pn'.isSome = true → pn.isSome = true ∨ e.dead = true) → (e.dead = true → deadAnc anc effs = true ∨ pn'.isSome = true) →
        (deadAnc anc effs = true ∧ e.dead = true ∨ deadAnc anc effs = false ∧ ((∀ x, (e.dead = true → pn' = some x → ∀ fr σ n, Kp x fr σ n)) → OpOk P Kp (stL (fun j => anc.contains j) 0 effs st0) (n + 16 * effs.length) o e)) →
        dops P K Kp l0 st0 n rest (effs ++ [e]) pn' → ∃ effs', Trace P K Kp l0 st0 n effs' := by
      intro e pn' hed hpn hpn2 hde hone hgo
      have hdeadpn : (∃ e ∈ effs, e.dead = true) → ∃ x, pn' = some x := by
        intro hx
        obtain ⟨x, hx'⟩ := hd1 hx
        rcases hpn with h | h
        · rw [h] at hx'; cases hx'
        · exact ⟨x, h.trans hx'⟩
      have hda : deadAnc anc effs = true → ∃ e ∈ effs, e.dead = true := by
        intro hda
        unfold deadAnc at hda
        obtain ⟨i, _, hi2⟩ := List.any_eq_true.1 hda
        cases hei : effs[i]? with
        | none => rw [hei] at hi2; cases hi2
        | some e => rw [hei] at hi2; exact ⟨e, List.mem_of_getElem? hei, by simpa using hi2⟩
      refine trace_of rest (effs ++ [e]) pn' (by simpa using hr') (by simp; omega) ?_ ?_ ?_ hgo
      · intro i o' anc' e' a1 a2
        rcases Nat.lt_trichotomy i effs.length with hi | hi | hi
        · rw [List.getElem?_append_left hi] at a2
          rw [List.take_append_of_le_length (by omega)]
          obtain ⟨b1, b2⟩ := hok i o' anc' e' a1 a2
          refine ⟨b1, b2.imp (fun h => h) (fun ⟨h1, h2, h3⟩ => ⟨h1, fun q1 q2 => h2 (fun x hx hp => ?_) h3, fun hx => hdeadpn ⟨e', List.mem_of_getElem? a2, hx⟩⟩)⟩
          rcases hpn with h | h
          · rw [h] at hp; cases hp
          · exact q1 x hx (h.trans hp)
        · subst hi
          rw [hoj] at a1; cases a1
          simp at a2
          subst a2
          rw [List.take_append_of_le_length (Nat.le_refl _), List.take_length]
          refine ⟨hed, hone.imp (fun h => h) (fun ⟨h1, h2⟩ => ⟨h1, fun q1 _ => h2 q1, fun hx => ?_⟩)⟩
          rcases hde hx with h | h
          · rw [h1] at h; cases h
          · exact Option.isSome_iff_exists.1 h
        · rw [List.getElem?_eq_none (by simp; omega)] at a2; cases a2
      · rintro ⟨e', he', hd'⟩
        rcases List.mem_append.1 he' with he' | he'
        · exact hdeadpn ⟨e', he', hd'⟩
        · simp only [List.mem_singleton] at he'
          subst he'
          rcases hde hd' with h | h
          · exact hdeadpn (hda h)
          · exact Option.isSome_iff_exists.1 h
      · intro hs
        rcases hpn2 hs with h | h
        · obtain ⟨e', he', hd'⟩ := hd2 h
          exact ⟨e', List.mem_append_left _ he', hd'⟩
        · exact ⟨e, by simp, h⟩
    unfold dops at h
    rw [show anc.any (fun i => (effs[i]?).any (·.dead)) = deadAnc anc effs from rfl] at h
    cases hdd : deadAnc anc effs with
    | true =>
      rw [hdd, cond_true] at h
      exact more _ pn rfl (.inr rfl) (fun h => .inl h) (fun _ => .inl hdd) (.inl ⟨hdd, rfl⟩) h
    | false =>
      rw [hdd, cond_false] at h
      have ran : ∀ v wr rd, Asked (stL (fun j => anc.contains j) 0 effs st0) o → Runs P o.op (stL (fun j => anc.contains j) 0 effs st0) (n + 16 * effs.length) v wr rd → dops P K Kp l0 st0 n rest (effs ++ [⟨o.dst, v, wr, rd, false⟩]) pn → ∃ effs', Trace P K Kp l0 st0 n effs' :=
        fun v wr rd ha hr hgo => more _ pn rfl (.inr rfl) (fun h => .inl h) (fun h => by cases h) (.inr ⟨hdd, fun _ => .inl ⟨rfl, .inr ⟨ha, hr⟩⟩⟩) hgo
      have skp : ∀ rd, (inert o.op = true → rd = []) → Skipped (stL (fun j => anc.contains j) 0 effs st0) o → dops P K Kp l0 st0 n rest (effs ++ [⟨o.dst, .tp [], [], rd, false⟩]) pn → ∃ effs', Trace P K Kp l0 st0 n effs' :=
        fun rd hin ha hgo => more _ pn rfl (.inr rfl) (fun h => .inl h) (fun h => by cases h) (.inr ⟨hdd, fun _ => .inl ⟨rfl, .inl ⟨ha, rfl, rfl, hin⟩⟩⟩) hgo
      have stp : Asked (stL (fun j => anc.contains j) 0 effs st0) o → dstep P o.op (stL (fun j => anc.contains j) 0 effs st0).1 (stL (fun j => anc.contains j) 0 effs st0).2 (n + 16 * effs.length)
        (fun x rd => once pn (dops P K Kp l0 st0 n rest (effs ++ [⟨o.dst, .tp [], [], rd, true⟩]) (some x)))
        (fun v wr rd => dops P K Kp l0 st0 n rest (effs ++ [⟨o.dst, v, wr, rd, false⟩]) pn) → ∃ effs', Trace P K Kp l0 st0 n effs' := by
        intro ha h
        rcases dstep_split h with ⟨v, wr, rd, h1, h2⟩ | ⟨x, rd, h1, h2⟩
        · exact ran v wr rd ha h1 h2
        · obtain ⟨h2, h3⟩ := once_iff.1 h2
          exact more _ (some x) rfl (.inl h2) (fun _ => .inr rfl) (fun _ => .inr rfl) (.inr ⟨hdd, fun hk => .inr ⟨rfl, x, ha, h1, hk x rfl rfl⟩⟩) h3
      split at h
      · rename_i hg; exact stp (.inl hg) h
      · rename_i d want hg
        split at h
        · rename_i hq
          have hin : inert o.op = true → rdR (Opd.get (stL (fun j => anc.contains j) 0 effs st0).1) o.op = [] := by
            intro hi
            generalize o.op = op at hi
            cases op <;> first | rfl | (simp [inert] at hi)
          replace h := h.h
          unfold guardP' at h
          split at h
          · rename_i b hb
            obtain ⟨v, hv, h⟩ := h
            by_cases hbw : b = want
            · subst hbw
              simp only [beq_self_eq_true, cond_true] at h
              exact ran v [] _ (.inr ⟨d, b, hg, hb⟩) (.inl ⟨hq, hv rfl, rfl, rfl⟩) h
            · rw [show (b == want) = false by simp [hbw], cond_false] at h
              exact skp _ hin ⟨d, want, hg, .inl ⟨b, hb, hbw⟩⟩ h
          · rename_i hb
            exact skp _ hin ⟨d, want, hg, .inr hb⟩ h
          · exact h.elim
        · replace h := h.h
          unfold guardD' at h
          split at h
          · rename_i b hb
            split at h
            · rename_i hbw; subst hbw
              exact stp (.inr ⟨d, b, hg, hb⟩) h
            · rename_i hbw
              exact skp [] (fun _ => rfl) ⟨d, want, hg, .inl ⟨b, hb, hbw⟩⟩ h
          · rename_i hb
            exact skp [] (fun _ => rfl) ⟨d, want, hg, .inr hb⟩ h
          · exact h.elim
end
end Go.Proofs.Ytlhnncmflnjinaa.Am
