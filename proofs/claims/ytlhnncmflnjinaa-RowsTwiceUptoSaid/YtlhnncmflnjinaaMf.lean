/- The abstract operations say what the machine's do: whether two are one; and one operation, whatever it is. -/
import Derived.Test.YtlhnncmflnjinaaMe
import Derived.Test.YtlhnncmflnjinaaMeb
import Derived.Laws.StructEq
import Derived.Laws.Pointers
set_option linter.unusedSimpArgs false
set_option linter.unusedVariables false
namespace Go.Proofs.Ytlhnncmflnjinaa.Am
open Go Go.RowKit

section
variable {P : Program} {N : Nat → Prop} {w0 : World} {M0 : Nat → Prop} {β0 : Nat → Option Nat} {ds : List Deferred} {β : Nat → Option Nat} {fr : Regs} {σ : Hp} {F : Nat → Prop} {a : Act} {w : World}

/-- the first of two lists -/
def One (k : Nat) (x y : AV) (p : Bool) : Prop :=
  (k = 0 ∧ ∃ kk a b, x = .sc (.int kk a) ∧ y = .sc (.int kk b) ∧ p = (a == b)) ∨ (k = 1 ∧ ∃ a b, x = .sc (.bool a) ∧ y = .sc (.bool b) ∧ p = (a == b)) ∨ (k = 2 ∧ ∃ a b, x = .s a ∧ y = .s b ∧ p = (a == b))
theorem eqK_nil {l m : List AV} {r : Bool} (h : eqK [] l m = some r) : l = [] ∧ m = [] ∧ r = true := by
  cases l <;> cases m <;> simp [eqK] at h
  exact ⟨rfl, rfl, h⟩
theorem eqK_cons {k : Nat} {ks : List Nat} {l m : List AV} {r : Bool} (h : eqK (k :: ks) l m = some r) : ∃ x l' y m' p q, l = x :: l' ∧ m = y :: m' ∧ eqK ks l' m' = some q ∧ r = (p && q) ∧ One k x y p := by
  generalize hK : k :: ks = K at h
  unfold eqK at h
  split at h
  · cases hK
  · cases hK
    split at h
    · rename_i hk; subst hk
      obtain ⟨q, h', rfl⟩ := Option.map_eq_some_iff.1 h
      exact ⟨_, _, _, _, _, q, rfl, rfl, h', rfl, .inl ⟨rfl, _, _, _, rfl, rfl, rfl⟩⟩
    · cases h
  · cases hK
    obtain ⟨q, h', rfl⟩ := Option.map_eq_some_iff.1 h
    exact ⟨_, _, _, _, _, q, rfl, rfl, h', rfl, .inr (.inl ⟨rfl, _, _, rfl, rfl, rfl⟩)⟩
  · cases hK
    obtain ⟨q, h', rfl⟩ := Option.map_eq_some_iff.1 h
    exact ⟨_, _, _, _, _, q, rfl, rfl, h', rfl, .inr (.inr ⟨rfl, _, _, rfl, rfl, rfl⟩)⟩
  · cases h
theorem eqK_mk {k : Nat} {ks : List Nat} {x y : AV} {l m : List AV} {p q : Bool} (h : One k x y p) (h' : eqK ks l m = some q) : eqK (k :: ks) (x :: l) (y :: m) = some (p && q) := by
  rcases h with ⟨rfl, kk, a, b, rfl, rfl, rfl⟩ | ⟨rfl, a, b, rfl, rfl, rfl⟩ | ⟨rfl, a, b, rfl, rfl, rfl⟩ <;> simp [eqK, h']
theorem eqK_append : ∀ (k1 k2 : List Nat) (l m : List AV) (r : Bool), eqK (k1 ++ k2) l m = some r → ∃ p q, eqK k1 (l.take k1.length) (m.take k1.length) = some p ∧ eqK k2 (l.drop k1.length) (m.drop k1.length) = some q ∧ r = (p && q) ∧ k1.length ≤ l.length ∧ k1.length ≤ m.length
  | [], k2, l, m, r, h => ⟨true, r, by simp [eqK], by simpa using h, by simp, by simp, by simp⟩
  | k :: k1, k2, l, m, r, h => by
    obtain ⟨x, l', y, m', p, q, rfl, rfl, h', rfl, ho⟩ := eqK_cons h
    obtain ⟨p', q', a1, a2, a3, a4, a5⟩ := eqK_append k1 k2 _ _ q h'
    exact ⟨p && p', q', by simpa using eqK_mk ho a1, by simpa using a2, by rw [a3, ← Bool.and_assoc], by simpa using a4, by simpa using a5⟩
theorem eqK_len : ∀ (ks : List Nat) (l m : List AV) (r : Bool), eqK ks l m = some r → l.length = ks.length ∧ m.length = ks.length
  | [], l, m, r, h => by obtain ⟨rfl, rfl, _⟩ := eqK_nil h; exact ⟨rfl, rfl⟩
  | k :: ks, l, m, r, h => by
    obtain ⟨x, l', y, m', p, q, rfl, rfl, h', rfl, ho⟩ := eqK_cons h
    simpa using eqK_len _ _ _ q h'
/-- cells that stand from a place on -/
def From (M : Nat → Prop) (w : World) (β : Nat → Option Nat) (xs : Array Value) (off : Nat) (l : List AV) : Prop := off + l.length ≤ xs.size ∧ ∀ (j : Nat) (z : AV), l[j]? = some z → Rel M w β (xs.getD (off + j) undef) z
theorem From.part {M : Nat → Prop} {xs : Array Value} {off : Nat} {l : List AV} (h : From M w β xs off l) (n m : Nat) (hnm : n + m ≤ l.length) : From M w β xs (off + n) ((l.drop n).take m) := by
  refine ⟨by have := h.1; simp; omega, fun j z hz => ?_⟩
  rw [List.getElem?_take] at hz
  split at hz
  · rw [List.getElem?_drop] at hz
    rw [Nat.add_assoc]; exact h.2 _ z hz
  · cases hz
theorem eq_flat (M : Nat → Prop) : ∀ (d : Nat) (t : TypeId) (ks : List Nat), flatT P d t = some ks → ∀ (n : Nat) (xs ys : Array Value) (off : Nat) (l m : List AV) (r : Bool), d ≤ n → From M w β xs off l → From M w β ys off m → eqK ks l m = some r →
    ∃ x y, (Go.part t xs off).run P w = .ok x w ∧ (Go.part t ys off).run P w = .ok y w ∧ (Op.equalIn n t x y).run P w = .ok r w
  | 0, t, ks, h, n, xs, ys, off, l, m, r, hn, hx, hy, he => by cases h
  | d + 1, t, ks, h, n, xs, ys, off, l, m, r, hn, hx, hy, he => by
    obtain ⟨n, rfl⟩ : ∃ n', n = n' + 1 := ⟨n - 1, by omega⟩
    unfold flatT at h
    have leaf : ∀ td : TypeDesc, P.underlying t = some td → (∀ fs, td ≠ .struct fs) → (∀ k e, td ≠ .array k e) → l.length = 1 → m.length = 1 → ((Go.part t xs off).run P w = .ok (xs.getD off undef) w ∧ (Go.part t ys off).run P w = .ok (ys.getD off undef) w) := by
      intro td ht h1 h2 hl hm
      have ha : aggT P t = some none := by
        unfold aggT; rw [ht]
        cases td <;> first | rfl | exact absurd rfl (h1 _) | exact absurd rfl (h2 _ _)
      have e1 := run_part (w := w) ha xs off (by have := hx.1; simp; omega)
      have e2 := run_part (w := w) ha ys off (by have := hy.1; simp; omega)
      exact ⟨e1, e2⟩
    have hlen := eqK_len _ _ _ _ he
    have one : ∀ (k : Nat) (td : TypeDesc), ks = [k] → P.underlying t = some td → (∀ fs, td ≠ .struct fs) → (∀ k e, td ≠ .array k e) → (∀ x y u v p, One k x y p → Rel M w β u x → Rel M w β v y → (Op.equalIn (n + 1) t u v).run P w = .ok p w) →
        ∃ x y, (Go.part t xs off).run P w = .ok x w ∧ (Go.part t ys off).run P w = .ok y w ∧ (Op.equalIn (n + 1) t x y).run P w = .ok r w := by
      intro k td hk ht h1 h2 hrun
      subst hk
      obtain ⟨x, l', y, m', p, q, rfl, rfl, h', rfl, ho⟩ := eqK_cons he
      obtain ⟨rfl, rfl, rfl⟩ := eqK_nil h'
      obtain ⟨g1, g2⟩ := leaf td ht h1 h2 rfl rfl
      refine ⟨_, _, g1, g2, ?_⟩
      rw [Bool.and_true]
      exact hrun _ _ _ _ _ ho (by simpa using hx.2 0 _ rfl) (by simpa using hy.2 0 _ rfl)
    split at h
    · rename_i k0 ht
      cases h
      refine one 0 _ rfl ht (fun fs h => by cases h) (fun k e h => by cases h) (fun x y u v p ho hu hv => ?_)
      rcases ho with ⟨_, kk, a, b, rfl, rfl, rfl⟩ | ⟨h0, _⟩ | ⟨h0, _⟩
      · rw [rel_sc hu, rel_sc hv, run_equalIn_int w n t kk _ a b ht]
      · cases h0
      · cases h0
    · rename_i ht
      cases h
      refine one 1 _ rfl ht (fun fs h => by cases h) (fun k e h => by cases h) (fun x y u v p ho hu hv => ?_)
      rcases ho with ⟨h0, _⟩ | ⟨_, a, b, rfl, rfl, rfl⟩ | ⟨h0, _⟩
      · cases h0
      · rw [rel_sc hu, rel_sc hv, run_equalIn_bool' w n t a b ht]
      · cases h0
    · rename_i ht
      cases h
      refine one 2 _ rfl ht (fun fs h => by cases h) (fun k e h => by cases h) (fun x y u v p ho hu hv => ?_)
      rcases ho with ⟨h0, _⟩ | ⟨h0, _⟩ | ⟨_, a, b, rfl, rfl, rfl⟩
      · cases h0
      · cases h0
      · obtain ⟨s1, rfl, rfl, _⟩ := rel_s hu
        obtain ⟨s2, rfl, rfl, _⟩ := rel_s hv
        rw [run_equalIn_string w n t s1 s2 ht, Lib.toList_data, Lib.toList_data]
    · rename_i fs ht
      split at h
      · rename_i ks' hf
        split at h
        · rename_i hc
          cases h
          obtain ⟨hsz, hst⟩ := hc
          have ha : aggT P t = some (some ks.length) := by unfold aggT; rw [ht]; simp [hsz]
          have e1 := run_part (w := w) ha xs off (by have := hx.1; simp; omega)
          have e2 := run_part (w := w) ha ys off (by have := hy.1; simp; omega)
          refine ⟨_, _, e1, e2, ?_⟩
          have hfo : P.fieldsOf t = fs := by simp [Program.fieldsOf, ht]
          simp only [partV]
          rw [run_equalIn_struct w n t _ _ (by rw [hfo]; exact ht) hst, hfo]
          have conv : ∀ (zs : Array Value) (l : List AV), l.length = ks.length → From M w β zs off l → From M w β ((List.range ks.length).map (fun j => zs.getD (off + j) undef)).toArray 0 l := by
            intro zs l hl hz
            refine ⟨by simp [hl], fun j z hj => ?_⟩
            have hjl := (List.getElem?_eq_some_iff.1 hj).1
            have : (((List.range ks.length).map (fun j => zs.getD (off + j) undef)).toArray).getD (0 + j) undef = zs.getD (off + j) undef := by
              simp [Array.getD_eq_getD_getElem?, show j < ks.length by omega]
            rw [this]; exact hz.2 j z hj
          have hx' := conv xs l hlen.1 hx
          have hy' := conv ys m hlen.2 hy
          generalize ((List.range ks.length).map (fun j => xs.getD (off + j) undef)).toArray = xs' at hx'
          generalize ((List.range ks.length).map (fun j => ys.getD (off + j) undef)).toArray = ys' at hy'
          have key : ∀ (fl : List Field) (o : Nat) (ks : List Nat) (l m : List AV) (r : Bool), flatF (flatT P d) fl o = some ks → From M w β xs' o l → From M w β ys' o m → eqK ks l m = some r → (Op.eqFields n xs' ys' fl).run P w = .ok r w := by
            intro fl
            induction fl with
            | nil =>
              intro o ks l m r hk _ _ he
              simp only [flatF, Option.some.injEq] at hk
              subst hk
              obtain ⟨h1, h2⟩ := eqK_len _ _ _ _ he
              have h1 := List.eq_nil_of_length_eq_zero h1
              have h2 := List.eq_nil_of_length_eq_zero h2
              subst h1 h2
              cases he
              simp [Op.eqFields]
            | cons f fl ih =>
              intro o ks l m r hk hl hm he
              simp only [flatF] at hk
              split at hk
              · rename_i hc
                obtain ⟨rfl, hname⟩ := hc
                split at hk
                · rename_i k1 hk1
                  obtain ⟨k2, hk2, rfl⟩ := Option.map_eq_some_iff.1 hk
                  obtain ⟨p, q, a1, a2, a3, a4, a5⟩ := eqK_append k1 k2 l m r he
                  have hl1 := hl.part 0 k1.length (by omega)
                  have hm1 := hm.part 0 k1.length (by omega)
                  simp only [Nat.add_zero, List.drop_zero] at hl1 hm1
                  obtain ⟨x, y, g1, g2, g3⟩ := eq_flat M d f.type k1 hk1 n xs' ys' f.offset _ _ p (by omega) hl1 hm1 a1
                  have hl2 := hl.part k1.length (l.length - k1.length) (by omega)
                  have hm2 := hm.part k1.length (m.length - k1.length) (by omega)
                  rw [List.take_of_length_le (by simp)] at hl2 hm2
                  have hrest := ih _ _ _ _ q hk2 hl2 hm2 a2
                  have hname' : f.name ≠ "_" := by intro e; rw [e] at hname; simp at hname
                  simp only [Op.eqFields, hname', ne_eq, not_false_eq_true, if_true, Sem.run_bind, g1, g2, g3, Result.andThen_ok]
                  cases p
                  · simp [a3]
                  · simp [a3, hrest]
                · cases hk
              · cases hk
          exact key fs.toList 0 ks l m r hf hx' hy' he
        · cases h
      · cases h
    · cases h
theorem good_eqs (R : SRel N w0 M0 β0 ds β fr σ F a w) {o : Oper} {neg : Bool} {x y : Operand} {t yt : TypeId} {fs : Array Field} {ks : List Nat} {v : AV} (ho : o.op = .binOp (if neg then .neq else .eql) t x y yt) (ht : P.underlying t = some (.struct fs)) (hg : P.eqGuardType P.depth t = false) (hk : flatT P 6 t = some ks)
    (hs : aEqs ks neg ((cOpd x).get fr) ((cOpd y).get fr) = some v) : GoodR P o N β σ a w v := by
  have h1 := rel_get R x
  have h2 := rel_get R y
  unfold aEqs at hs
  split at hs
  · rename_i l m g1 g2
    rw [g1] at h1; rw [g2] at h2
    generalize hu1 : a.eval x = u1 at h1
    generalize hu2 : a.eval y = u2 at h2
    cases h1 with
    | ag xs l hn1 hr1 =>
    cases h2 with
    | ag ys m hn2 hr2 =>
    obtain ⟨p, hp, rfl⟩ := Option.map_eq_some_iff.1 hs
    have hlen := eqK_len _ _ _ _ hp
    obtain ⟨x', y', e1, e2, e3⟩ := eq_flat (live N β σ) 6 t ks hk 10000 xs ys 0 l m p (by omega) ⟨by omega, by simpa using ag_getD hn1 hr1⟩ ⟨by omega, by simpa using ag_getD hn2 hr2⟩ hp
    have hsz : szT P t = some ks.length := by
      unfold flatT at hk
      rw [ht] at hk
      simp only at hk
      split at hk
      · split at hk
        · rename_i hc; cases hk; exact hc.1
        · cases hk
      · cases hk
    have ha : aggT P t = some (some ks.length) := by unfold aggT; rw [ht]; simp [hsz]
    have all : ∀ (zs : Array Value) (l : List AV), zs.size = l.length → l.length = ks.length → partV (some ks.length) (fun j => zs.getD j undef) 0 = .agg zs := by
      intro zs l h1 h2
      unfold partV
      simp only
      congr 1
      apply Array.ext
      · simp; omega
      · intro i h3 h4
        simp [h4]
    rw [run_part (w := w) ha xs 0 (by simp; omega), all xs l hn1 hlen.1] at e1
    rw [run_part (w := w) ha ys 0 (by simp; omega), all ys m hn2 hlen.2] at e2
    cases e1; cases e2
    cases neg
    · exact ⟨.bool p, by simp [execOp, ho, hu1, hu2, run_eqGuard_agg w _ t x y xs ys hg, run_eql_struct w t xs ys, e3], .sc _⟩
    · exact ⟨.bool !p, by simp [execOp, ho, hu1, hu2, run_eqGuard_agg w _ t x y xs ys hg, run_neq_struct w t xs ys, e3], .sc _⟩
  · cases hs
theorem good_eqb (R : SRel N w0 M0 β0 ds β fr σ F a w) {o : Oper} {neg : Bool} {x y : Operand} {t yt : TypeId} {v : AV} (ho : o.op = .binOp (if neg then .neq else .eql) t x y yt) (ht : P.underlying t = some .bool)
    (hs : aEqb neg ((cOpd x).get fr) ((cOpd y).get fr) = some v) : GoodR P o N β σ a w v := by
  have h1 := rel_get R x
  have h2 := rel_get R y
  unfold aEqb at hs
  split at hs
  · rename_i g1 g2
    rw [g1] at h1; rw [g2] at h2
    have e1 := rel_sc h1
    have e2 := rel_sc h2
    cases hs
    cases neg
    · exact ⟨_, by simp [execOp, ho, e1, e2, eqGuard, run_eql_bool, ht]; try rfl, .sc _⟩
    · exact ⟨_, by simp [execOp, ho, e1, e2, eqGuard, run_neq_bool, ht]; try rfl, .sc _⟩
  · cases hs
theorem eq_sl_nil (w : World) (d : Nat) {t e : TypeId} (ht : P.underlying t = some (.slice e)) (A : Option Addr) (n c : Nat) : (Op.equalIn (d + 1) t (.slice A n c) (.slice none 0 0)).run P w = .ok A.isNone w := by
  cases A <;> simp [Op.equalIn, run_underlying ht]
theorem good_eqn (R : SRel N w0 M0 β0 ds β fr σ F a w) {o : Oper} {neg : Bool} {x : Operand} {t yt e : TypeId} {v : AV} (ho : o.op = .binOp (if neg then .neq else .eql) t x (.const (.slice none 0 0)) yt) (ht : P.underlying t = some (.slice e))
    (hs : aEqn neg ((cOpd x).get fr) = some v) : GoodR P o N β σ a w v := by
  have h1 := rel_get R x
  have run : ∀ (A : Option Addr) (n c : Nat), a.eval x = .slice A n c → (execOp a.eval o).run P w = .ok (.value (.bool (if neg then !A.isNone else A.isNone))) w := by
    intro A n c e1
    have h : (Op.equalIn 10000 t (.slice A n c) (.slice none 0 0)).run P w = .ok A.isNone w := eq_sl_nil w 9999 ht A n c
    have e2 : a.eval (.const (.slice none 0 0)) = .slice none 0 0 := rfl
    cases neg
    · simp [execOp, ho, e1, e2, eqGuard, binOp, Op.equal, Op.maxDepth, h]
    · simp [execOp, ho, e1, e2, eqGuard, binOp, Op.equal, Op.maxDepth, h]
  generalize (cOpd x).get fr = X at h1 hs
  generalize hu : a.eval x = u at h1 run
  unfold aEqn at hs
  split at hs
  · cases hs
    cases h1 with
    | em A => exact ⟨_, run _ _ _ rfl, .bo _⟩
  · cases hs
    cases h1 with
    | tr A c k rows us hk hc hB hr hA hcell hrel => exact ⟨_, run _ _ _ rfl, .bo _⟩
  · cases hs
    cases h1 with
    | tr A c k rows us hk hc hB hr hA hcell hrel =>
      obtain ⟨ad, rfl, _⟩ := hA (by simp)
      refine ⟨_, run _ _ _ rfl, ?_⟩
      cases neg <;> exact .sc _
  · cases hs
    rcases rel_ow h1 rfl with ⟨_, _, A, rfl⟩ | ⟨cap, b, e, n, rfl, _⟩
    · exact ⟨_, run _ _ _ rfl, .bo _⟩
    · exact ⟨_, run _ _ _ rfl, .bo _⟩
  · cases hs
    rcases rel_ow h1 rfl with ⟨_, h0, _⟩ | ⟨cap, b, e, n, rfl, _⟩
    · cases h0
    · refine ⟨_, run _ _ _ rfl, ?_⟩
      cases neg <;> exact .sc _
  · cases hs
theorem eq_nil_some (w : World) (d : Nat) {t e : TypeId} (ht : P.underlying t = some (.pointer e)) (A : Addr) : (Op.equalIn (d + 1) t (.pointer none) (.pointer (some A))).run P w = .ok false w := by
  simp [Op.equalIn, run_underlying ht]
theorem eq_one_block (w : World) (d : Nat) {t e : TypeId} {inf : TypeInfo} (ht : P.underlying t = some (.pointer e)) (hinf : P.info? e = some inf) (hn0 : inf.size ≠ 0) (A B : Addr) (h : A.block = B.block) : (Op.equalIn (d + 1) t (.pointer (some A)) (.pointer (some B))).run P w = .ok (A == B) w := by
  simp [Op.equalIn, run_underlying ht, sizeOf, typeInfo, hinf, hn0, sameAddr, h]
theorem good_eqp (R : SRel N w0 M0 β0 ds β fr σ F a w) {o : Oper} {neg : Bool} {x y : Operand} {t yt e : TypeId} {v : AV} (ho : o.op = .binOp (if neg then .neq else .eql) t x y yt) (ht : P.underlying t = some (.pointer e)) (he : (szT P e).any (· != 0) = true)
    (hs : aEqp neg ((cOpd x).get fr) ((cOpd y).get fr) = some v) : GoodR P o N β σ a w v := by
  have h1 := rel_get R x
  have h2 := rel_get R y
  unfold aEqp at hs
  obtain ⟨p, hp, rfl⟩ := Option.map_eq_some_iff.1 hs
  have key : ∀ (A B : Option Addr), a.eval x = .pointer A → a.eval y = .pointer B → (Op.equalIn 10000 t (.pointer A) (.pointer B)).run P w = .ok p w → GoodR P o N β σ a w (bb (if neg then !p else p)) := by
    intro A B e1 e2 h
    cases neg
    · exact ⟨.bool p, by simp [execOp, ho, e1, e2, eqGuard, binOp, Op.equal, Op.maxDepth, h], .sc _⟩
    · exact ⟨.bool !p, by simp [execOp, ho, e1, e2, eqGuard, binOp, Op.equal, Op.maxDepth, h], .sc _⟩
  generalize (cOpd x).get fr = X at h1 hp
  generalize (cOpd y).get fr = Y at h2 hp
  generalize hu1 : a.eval x = u1 at h1 key
  generalize hu2 : a.eval y = u2 at h2 key
  have hpe : P.underlying t = some (.pointer (P.pointee t)) := by simp [Program.pointee, ht]
  have nil1 : ∀ A : Option Addr, (Op.equalIn 10000 t (.pointer A) (.pointer none)).run P w = .ok A.isNone w := fun A => run_equalIn_pointer_nil w 9999 t A hpe
  have nil2 : ∀ A : Addr, (Op.equalIn 10000 t (.pointer none) (.pointer (some A))).run P w = .ok false w := fun A => eq_nil_some w 9999 ht A
  unfold eqP at hp
  split at hp
  · cases hp
    have e1 := rel_sc h1; subst e1
    cases h2 with
    | rf _ _ _ _ b hb => exact key _ _ rfl rfl (nil2 _)
  · cases hp
    have e2 := rel_sc h2; subst e2
    cases h1 with
    | rf _ _ _ _ b hb => exact key _ _ rfl rfl (nil1 _)
  · cases hp
    have e1 := rel_sc h1; subst e1
    cases h2 with
    | fp A => exact key _ _ rfl rfl (nil2 _)
  · cases hp
    have e2 := rel_sc h2; subst e2
    cases h1 with
    | fp A => exact key _ _ rfl rfl (nil1 _)
  · cases hp
    have e1 := rel_sc h1; subst e1
    have e2 := rel_sc h2; subst e2
    exact key _ _ rfl rfl (nil1 _)
  · split at hp
    · rename_i i k r c i' k' r' c' hc
      obtain ⟨rfl, rfl, hc1, hc2⟩ := hc
      cases hp
      cases h1 with
      | rf _ _ _ _ b hb =>
      cases h2 with
      | rf _ _ _ _ b' hb' =>
      rw [hb] at hb'; cases hb'
      refine key _ _ rfl rfl ?_
      obtain ⟨n, hn, hn0⟩ : ∃ n, szT P e = some n ∧ n ≠ 0 := by
        cases hz : szT P e with
        | none => rw [hz] at he; cases he
        | some n => rw [hz] at he; exact ⟨n, rfl, by simpa using he⟩
      unfold szT at hn
      obtain ⟨inf, hinf, rfl⟩ := Option.map_eq_some_iff.1 hn
      have heq : ((⟨b, r * k + c, none⟩ : Addr) == ⟨b, r' * k + c', none⟩) = (r == r' && c == c') := by
        rw [Bool.eq_iff_iff]
        simp only [beq_iff_eq, Addr.mk.injEq, and_true, true_and, Bool.and_eq_true]
        constructor
        · intro h
          have h1 : (r * k + c) / k = r := by rw [Nat.mul_comm, Nat.mul_add_div (by omega), Nat.div_eq_of_lt hc1]; omega
          have h2 : (r' * k + c') / k = r' := by rw [Nat.mul_comm, Nat.mul_add_div (by omega), Nat.div_eq_of_lt hc2]; omega
          have : r = r' := by rw [← h1, ← h2, h]
          subst this
          exact ⟨rfl, by omega⟩
        · rintro ⟨rfl, rfl⟩; rfl
      rw [← heq]
      exact eq_one_block w 9999 ht hinf hn0 _ _ rfl
    · cases hp
  · cases hp

theorem soundR (R : SRel N w0 M0 β0 ds β fr σ F a w) {o : Oper} {s : SOp} {v : AV} (hc : cmp P o.op = some s) (hq : quiet s = true) (hs : semR σ (Opd.get fr) s = some v) : GoodR P o N β σ a w v := by
  generalize hop : o.op = op at hc
  cases op <;> simp only [cmp, reduceCtorEq, Option.some.injEq] at hc
  case move x => subst hc; simp only [semR, Option.some.injEq] at hs; subst hs; exact good_mv R (.inl hop)
  case assign x => subst hc; simp only [semR, Option.some.injEq] at hs; subst hs; exact good_mv R (.inr hop)
  case pick c x y => subst hc; exact good_pick R hop hs
  case alloc e => obtain ⟨zs, hz, rfl⟩ := Option.map_eq_some_iff.1 hc; simp [quiet] at hq
  case box e x => subst hc; simp [quiet] at hq
  case build t parts =>
    split at hc
    · rename_i d zs h1 h2
      split at hc
      · rename_i places h3
        obtain ⟨ps, h4, rfl⟩ := Option.map_eq_some_iff.1 hc
        exact good_build R hop h1 h2 h3 h4 hs
      · cases hc
    · cases hc
  case buildSlice t len parts =>
    split at hc
    · split at hc
      · split at hc
        · cases hc; simp [quiet] at hq
        · cases hc
      · cases hc
    · cases hc
  case load t x =>
    obtain ⟨m, hm, rfl⟩ := Option.map_eq_some_iff.1 hc
    exact good_ld R hop hm hs
  case store t x y => obtain ⟨m, hm, rfl⟩ := Option.map_eq_some_iff.1 hc; simp [quiet] at hq
  case makeMap t n =>
    cases n with
    | some n => cases hc
    | none =>
      simp only at hc
      split at hc
      · split at hc
        · cases hc; simp [quiet] at hq
        · cases hc
      · cases hc
  case mapUpdate t x k y =>
    split at hc
    · split at hc
      · cases hc; simp [quiet] at hq
      · cases hc
    · cases hc
  case lookup t x k ok =>
    split at hc
    · rename_i kt e h1
      split at hc
      · rename_i z h2 h3
        cases hc; exact good_lkp R hop h1 h2 h3 hs
      · cases hc
    · cases hc
  case fieldAddr t x f =>
    split at hc
    · rename_i off ft h1
      split at hc
      · rename_i n h2
        split at hc
        · cases hc
        · rename_i h3
          cases hc
          exact good_fad R hop h1 h2 h3 hs
      · cases hc
    · cases hc
  case field t x f =>
    split at hc
    · rename_i off ft h1
      obtain ⟨m, hm, rfl⟩ := Option.map_eq_some_iff.1 hc
      exact good_fld R hop h1 hm hs
    · cases hc
  case indexAddr t x i =>
    split at hc
    · rename_i e h1
      obtain ⟨k, hk, rfl⟩ := Option.map_eq_some_iff.1 hc
      exact good_iad R hop h1 hk hs
    · cases hc
  case index t x i =>
    split at hc
    · rename_i h1
      cases hc
      exact good_istr R hop h1 hs
    · rename_i n e h1
      split at hc
      · rename_i m k h2 h3
        cases hc
        exact good_iarr R hop h1 h2 h3 hs
      · cases hc
    · cases hc
  case binOp op t x y yt =>
    have eqn : ∀ (f : Bool → SOp), cmpEq op f = some s → (op = .eql ∧ s = f false) ∨ (op = .neq ∧ s = f true) := by
      intro f h
      unfold cmpEq at h
      split at h
      · cases h; exact .inl ⟨rfl, rfl⟩
      · cases h; exact .inr ⟨rfl, rfl⟩
      · cases h
    unfold cmpBin at hc
    split at hc
    · cases hc; exact good_bin R hop hs
    · cases hc; exact good_bin R hop hs
    · rename_i h1
      rcases eqn _ hc with ⟨rfl, rfl⟩ | ⟨rfl, rfl⟩
      · exact good_eqb R (neg := false) hop h1 hs
      · exact good_eqb R (neg := true) hop h1 hs
    · rename_i fs h1
      split at hc
      · rename_i hg
        split at hc
        · rename_i ks hk
          rcases eqn _ hc with ⟨rfl, rfl⟩ | ⟨rfl, rfl⟩
          · exact good_eqs R (neg := false) hop h1 hg hk hs
          · exact good_eqs R (neg := true) hop h1 hg hk hs
        · cases hc
      · cases hc
    · rename_i e h1
      split at hc
      · rename_i he
        rcases eqn _ hc with ⟨rfl, rfl⟩ | ⟨rfl, rfl⟩
        · exact good_eqp R (neg := false) hop h1 he hs
        · exact good_eqp R (neg := true) hop h1 he hs
      · cases hc
    · rename_i e h1
      split at hc
      · rcases eqn _ hc with ⟨rfl, rfl⟩ | ⟨rfl, rfl⟩
        · exact good_eqn R (neg := false) hop h1 hs
        · exact good_eqn R (neg := true) hop h1 hs
      · cases hc
    · cases hc
  case unOp op t x => subst hc; exact good_un R hop hs
  case convert s d x =>
    split at hc
    · rename_i k0 k h1 h2; cases hc; exact good_cvi R hop h1 h2 hs
    · rename_i h1 h2; cases hc; exact good_cvs R hop h1 h2 hs
    · rename_i e h1 h2
      split at hc
      · rename_i h3; cases hc; exact good_cvb R hop h1 h3 h2 hs
      · cases hc
    · cases hc
  case slice t x lo hi mx =>
    split at hc
    · rename_i e h1
      split at hc
      · rename_i k h2
        split at hc
        · rename_i h3; cases hc; exact good_slc R hop h1 h2 h3 hs
        · cases hc
      · cases hc
    · rename_i h1
      split at hc
      · cases hc; exact good_sstr R hop h1 hs
      · cases hc
    · cases hc
  case extract x i => subst hc; exact good_ext R hop hs
  case makeFunc fn first caps =>
    cases fn <;> simp only [reduceCtorEq] at hc
    case func f =>
      split at hc
      · rename_i h0
        cases hc
        simp only [semR, Option.some.injEq] at hs
        subst hs
        exact good_mkf R hop h0
      · cases hc
  case nilCheck x => subst hc; exact good_nck R hop hs
  case makeInterface t x =>
    split at hc
    · rename_i h1; cases hc; exact good_mki R hop h1 (fun ms h => by cases h) hs
    · cases hc
    · rename_i h1; cases hc; exact good_mki R hop h1 (fun ms h => by cases h) hs
    · cases hc
  case typeAssert x xt t ok =>
    cases ok with
    | false => simp at hc
    | true =>
      simp only at hc
      split at hc
      · cases hc
      · rename_i d z hne h1 h2
        cases hc
        obtain ⟨i, hi, hz⟩ := Option.bind_eq_some_iff.1 h2
        exact good_tas R hop h1 (fun ms e => hne ms e) hi hz hs
      · cases hc
  case panic x => subst hc; simp [quiet] at hq
  case call c =>
    unfold cmpCall at hc
    split at hc
    · cases hc; simp [quiet] at hq
    · rename_i hcal
      split at hc
      · rename_i x h1 h2; cases hc; exact good_len_str R hop hcal h1 h2 hs
      · rename_i x h1 h2; cases hc; exact good_len_sl R hop hcal h1 h2 hs
      · cases hc
    · rename_i hcal
      split at hc
      · split at hc
        · split at hc
          · cases hc; simp [quiet] at hq
          · cases hc
        · cases hc
      · cases hc
    · rename_i hcal
      split at hc
      · cases hc; simp [quiet] at hq
      · cases hc
    · cases hc
theorem soundH (R : SRel N w0 M0 β0 ds β fr σ F a w) {o : Oper} {s : SOp} {id : Nat} {v : AV} {wr : Wr} (hid : F id) (hc : cmp P o.op = some s) (hs : semH σ id (Opd.get fr) s = some (v, wr)) : Good P o N w0 M0 β0 ds β fr σ F id a w v wr := by
  generalize hop : o.op = op at hc
  cases op <;> simp only [cmp, reduceCtorEq, Option.some.injEq] at hc
  case alloc e => obtain ⟨zs, hz, rfl⟩ := Option.map_eq_some_iff.1 hc; exact good_alloc R hid hop hz hs
  case box e x => subst hc; exact good_box R hid hop hs
  case buildSlice t len parts =>
    split at hc
    · rename_i e h1
      split at hc
      · rename_i k zs h2 h3
        split at hc
        · rename_i h4
          cases hc
          refine good_bsl R hid hop h1 h2 h3 h4.1 h4.2.1 h4.2.2 ?_
          simpa [semH, List.map_map, Function.comp_def] using hs
        · cases hc
      · cases hc
    · cases hc
  case store t x y =>
    obtain ⟨m, hm, rfl⟩ := Option.map_eq_some_iff.1 hc
    exact good_st R hop hm hs
  case makeMap t n =>
    cases n with
    | some n => cases hc
    | none =>
      simp only at hc
      split at hc
      · split at hc
        · cases hc; exact good_mkm R hid hop hs
        · cases hc
      · cases hc
  case mapUpdate t x k y =>
    split at hc
    · rename_i kt e h1
      split at hc
      · rename_i h2; cases hc; exact good_mup R hop h1 h2 hs
      · cases hc
    · cases hc
  case lookup t x k ok =>
    split at hc
    · split at hc
      · cases hc; simp [semH] at hs
      · cases hc
    · cases hc
  case call c =>
    unfold cmpCall at hc
    split at hc
    · cases hc; simp [semH] at hs
    · split at hc
      · cases hc; simp [semH] at hs
      · cases hc; simp [semH] at hs
      · cases hc
    · rename_i hcal
      split at hc
      · rename_i x y e e' h1 h2 h3
        split at hc
        · rename_i i hi
          split at hc
          · rename_i h4
            cases hc
            exact good_app R hid hop hcal h1 h2 h3 hi h4.1 h4.2.1 h4.2.2 hs
          · cases hc
        · cases hc
      · cases hc
    · rename_i hcal
      split at hc
      · rename_i x kt e h1 h2; cases hc; exact good_clm R hop hcal h1 h2 hs
      · cases hc
    · cases hc
  case binOp op t x y yt =>
    have eqn : ∀ (f : Bool → SOp), cmpEq op f = some s → s = f false ∨ s = f true := by
      intro f h
      unfold cmpEq at h
      split at h <;> cases h <;> simp
    unfold cmpBin at hc
    (repeat' split at hc) <;> first | (cases hc; done) | (cases hc; simp [semH] at hs; done) | (rcases eqn _ hc with rfl | rfl <;> simp [semH] at hs; done)
  case makeFunc fn first caps =>
    cases fn <;> simp only [reduceCtorEq] at hc
    case func f => split at hc <;> first | (cases hc; done) | (cases hc; simp [semH] at hs; done)
  case typeAssert x xt t ok =>
    cases ok with
    | false => simp at hc
    | true =>
      simp only at hc
      (repeat' split at hc) <;> first | (cases hc; done) | (cases hc; simp [semH] at hs; done)
  all_goals first
    | (subst hc; simp [semH] at hs; done)
    | (obtain ⟨_, _, rfl⟩ := Option.map_eq_some_iff.1 hc; simp [semH] at hs; done)
    | ((repeat' split at hc) <;> first | (cases hc; done) | (cases hc; simp [semH] at hs; done) | (obtain ⟨_, _, rfl⟩ := Option.map_eq_some_iff.1 hc; simp [semH] at hs; done))
end
end Go.Proofs.Ytlhnncmflnjinaa.Am
