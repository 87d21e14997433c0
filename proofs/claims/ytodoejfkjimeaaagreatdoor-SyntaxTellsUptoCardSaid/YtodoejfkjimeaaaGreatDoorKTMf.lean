/- Packed by a program of this repo: Mf Mg Mh Mi Mj Mk. -/
import Derived.Test.YtodoejfkjimeaaaGreatDoorKTMd
import Derived.Laws.StructEq
import Derived.Laws.Pointers
import Derived.OrdersIn
import Derived.TacticsIn
import Derived.Orders
set_option linter.unusedSimpArgs false
set_option linter.unusedVariables false
namespace Go.Proofs.YtodoejfkjimeaaaGreatDoor.Am
open Go Go.RowKit

section
variable {P : Program} {N : Nat → Prop} {w0 : World} {M0 : Nat → Prop} {β0 : Nat → Option Nat} {ds : List Deferred} {β : Nat → Option Nat} {fr : Regs} {σ : Hp} {F : Nat → Prop} {a : Act} {w : World}

def One (k : Nat) (x y : AV) (p : Bool) : Prop :=
  (k = 0 ∧ ∃ kk a b, x = .sc (.int kk a) ∧ y = .sc (.int kk b) ∧ p = (a == b)) ∨ (k = 1 ∧ ∃ a b, x = .sc (.bool a) ∧ y = .sc (.bool b) ∧ p = (a == b)) ∨ (k = 2 ∧ ∃ a b, x = .s a ∧ y = .s b ∧ p = (a == b))
theorem eqK_nil {l m : List AV} {r : Bool} (h : eqK [] l m = some r) : l = [] ∧ m = [] ∧ r = true := by
  cases l <;> cases m <;> simp [eqK] at h
  exact ⟨rfl, rfl, h⟩
theorem eqK_cons {k : Nat} {ks : List Nat} {l m : List AV} {r : Bool} (h : eqK (k :: ks) l m = some r) : ∃ x l' y m' p q, l = x :: l' ∧ m = y :: m' ∧ eqK ks l' m' = some q ∧ r = (p && q) ∧ One k x y p := by
  generalize hK : k :: ks = K at h
  unfold eqK at h
  split at h
  · cases hK
  · cases hK
    split at h
    · rename_i hk; subst hk
      obtain ⟨q, h', rfl⟩ := Option.map_eq_some_iff.1 h
      exact ⟨_, _, _, _, _, q, rfl, rfl, h', rfl, .inl ⟨rfl, _, _, _, rfl, rfl, rfl⟩⟩
    · cases h
  · cases hK
    obtain ⟨q, h', rfl⟩ := Option.map_eq_some_iff.1 h
    exact ⟨_, _, _, _, _, q, rfl, rfl, h', rfl, .inr (.inl ⟨rfl, _, _, rfl, rfl, rfl⟩)⟩
  · cases hK
    obtain ⟨q, h', rfl⟩ := Option.map_eq_some_iff.1 h
    exact ⟨_, _, _, _, _, q, rfl, rfl, h', rfl, .inr (.inr ⟨rfl, _, _, rfl, rfl, rfl⟩)⟩
  · cases h
theorem eqK_mk {k : Nat} {ks : List Nat} {x y : AV} {l m : List AV} {p q : Bool} (h : One k x y p) (h' : eqK ks l m = some q) : eqK (k :: ks) (x :: l) (y :: m) = some (p && q) := by
  rcases h with ⟨rfl, kk, a, b, rfl, rfl, rfl⟩ | ⟨rfl, a, b, rfl, rfl, rfl⟩ | ⟨rfl, a, b, rfl, rfl, rfl⟩ <;> simp [eqK, h']
theorem eqK_append : ∀ (k1 k2 : List Nat) (l m : List AV) (r : Bool), eqK (k1 ++ k2) l m = some r → ∃ p q, eqK k1 (l.take k1.length) (m.take k1.length) = some p ∧ eqK k2 (l.drop k1.length) (m.drop k1.length) = some q ∧ r = (p && q) ∧ k1.length ≤ l.length ∧ k1.length ≤ m.length
  | [], k2, l, m, r, h => ⟨true, r, by simp [eqK], by simpa using h, by simp, by simp, by simp⟩
  | k :: k1, k2, l, m, r, h => by
    obtain ⟨x, l', y, m', p, q, rfl, rfl, h', rfl, ho⟩ := eqK_cons h
    obtain ⟨p', q', a1, a2, a3, a4, a5⟩ := eqK_append k1 k2 _ _ q h'
    exact ⟨p && p', q', by simpa using eqK_mk ho a1, by simpa using a2, by rw [a3, ← Bool.and_assoc], by simpa using a4, by simpa using a5⟩
theorem eqK_len : ∀ (ks : List Nat) (l m : List AV) (r : Bool), eqK ks l m = some r → l.length = ks.length ∧ m.length = ks.length
  | [], l, m, r, h => by obtain ⟨rfl, rfl, _⟩ := eqK_nil h; exact ⟨rfl, rfl⟩
  | k :: ks, l, m, r, h => by
    obtain ⟨x, l', y, m', p, q, rfl, rfl, h', rfl, ho⟩ := eqK_cons h
    simpa using eqK_len _ _ _ q h'
def From (M : Nat → Prop) (w : World) (β : Nat → Option Nat) (xs : Array Value) (off : Nat) (l : List AV) : Prop := off + l.length ≤ xs.size ∧ ∀ (j : Nat) (z : AV), l[j]? = some z → Rel M w β (xs.getD (off + j) undef) z
theorem From.part {M : Nat → Prop} {xs : Array Value} {off : Nat} {l : List AV} (h : From M w β xs off l) (n m : Nat) (hnm : n + m ≤ l.length) : From M w β xs (off + n) ((l.drop n).take m) := by
  refine ⟨by have := h.1; simp; omega, fun j z hz => ?_⟩
  rw [List.getElem?_take] at hz
  split at hz
  · rw [List.getElem?_drop] at hz
    rw [Nat.add_assoc]; exact h.2 _ z hz
  · cases hz
theorem eq_flat (M : Nat → Prop) : ∀ (d : Nat) (t : TypeId) (ks : List Nat), flatT P d t = some ks → ∀ (n : Nat) (xs ys : Array Value) (off : Nat) (l m : List AV) (r : Bool), d ≤ n → From M w β xs off l → From M w β ys off m → eqK ks l m = some r →
    ∃ x y, (Go.part t xs off).run P w = .ok x w ∧ (Go.part t ys off).run P w = .ok y w ∧ (Op.equalIn n t x y).run P w = .ok r w
  | 0, t, ks, h, n, xs, ys, off, l, m, r, hn, hx, hy, he => by cases h
  | d + 1, t, ks, h, n, xs, ys, off, l, m, r, hn, hx, hy, he => by
    obtain ⟨n, rfl⟩ : ∃ n', n = n' + 1 := ⟨n - 1, by omega⟩
    unfold flatT at h
    have leaf : ∀ td : TypeDesc, P.underlying t = some td → (∀ fs, td ≠ .struct fs) → (∀ k e, td ≠ .array k e) → l.length = 1 → m.length = 1 → ((Go.part t xs off).run P w = .ok (xs.getD off undef) w ∧ (Go.part t ys off).run P w = .ok (ys.getD off undef) w) := by
      intro td ht h1 h2 hl hm
      have ha : aggT P t = some none := by
        unfold aggT; rw [ht]
        cases td <;> first | rfl | exact absurd rfl (h1 _) | exact absurd rfl (h2 _ _)
      have e1 := run_part (w := w) ha xs off (by have := hx.1; simp; omega)
      have e2 := run_part (w := w) ha ys off (by have := hy.1; simp; omega)
      exact ⟨e1, e2⟩
    have hlen := eqK_len _ _ _ _ he
    have one : ∀ (k : Nat) (td : TypeDesc), ks = [k] → P.underlying t = some td → (∀ fs, td ≠ .struct fs) → (∀ k e, td ≠ .array k e) → (∀ x y u v p, One k x y p → Rel M w β u x → Rel M w β v y → (Op.equalIn (n + 1) t u v).run P w = .ok p w) →
        ∃ x y, (Go.part t xs off).run P w = .ok x w ∧ (Go.part t ys off).run P w = .ok y w ∧ (Op.equalIn (n + 1) t x y).run P w = .ok r w := by
      intro k td hk ht h1 h2 hrun
      subst hk
      obtain ⟨x, l', y, m', p, q, rfl, rfl, h', rfl, ho⟩ := eqK_cons he
      obtain ⟨rfl, rfl, rfl⟩ := eqK_nil h'
      obtain ⟨g1, g2⟩ := leaf td ht h1 h2 rfl rfl
      refine ⟨_, _, g1, g2, ?_⟩
      rw [Bool.and_true]
      exact hrun _ _ _ _ _ ho (by simpa using hx.2 0 _ rfl) (by simpa using hy.2 0 _ rfl)
    split at h
    · rename_i k0 ht
      cases h
      refine one 0 _ rfl ht (fun fs h => by cases h) (fun k e h => by cases h) (fun x y u v p ho hu hv => ?_)
      rcases ho with ⟨_, kk, a, b, rfl, rfl, rfl⟩ | ⟨h0, _⟩ | ⟨h0, _⟩
      · rw [rel_sc hu, rel_sc hv, run_equalIn_int w n t kk _ a b ht]
      · cases h0
      · cases h0
    · rename_i ht
      cases h
      refine one 1 _ rfl ht (fun fs h => by cases h) (fun k e h => by cases h) (fun x y u v p ho hu hv => ?_)
      rcases ho with ⟨h0, _⟩ | ⟨_, a, b, rfl, rfl, rfl⟩ | ⟨h0, _⟩
      · cases h0
      · rw [rel_sc hu, rel_sc hv, run_equalIn_bool' w n t a b ht]
      · cases h0
    · rename_i ht
      cases h
      refine one 2 _ rfl ht (fun fs h => by cases h) (fun k e h => by cases h) (fun x y u v p ho hu hv => ?_)
      rcases ho with ⟨h0, _⟩ | ⟨h0, _⟩ | ⟨_, a, b, rfl, rfl, rfl⟩
      · cases h0
      · cases h0
      · obtain ⟨s1, rfl, rfl, _⟩ := rel_s hu
        obtain ⟨s2, rfl, rfl, _⟩ := rel_s hv
        rw [run_equalIn_string w n t s1 s2 ht, Lib.toList_data, Lib.toList_data]
    · rename_i fs ht
      split at h
      · rename_i ks' hf
        split at h
        · rename_i hc
          cases h
          obtain ⟨hsz, hst⟩ := hc
          have ha : aggT P t = some (some ks.length) := by unfold aggT; rw [ht]; simp [hsz]
          have e1 := run_part (w := w) ha xs off (by have := hx.1; simp; omega)
          have e2 := run_part (w := w) ha ys off (by have := hy.1; simp; omega)
          refine ⟨_, _, e1, e2, ?_⟩
          have hfo : P.fieldsOf t = fs := by simp [Program.fieldsOf, ht]
          simp only [partV]
          rw [run_equalIn_struct w n t _ _ (by rw [hfo]; exact ht) hst, hfo]
          have conv : ∀ (zs : Array Value) (l : List AV), l.length = ks.length → From M w β zs off l → From M w β ((List.range ks.length).map (fun j => zs.getD (off + j) undef)).toArray 0 l := by
            intro zs l hl hz
            refine ⟨by simp [hl], fun j z hj => ?_⟩
            have hjl := (List.getElem?_eq_some_iff.1 hj).1
            have : (((List.range ks.length).map (fun j => zs.getD (off + j) undef)).toArray).getD (0 + j) undef = zs.getD (off + j) undef := by
              simp [Array.getD_eq_getD_getElem?, show j < ks.length by omega]
            rw [this]; exact hz.2 j z hj
          have hx' := conv xs l hlen.1 hx
          have hy' := conv ys m hlen.2 hy
          generalize ((List.range ks.length).map (fun j => xs.getD (off + j) undef)).toArray = xs' at hx'
          generalize ((List.range ks.length).map (fun j => ys.getD (off + j) undef)).toArray = ys' at hy'
          have key : ∀ (fl : List Field) (o : Nat) (ks : List Nat) (l m : List AV) (r : Bool), flatF (flatT P d) fl o = some ks → From M w β xs' o l → From M w β ys' o m → eqK ks l m = some r → (Op.eqFields n xs' ys' fl).run P w = .ok r w := by
            intro fl
            induction fl with
            | nil =>
              intro o ks l m r hk _ _ he
              simp only [flatF, Option.some.injEq] at hk
              subst hk
              obtain ⟨h1, h2⟩ := eqK_len _ _ _ _ he
              have h1 := List.eq_nil_of_length_eq_zero h1
              have h2 := List.eq_nil_of_length_eq_zero h2
              subst h1 h2
              cases he
              simp [Op.eqFields]
            | cons f fl ih =>
              intro o ks l m r hk hl hm he
              simp only [flatF] at hk
              split at hk
              · rename_i hc
                obtain ⟨rfl, hname⟩ := hc
                split at hk
                · rename_i k1 hk1
                  obtain ⟨k2, hk2, rfl⟩ := Option.map_eq_some_iff.1 hk
                  obtain ⟨p, q, a1, a2, a3, a4, a5⟩ := eqK_append k1 k2 l m r he
                  have hl1 := hl.part 0 k1.length (by omega)
                  have hm1 := hm.part 0 k1.length (by omega)
                  simp only [Nat.add_zero, List.drop_zero] at hl1 hm1
                  obtain ⟨x, y, g1, g2, g3⟩ := eq_flat M d f.type k1 hk1 n xs' ys' f.offset _ _ p (by omega) hl1 hm1 a1
                  have hl2 := hl.part k1.length (l.length - k1.length) (by omega)
                  have hm2 := hm.part k1.length (m.length - k1.length) (by omega)
                  rw [List.take_of_length_le (by simp)] at hl2 hm2
                  have hrest := ih _ _ _ _ q hk2 hl2 hm2 a2
                  have hname' : f.name ≠ "_" := by intro e; rw [e] at hname; simp at hname
                  simp only [Op.eqFields, hname', ne_eq, not_false_eq_true, if_true, Sem.run_bind, g1, g2, g3, Result.andThen_ok]
                  cases p
                  · simp [a3]
                  · simp [a3, hrest]
                · cases hk
              · cases hk
          exact key fs.toList 0 ks l m r hf hx' hy' he
        · cases h
      · cases h
    · cases h
theorem good_eqs (R : SRel N w0 M0 β0 ds β fr σ F a w) {o : Oper} {neg : Bool} {x y : Operand} {t yt : TypeId} {fs : Array Field} {ks : List Nat} {v : AV} (ho : o.op = .binOp (if neg then .neq else .eql) t x y yt) (ht : P.underlying t = some (.struct fs)) (hg : P.eqGuardType P.depth t = false) (hk : flatT P 6 t = some ks)
    (hs : aEqs ks neg ((cOpd x).get fr) ((cOpd y).get fr) = some v) : GoodR P o N β σ a w v := by
  have h1 := rel_get R x
  have h2 := rel_get R y
  unfold aEqs at hs
  split at hs
  · rename_i l m g1 g2
    rw [g1] at h1; rw [g2] at h2
    generalize hu1 : a.eval x = u1 at h1
    generalize hu2 : a.eval y = u2 at h2
    cases h1 with
    | ag xs l hn1 hr1 =>
    cases h2 with
    | ag ys m hn2 hr2 =>
    obtain ⟨p, hp, rfl⟩ := Option.map_eq_some_iff.1 hs
    have hlen := eqK_len _ _ _ _ hp
    obtain ⟨x', y', e1, e2, e3⟩ := eq_flat (live N β σ) 6 t ks hk 10000 xs ys 0 l m p (by omega) ⟨by omega, by simpa using ag_getD hn1 hr1⟩ ⟨by omega, by simpa using ag_getD hn2 hr2⟩ hp
    have hsz : szT P t = some ks.length := by
      unfold flatT at hk
      rw [ht] at hk
      simp only at hk
      split at hk
      · split at hk
        · rename_i hc; cases hk; exact hc.1
        · cases hk
      · cases hk
    have ha : aggT P t = some (some ks.length) := by unfold aggT; rw [ht]; simp [hsz]
    have all : ∀ (zs : Array Value) (l : List AV), zs.size = l.length → l.length = ks.length → partV (some ks.length) (fun j => zs.getD j undef) 0 = .agg zs := by
      intro zs l h1 h2
      unfold partV
      simp only
      congr 1
      apply Array.ext
      · simp; omega
      · intro i h3 h4
        simp [h4]
    rw [run_part (w := w) ha xs 0 (by simp; omega), all xs l hn1 hlen.1] at e1
    rw [run_part (w := w) ha ys 0 (by simp; omega), all ys m hn2 hlen.2] at e2
    cases e1; cases e2
    cases neg
    · exact ⟨.bool p, by simp [execOp, ho, hu1, hu2, run_eqGuard_agg w _ t x y xs ys hg, run_eql_struct w t xs ys, e3], .sc _⟩
    · exact ⟨.bool !p, by simp [execOp, ho, hu1, hu2, run_eqGuard_agg w _ t x y xs ys hg, run_neq_struct w t xs ys, e3], .sc _⟩
  · cases hs
theorem good_eqb (R : SRel N w0 M0 β0 ds β fr σ F a w) {o : Oper} {neg : Bool} {x y : Operand} {t yt : TypeId} {v : AV} (ho : o.op = .binOp (if neg then .neq else .eql) t x y yt) (ht : P.underlying t = some .bool)
    (hs : aEqb neg ((cOpd x).get fr) ((cOpd y).get fr) = some v) : GoodR P o N β σ a w v := by
  have h1 := rel_get R x
  have h2 := rel_get R y
  unfold aEqb at hs
  split at hs
  · rename_i g1 g2
    rw [g1] at h1; rw [g2] at h2
    have e1 := rel_sc h1
    have e2 := rel_sc h2
    cases hs
    cases neg
    · exact ⟨_, by simp [execOp, ho, e1, e2, eqGuard, run_eql_bool, ht]; try rfl, .sc _⟩
    · exact ⟨_, by simp [execOp, ho, e1, e2, eqGuard, run_neq_bool, ht]; try rfl, .sc _⟩
  · cases hs
theorem eq_sl_nil (w : World) (d : Nat) {t e : TypeId} (ht : P.underlying t = some (.slice e)) (A : Option Addr) (n c : Nat) : (Op.equalIn (d + 1) t (.slice A n c) (.slice none 0 0)).run P w = .ok A.isNone w := by
  cases A <;> simp [Op.equalIn, run_underlying ht]
theorem good_eqn (R : SRel N w0 M0 β0 ds β fr σ F a w) {o : Oper} {neg : Bool} {x : Operand} {t yt e : TypeId} {v : AV} (ho : o.op = .binOp (if neg then .neq else .eql) t x (.const (.slice none 0 0)) yt) (ht : P.underlying t = some (.slice e))
    (hs : aEqn neg ((cOpd x).get fr) = some v) : GoodR P o N β σ a w v := by
  have h1 := rel_get R x
  have run : ∀ (A : Option Addr) (n c : Nat), a.eval x = .slice A n c → (execOp a.eval o).run P w = .ok (.value (.bool (if neg then !A.isNone else A.isNone))) w := by
    intro A n c e1
    have h : (Op.equalIn 10000 t (.slice A n c) (.slice none 0 0)).run P w = .ok A.isNone w := eq_sl_nil w 9999 ht A n c
    have e2 : a.eval (.const (.slice none 0 0)) = .slice none 0 0 := rfl
    cases neg
    · simp [execOp, ho, e1, e2, eqGuard, binOp, Op.equal, Op.maxDepth, h]
    · simp [execOp, ho, e1, e2, eqGuard, binOp, Op.equal, Op.maxDepth, h]
  generalize (cOpd x).get fr = X at h1 hs
  generalize hu : a.eval x = u at h1 run
  unfold aEqn at hs
  split at hs
  · cases hs
    cases h1 with
    | em A => exact ⟨_, run _ _ _ rfl, .bo _⟩
  · cases hs
    cases h1 with
    | tr A c k rows us hk hc hB hr hA hcell hrel => exact ⟨_, run _ _ _ rfl, .bo _⟩
  · cases hs
    cases h1 with
    | tr A c k rows us hk hc hB hr hA hcell hrel =>
      obtain ⟨ad, rfl, _⟩ := hA (by simp)
      refine ⟨_, run _ _ _ rfl, ?_⟩
      cases neg <;> exact .sc _
  · cases hs
    rcases rel_ow h1 rfl with ⟨_, _, A, rfl⟩ | ⟨cap, b, e, n, rfl, _⟩
    · exact ⟨_, run _ _ _ rfl, .bo _⟩
    · exact ⟨_, run _ _ _ rfl, .bo _⟩
  · cases hs
    rcases rel_ow h1 rfl with ⟨_, h0, _⟩ | ⟨cap, b, e, n, rfl, _⟩
    · cases h0
    · refine ⟨_, run _ _ _ rfl, ?_⟩
      cases neg <;> exact .sc _
  · cases hs
theorem eq_nil_some (w : World) (d : Nat) {t e : TypeId} (ht : P.underlying t = some (.pointer e)) (A : Addr) : (Op.equalIn (d + 1) t (.pointer none) (.pointer (some A))).run P w = .ok false w := by
  simp [Op.equalIn, run_underlying ht]
theorem eq_one_block (w : World) (d : Nat) {t e : TypeId} {inf : TypeInfo} (ht : P.underlying t = some (.pointer e)) (hinf : P.info? e = some inf) (hn0 : inf.size ≠ 0) (A B : Addr) (h : A.block = B.block) : (Op.equalIn (d + 1) t (.pointer (some A)) (.pointer (some B))).run P w = .ok (A == B) w := by
  simp [Op.equalIn, run_underlying ht, sizeOf, typeInfo, hinf, hn0, sameAddr, h]
theorem wrap_small {n : Nat} (h : n ≤ 16777216) : IntKind.i64.wrap (n : Int) = n := by rw [IntKind.wrap_i64]; omega
theorem mks_run {o : Oper} {t e : TypeId} {len k : Nat} {zs : List Value} {w : World} {ρ : Operand → Value} (ho : o.op = .makeSlice t (.const (.int .i64 (.ofNat len))) (.const (.int .i64 (.ofNat len)))) (hρ : ∀ v, ρ (.const v) = v) (ht : P.underlying t = some (.slice e)) (hk : szT P e = some k) (hz : zsT P e = some zs)
    (hk0 : 0 < k) (hl : 0 < len) (hsm : len * k ≤ 16777216) (hb : ((P.info? e).map (·.bytes)).all (fun b => b * len ≤ 140737488355328) = true) : (execOp ρ o).run P w = (execOp ρ { o with op := .buildSlice t len #[] }).run P w := by
  unfold szT at hk
  obtain ⟨inf, hinf, hsz⟩ := Option.map_eq_some_iff.1 hk
  unfold zsT at hz
  obtain ⟨z, hz1, rfl⟩ := Option.map_eq_some_iff.1 hz
  obtain ⟨it, hit, hz2⟩ := Option.bind_eq_some_iff.1 hz1
  rw [hinf] at hit; cases hit
  simp only [hinf, Option.map_some, Option.all_some, decide_eq_true_eq] at hb
  have hlen : len ≤ 16777216 := by
    have : len * 1 ≤ len * k := Nat.mul_le_mul_left _ hk0
    omega
  have hl1 : inf.bytes * len ≤ 140737488355328 := hb
  have hw : IntKind.i64.wrap (len : Int) = len := wrap_small hlen
  have hl2 : (inf.bytes : Int) * (len : Int) ≤ 140737488355328 := Int.ofNat_le.2 hl1
  have hne : ¬ (len * inf.size = 0) := by
    rw [hsz]
    intro h
    rcases Nat.mul_eq_zero.1 h with h | h <;> omega
  have hsm' : ¬ (16777216 < len * inf.size) := by rw [hsz]; omega
  have h1 : ¬ ((281474976710656 : Int) < (inf.bytes : Int) * (len : Int)) := by omega
  have h2 : ¬ ((len : Int) < 0) := by omega
  have h3 : ¬ (roomBytes < len * inf.bytes) := by rw [Nat.mul_comm]; show ¬ (140737488355328 < inf.bytes * len); omega
  simp only [execOp, ho, hρ, Instr.makeSlice, Instr.buildSlice, asInt, typeInfo, sizeOf, asIntOf]
  simp [Sem.run_bind, run_underlying ht, hinf, Result.andThen, hw, h1, h2, hne, hsm', askRoom, h3, Instr.fill]
theorem good_mxn (R : SRel N w0 M0 β0 ds β fr σ F a w) {o : Oper} {c : Call} {mx : Bool} {x y : Operand} {v : AV} (ho : o.op = .call c) (hc : c.callee = .builtin (if mx then .max else .min)) (ha : c.args.toList = [x, y])
    (hs : aMxn mx ((cOpd x).get fr) ((cOpd y).get fr) = some v) : GoodR P o N β σ a w v := by
  have h := rel_get R x
  have h' := rel_get R y
  have ha' : c.args = #[x, y] := by apply Array.ext'; simpa using ha
  unfold aMxn at hs
  split at hs
  · rename_i k n k' m e e'
    rw [e] at h; rw [e'] at h'
    generalize hu : a.eval x = u at h
    generalize hu' : a.eval y = u' at h'
    cases h; cases h'; cases hs
    cases mx
    · exact ⟨_, by simp [execOp, ho, resolve, hc, ha', invoke, Go.builtin, Builtin.min_, Builtin.min2, hu, hu']; try rfl, .sc _⟩
    · exact ⟨_, by simp [execOp, ho, resolve, hc, ha', invoke, Go.builtin, Builtin.max_, Builtin.max2, hu, hu']; try rfl, .sc _⟩
  · cases hs
theorem good_eqp (R : SRel N w0 M0 β0 ds β fr σ F a w) {o : Oper} {neg : Bool} {x y : Operand} {t yt e : TypeId} {v : AV} (ho : o.op = .binOp (if neg then .neq else .eql) t x y yt) (ht : P.underlying t = some (.pointer e)) (he : (szT P e).any (· != 0) = true)
    (hs : aEqp neg ((cOpd x).get fr) ((cOpd y).get fr) = some v) : GoodR P o N β σ a w v := by
  have h1 := rel_get R x
  have h2 := rel_get R y
  unfold aEqp at hs
  obtain ⟨p, hp, rfl⟩ := Option.map_eq_some_iff.1 hs
  have key : ∀ (A B : Option Addr), a.eval x = .pointer A → a.eval y = .pointer B → (Op.equalIn 10000 t (.pointer A) (.pointer B)).run P w = .ok p w → GoodR P o N β σ a w (bb (if neg then !p else p)) := by
    intro A B e1 e2 h
    cases neg
    · exact ⟨.bool p, by simp [execOp, ho, e1, e2, eqGuard, binOp, Op.equal, Op.maxDepth, h], .sc _⟩
    · exact ⟨.bool !p, by simp [execOp, ho, e1, e2, eqGuard, binOp, Op.equal, Op.maxDepth, h], .sc _⟩
  generalize (cOpd x).get fr = X at h1 hp
  generalize (cOpd y).get fr = Y at h2 hp
  generalize hu1 : a.eval x = u1 at h1 key
  generalize hu2 : a.eval y = u2 at h2 key
  have hpe : P.underlying t = some (.pointer (P.pointee t)) := by simp [Program.pointee, ht]
  have nil1 : ∀ A : Option Addr, (Op.equalIn 10000 t (.pointer A) (.pointer none)).run P w = .ok A.isNone w := fun A => run_equalIn_pointer_nil w 9999 t A hpe
  have nil2 : ∀ A : Addr, (Op.equalIn 10000 t (.pointer none) (.pointer (some A))).run P w = .ok false w := fun A => eq_nil_some w 9999 ht A
  unfold eqP at hp
  split at hp
  · cases hp
    have e1 := rel_sc h1; subst e1
    cases h2 with
    | rf _ _ _ _ b hb => exact key _ _ rfl rfl (nil2 _)
  · cases hp
    have e2 := rel_sc h2; subst e2
    cases h1 with
    | rf _ _ _ _ b hb => exact key _ _ rfl rfl (nil1 _)
  · cases hp
    have e1 := rel_sc h1; subst e1
    cases h2 with
    | fp A => exact key _ _ rfl rfl (nil2 _)
  · cases hp
    have e2 := rel_sc h2; subst e2
    cases h1 with
    | fp A => exact key _ _ rfl rfl (nil1 _)
  · cases hp
    have e1 := rel_sc h1; subst e1
    have e2 := rel_sc h2; subst e2
    exact key _ _ rfl rfl (nil1 _)
  · split at hp
    · rename_i i k r c i' k' r' c' hc
      obtain ⟨rfl, rfl, hc1, hc2⟩ := hc
      cases hp
      cases h1 with
      | rf _ _ _ _ b hb =>
      cases h2 with
      | rf _ _ _ _ b' hb' =>
      rw [hb] at hb'; cases hb'
      refine key _ _ rfl rfl ?_
      obtain ⟨n, hn, hn0⟩ : ∃ n, szT P e = some n ∧ n ≠ 0 := by
        cases hz : szT P e with
        | none => rw [hz] at he; cases he
        | some n => rw [hz] at he; exact ⟨n, rfl, by simpa using he⟩
      unfold szT at hn
      obtain ⟨inf, hinf, rfl⟩ := Option.map_eq_some_iff.1 hn
      have heq : ((⟨b, r * k + c, none⟩ : Addr) == ⟨b, r' * k + c', none⟩) = (r == r' && c == c') := by
        rw [Bool.eq_iff_iff]
        simp only [beq_iff_eq, Addr.mk.injEq, and_true, true_and, Bool.and_eq_true]
        constructor
        · intro h
          have h1 : (r * k + c) / k = r := by rw [Nat.mul_comm, Nat.mul_add_div (by omega), Nat.div_eq_of_lt hc1]; omega
          have h2 : (r' * k + c') / k = r' := by rw [Nat.mul_comm, Nat.mul_add_div (by omega), Nat.div_eq_of_lt hc2]; omega
          have : r = r' := by rw [← h1, ← h2, h]
          subst this
          exact ⟨rfl, by omega⟩
        · rintro ⟨rfl, rfl⟩; rfl
      rw [← heq]
      exact eq_one_block w 9999 ht hinf hn0 _ _ rfl
    · cases hp
  · cases hp

theorem soundR (R : SRel N w0 M0 β0 ds β fr σ F a w) {o : Oper} {s : SOp} {v : AV} (hc : cmp P o.op = some s) (hq : quiet s = true) (hs : semR σ (Opd.get fr) s = some v) : GoodR P o N β σ a w v := by
  generalize hop : o.op = op at hc
  cases op <;> simp only [cmp, reduceCtorEq, Option.some.injEq] at hc
  case move x => subst hc; simp only [semR, Option.some.injEq] at hs; subst hs; exact good_mv R (.inl hop)
  case assign x => subst hc; simp only [semR, Option.some.injEq] at hs; subst hs; exact good_mv R (.inr hop)
  case pick c x y => subst hc; exact good_pick R hop hs
  case alloc e => obtain ⟨zs, hz, rfl⟩ := Option.map_eq_some_iff.1 hc; split at hq <;> simp [quiet] at hq
  case box e x => subst hc; simp [quiet] at hq
  case build t parts =>
    split at hc
    · rename_i d zs h1 h2
      split at hc
      · rename_i places h3
        obtain ⟨ps, h4, rfl⟩ := Option.map_eq_some_iff.1 hc
        exact good_build R hop h1 h2 h3 h4 hs
      · cases hc
    · cases hc
  case buildSlice t len parts =>
    split at hc
    · split at hc
      · split at hc
        · cases hc; simp [quiet] at hq
        · cases hc
      · cases hc
    · cases hc
  case load t x =>
    obtain ⟨m, hm, rfl⟩ := Option.map_eq_some_iff.1 hc
    exact good_ld R hop hm hs
  case store t x y => obtain ⟨m, hm, rfl⟩ := Option.map_eq_some_iff.1 hc; simp [quiet] at hq
  case makeMap t n =>
    cases n with
    | some n => cases hc
    | none =>
      simp only at hc
      split at hc
      · split at hc
        · cases hc; simp [quiet] at hq
        · cases hc
      · cases hc
  case mapUpdate t x k y =>
    split at hc
    · split at hc
      · cases hc; simp [quiet] at hq
      · cases hc
    · cases hc
  case lookup t x k ok =>
    split at hc
    · rename_i kt e h1
      split at hc
      · rename_i z h2 h3
        cases hc; exact good_lkp R hop h1 h2 h3 hs
      · cases hc
    · cases hc
  case fieldAddr t x f =>
    split at hc
    · rename_i off ft h1
      split at hc
      · rename_i n h2
        split at hc
        · cases hc
        · rename_i h3
          cases hc
          exact good_fad R hop h1 h2 h3 hs
      · cases hc
    · cases hc
  case field t x f =>
    split at hc
    · rename_i off ft h1
      obtain ⟨m, hm, rfl⟩ := Option.map_eq_some_iff.1 hc
      exact good_fld R hop h1 hm hs
    · cases hc
  case indexAddr t x i =>
    split at hc
    · rename_i e h1
      obtain ⟨k, hk, rfl⟩ := Option.map_eq_some_iff.1 hc
      exact good_iad R hop h1 hk hs
    · rename_i n e h1
      obtain ⟨k, hk, rfl⟩ := Option.map_eq_some_iff.1 hc
      exact good_idp R hop h1 hk hs
    · cases hc
  case index t x i =>
    split at hc
    · rename_i h1
      cases hc
      exact good_istr R hop h1 hs
    · rename_i n e h1
      split at hc
      · rename_i m k h2 h3
        cases hc
        exact good_iarr R hop h1 h2 h3 hs
      · cases hc
    · cases hc
  case binOp op t x y yt =>
    have eqn : ∀ (f : Bool → SOp), cmpEq op f = some s → (op = .eql ∧ s = f false) ∨ (op = .neq ∧ s = f true) := by
      intro f h
      unfold cmpEq at h
      split at h
      · cases h; exact .inl ⟨rfl, rfl⟩
      · cases h; exact .inr ⟨rfl, rfl⟩
      · cases h
    unfold cmpBin at hc
    split at hc
    · cases hc; exact good_bin R hop hs
    · cases hc; exact good_bin R hop hs
    · rename_i h1
      rcases eqn _ hc with ⟨rfl, rfl⟩ | ⟨rfl, rfl⟩
      · exact good_eqb R (neg := false) hop h1 hs
      · exact good_eqb R (neg := true) hop h1 hs
    · rename_i fs h1
      split at hc
      · rename_i hg
        split at hc
        · rename_i ks hk
          rcases eqn _ hc with ⟨rfl, rfl⟩ | ⟨rfl, rfl⟩
          · exact good_eqs R (neg := false) hop h1 hg hk hs
          · exact good_eqs R (neg := true) hop h1 hg hk hs
        · cases hc
      · cases hc
    · rename_i e h1
      split at hc
      · rename_i he
        rcases eqn _ hc with ⟨rfl, rfl⟩ | ⟨rfl, rfl⟩
        · exact good_eqp R (neg := false) hop h1 he hs
        · exact good_eqp R (neg := true) hop h1 he hs
      · cases hc
    · rename_i e h1
      split at hc
      · rcases eqn _ hc with ⟨rfl, rfl⟩ | ⟨rfl, rfl⟩
        · exact good_eqn R (neg := false) hop h1 hs
        · exact good_eqn R (neg := true) hop h1 hs
      · cases hc
    · cases hc
  case unOp op t x => subst hc; exact good_un R hop hs
  case convert s d x =>
    split at hc
    · rename_i k0 k h1 h2; cases hc; exact good_cvi R hop h1 h2 hs
    · rename_i h1 h2; cases hc; exact good_cvs R hop h1 h2 hs
    · rename_i k0 h1 h2; cases hc; exact good_cvr R hop h1 h2 hs
    · rename_i e h1 h2
      split at hc
      · rename_i h3; cases hc; exact good_cvb R hop h1 h3 h2 hs
      · cases hc
    · cases hc
  case slice t x lo hi mx =>
    split at hc
    · rename_i e h1
      split at hc
      · rename_i k h2
        split at hc
        · rename_i h3; cases hc; exact good_slc R hop h1 h2 h3 hs
        · cases hc
      · cases hc
    · rename_i h1
      split at hc
      · cases hc; exact good_sstr R hop h1 hs
      · cases hc
    · cases hc
  case extract x i => subst hc; exact good_ext R hop hs
  case makeFunc fn first caps =>
    cases fn <;> simp only [reduceCtorEq] at hc
    case func f =>
      split at hc
      · rename_i h0
        cases hc
        simp only [semR, Option.some.injEq] at hs
        subst hs
        exact good_mkf R hop h0
      · cases hc
  case nilCheck x => subst hc; exact good_nck R hop hs
  case makeInterface t x =>
    split at hc
    · rename_i h1; cases hc; exact good_mki R hop h1 (fun ms h => by cases h) hs
    · cases hc
    · rename_i h1; cases hc; exact good_mki R hop h1 (fun ms h => by cases h) hs
    · cases hc
  case typeAssert x xt t ok =>
    cases ok with
    | false => simp at hc
    | true =>
      simp only at hc
      split at hc
      · cases hc
      · rename_i d z hne h1 h2
        cases hc
        obtain ⟨i, hi, hz⟩ := Option.bind_eq_some_iff.1 h2
        exact good_tas R hop h1 (fun ms e => hne ms e) hi hz hs
      · cases hc
  case makeSlice t l c =>
    unfold cmpMks at hc
    split at hc
    · split at hc
      · split at hc
        · split at hc
          · cases hc; simp [quiet] at hq
          · cases hc
        · cases hc
      · cases hc
    · cases hc
  case panic x => subst hc; simp [quiet] at hq
  case call c =>
    unfold cmpCall at hc
    split at hc
    · cases hc; simp [quiet] at hq
    · rename_i hcal
      split at hc
      · rename_i x h1 h2; cases hc; exact good_len_str R hop hcal h1 h2 hs
      · rename_i x h1 h2; cases hc; exact good_len_sl R hop hcal h1 h2 hs
      · cases hc
    · rename_i hcal
      split at hc
      · rename_i x y h1; cases hc; exact good_mxn R (mx := true) hop hcal h1 hs
      · cases hc
    · rename_i hcal
      split at hc
      · rename_i x y h1; cases hc; exact good_mxn R (mx := false) hop hcal h1 hs
      · cases hc
    · rename_i hcal
      split at hc
      · split at hc
        · split at hc
          · cases hc; simp [quiet] at hq
          · cases hc
        · cases hc
      · split at hc
        · split at hc
          · cases hc; simp [quiet] at hq
          · cases hc
        · cases hc
      · cases hc
    · rename_i hcal
      split at hc
      · cases hc; simp [quiet] at hq
      · cases hc
    · cases hc
theorem soundH (R : SRel N w0 M0 β0 ds β fr σ F a w) {o : Oper} {s : SOp} {id : Nat} {v : AV} {wr : Wr} (hid : F id) (hc : cmp P o.op = some s) (hs : semH σ id (Opd.get fr) s = some (v, wr)) : Good P o N w0 M0 β0 ds β fr σ F id a w v wr := by
  generalize hop : o.op = op at hc
  cases op <;> simp only [cmp, reduceCtorEq, Option.some.injEq] at hc
  case alloc e =>
    obtain ⟨zs, hz, rfl⟩ := Option.map_eq_some_iff.1 hc
    split at hs
    · exact good_allt R hid hop hz hs
    · exact good_alloc R hid hop hz hs
  case box e x => subst hc; exact good_box R hid hop hs
  case buildSlice t len parts =>
    split at hc
    · rename_i e h1
      split at hc
      · rename_i k zs h2 h3
        split at hc
        · rename_i h4
          cases hc
          refine good_bsl R hid hop h1 h2 h3 h4.1 h4.2.1 h4.2.2 ?_
          simpa [semH, List.map_map, Function.comp_def] using hs
        · cases hc
      · cases hc
    · cases hc
  case makeSlice t l c =>
    unfold cmpMks at hc
    split at hc
    · rename_i len len'
      split at hc
      · rename_i e h1
        split at hc
        · rename_i k zs h2 h3
          split at hc
          · rename_i h4
            obtain ⟨h5, h6, h7, h10, h8, h9⟩ := h4
            rw [h10] at hop
            cases hc
            obtain ⟨u, w', β', g1, g2⟩ := good_bsl (o := { o with op := .buildSlice t len #[] }) R hid rfl h1 h2 h3 h5 h6 h7 (by simpa [semH] using hs)
            have hr := mks_run (w := w) (ρ := a.eval) hop (fun _ => rfl) h1 h2 h3 h5 h8 h7 h9
            exact ⟨u, w', β', by rw [hr]; exact g1, g2⟩
          · cases hc
        · cases hc
      · cases hc
    · cases hc
  case store t x y =>
    obtain ⟨m, hm, rfl⟩ := Option.map_eq_some_iff.1 hc
    exact good_st R hop hm hs
  case makeMap t n =>
    cases n with
    | some n => cases hc
    | none =>
      simp only at hc
      split at hc
      · split at hc
        · cases hc; exact good_mkm R hid hop hs
        · cases hc
      · cases hc
  case mapUpdate t x k y =>
    split at hc
    · rename_i kt e h1
      split at hc
      · rename_i h2; cases hc; exact good_mup R hop h1 h2 hs
      · cases hc
    · cases hc
  case lookup t x k ok =>
    split at hc
    · split at hc
      · cases hc; simp [semH] at hs
      · cases hc
    · cases hc
  case call c =>
    unfold cmpCall at hc
    split at hc
    · cases hc; simp [semH] at hs
    · split at hc
      · cases hc; simp [semH] at hs
      · cases hc; simp [semH] at hs
      · cases hc
    · split at hc
      · cases hc; simp [semH] at hs
      · cases hc
    · split at hc
      · cases hc; simp [semH] at hs
      · cases hc
    · rename_i hcal
      split at hc
      · rename_i x y e e' h1 h2 h3
        split at hc
        · rename_i i hi
          split at hc
          · rename_i h4
            cases hc
            exact good_app R hid hop hcal h1 h2 h3 hi h4.1 h4.2.1 h4.2.2 hs
          · cases hc
        · cases hc
      · rename_i x y e h1 h2 h3
        split at hc
        · rename_i i hi
          split at hc
          · rename_i h4
            cases hc
            exact good_aps R hid hop hcal h1 h2 h3 hi h4.1 h4.2.1 h4.2.2.1 h4.2.2.2 hs
          · cases hc
        · cases hc
      · cases hc
    · rename_i hcal
      split at hc
      · rename_i x kt e h1 h2; cases hc; exact good_clm R hop hcal h1 h2 hs
      · cases hc
    · cases hc
  case binOp op t x y yt =>
    have eqn : ∀ (f : Bool → SOp), cmpEq op f = some s → s = f false ∨ s = f true := by
      intro f h
      unfold cmpEq at h
      split at h <;> cases h <;> simp
    unfold cmpBin at hc
    (repeat' split at hc) <;> first | (cases hc; done) | (cases hc; simp [semH] at hs; done) | (rcases eqn _ hc with rfl | rfl <;> simp [semH] at hs; done)
  case makeFunc fn first caps =>
    cases fn <;> simp only [reduceCtorEq] at hc
    case func f => split at hc <;> first | (cases hc; done) | (cases hc; simp [semH] at hs; done)
  case typeAssert x xt t ok =>
    cases ok with
    | false => simp at hc
    | true =>
      simp only at hc
      (repeat' split at hc) <;> first | (cases hc; done) | (cases hc; simp [semH] at hs; done)
  all_goals first
    | (subst hc; simp [semH] at hs; done)
    | (obtain ⟨_, _, rfl⟩ := Option.map_eq_some_iff.1 hc; simp [semH] at hs; done)
    | ((repeat' split at hc) <;> first | (cases hc; done) | (cases hc; simp [semH] at hs; done) | (obtain ⟨_, _, rfl⟩ := Option.map_eq_some_iff.1 hc; simp [semH] at hs; done))
end
end Go.Proofs.YtodoejfkjimeaaaGreatDoor.Am

set_option linter.unusedSimpArgs false
set_option linter.unusedVariables false
namespace Go.Proofs.YtodoejfkjimeaaaGreatDoor.Am
open Go Go.RowKit

structure SOper where
  dst : Option Nat
  guard : Option (Nat × Bool)
  op : SOp
def cmpO (P : Program) (ops : Array Oper) (o : Oper) : Option SOper :=
  match o.guard with
  | none => (cmp P o.op).map fun s => ⟨o.dst, none, s⟩
  | some (j, want) => match (ops[j]?).bind (·.dst), cmp P o.op with
    | some d, some s => some ⟨o.dst, some (d, want), s⟩
    | _, _ => none

inductive AEnd where
  | ret (v : AV)
  | pan (v : Value)
def RelE (M : Nat → Prop) (w : World) (β : Nat → Option Nat) : Ending → AEnd → Prop
  | .returned v, .ret x => Rel M w β v x
  | .panicked ch, .pan x => ch = [{ v := x, recovered := false }]
  | _, _ => False
def goFn (P : Program) (f : FuncId) : Bool := match P.funcs[f]? with
  | some fn => fn.body.isSome && fn.name != "runtime.NumGoroutine"
  | none => false
def Con (P : Program) (f : FuncId) (args : List AV) (r : AEnd) : Prop :=
  goFn P f = true ∧ ∀ (M : Nat → Prop) (w : World) (vs : Array Value), Aw M M w → Cells M w nob vs args → Calls P f vs w fun e w' => RelE M w' nob e r ∧ Fr w (fun _ => False) w'
def Leaves (N : Nat → Prop) (β : Nat → Option Nat) (σ : Hp) (w : World) (e : Ending) (w' : World) (β' : Nat → Option Nat) (σ' : Hp) (F' : Nat → Prop) (r : AEnd) : Prop :=
  (∀ i b, β i = some b → β' i = some b) ∧ HRel N β' σ' F' w' ∧ RelE (live N β' σ') w' β' e r ∧ Fr w (own β σ) w' ∧ (∀ b, own β' σ' b → b < w.heap.size → own β σ b)
def Fn (T : Nat) (U : Nat → Prop) (n : Nat) : Nat → Prop := fun i => n ≤ i ∨ (U i ∧ i < T)
def ConH (P : Program) (f : FuncId) (args : List AV) (σ : Hp) (n : Nat) (R : AEnd → Hp → Nat → Prop) : Prop :=
  goFn P f = true ∧ ∀ (N : Nat → Prop) (T : Nat) (U : Nat → Prop) (β : Nat → Option Nat) (w : World) (vs : Array Value), T ≤ n → Aw N (own β σ) w → HRel N β σ (Fn T U n) w → Cells (live N β σ) w β vs args →
    Calls P f vs w fun e w' => ∃ β' r σ' n', R r σ' n' ∧ n ≤ n' ∧ Leaves N β σ w e w' β' σ' (Fn T U n') r
def ConW (P : Program) (f : FuncId) (args : List AV) (pre : List (Nat × Ob)) (id : Nat) (r : AEnd) (wr : Wr) : Prop :=
  goFn P f = true ∧ ∀ (N : Nat → Prop) (β : Nat → Option Nat) (σ : Hp) (F : Nat → Prop) (w : World) (vs : Array Value), (∀ p ∈ pre, σ p.1 = some p.2) → (∀ j, id ≤ j → j < id + 16 → F j) → ∀ T, id + 16 ≤ T → (∀ j, T ≤ j → F j) →
    Aw N (own β σ) w → HRel N β σ F w → Cells (live N β σ) w β vs args →
    Calls P f vs w fun e w' => ∃ β' T', T ≤ T' ∧ Leaves N β σ w e w' β' (applyW σ wr) (fun j => F j ∧ ¬ (id ≤ j ∧ j < id + 16) ∧ (j < T ∨ T' ≤ j)) r
theorem run_callFunc {P : Program} {f : FuncId} (h : goFn P f = true) (args : Array Value) (w : World) : (callFunc f args).run P w = .ok (.enter f args) w := by
  unfold goFn at h
  cases hf : P.funcs[f]? with
  | none => simp [hf] at h
  | some fn =>
    simp only [hf, Bool.and_eq_true, bne_iff_ne, ne_eq] at h
    obtain ⟨h1, h2⟩ := h
    have h3 : ¬ fn.body = none := by intro hb; rw [hb] at h1; cases h1
    simp [callFunc, hf, h2, h3]
def scal : AV → Bool
  | .sc _ => true
  | .s _ => true
  | .tp l => l.all fun | .sc _ => true | .s _ => true | _ => false
  | .ag l => l.all fun | .sc _ => true | .s _ => true | _ => false
  | _ => false
theorem scal_rel {M M' : Nat → Prop} {w w' : World} {β β' : Nat → Option Nat} {v : Value} {x : AV} (h : Rel M w β v x) (hs : scal x = true) : Rel M' w' β' v x := by
  have one : ∀ {u : Value} {z : AV}, Rel M w β u z → (match z with | .sc _ => true | .s _ => true | _ => false) = true → Rel M' w' β' u z := by
    intro u z hr hz
    cases z <;> simp only [Bool.false_eq_true] at hz
    · cases hr; exact .sc _
    · cases hr; exact .s _ _ (by assumption) (by assumption)
  cases h <;> simp only [scal, Bool.false_eq_true] at hs
  · exact .sc _
  · exact .s _ _ (by assumption) (by assumption)
  · rename_i vs l hn h
    exact .ag vs l hn (fun i u z hu hz => one (h i u z hu hz) (List.all_eq_true.1 hs z (List.mem_of_getElem? hz)))
  · rename_i vs l hn h
    exact .tp vs l hn (fun i u z hu hz => one (h i u z hu hz) (List.all_eq_true.1 hs z (List.mem_of_getElem? hz)))

abbrev Kn := Regs → Hp → Nat → Prop
def bindP (o : Option AV) (K : AV → Prop) : Prop := match o with
  | some v => K v
  | none => False
def bindH (o : Option (AV × Wr)) (K : AV → Wr → Prop) : Prop := match o with
  | some (v, wr) => K v wr
  | none => False
def bindS (o : Option (AV × Wr)) (σ : Hp) (n : Nat) (K : AV → Hp → Nat → Prop) : Prop := bindH o (fun v wr => K v (applyW σ wr) (n + 16))
def onEnd (r : AEnd) (K : AV → Prop) (Kp : Value → Prop) : Prop := match r with
  | .ret v => K v
  | .pan x => Kp x
def bnd (σ : Hp) : AV → Prop
  | .s l => l.length ≤ 9223372036854775807
  | .tr rows => rows.length ≤ 4611686018427387904
  | .ow i _ _ _ => ∀ b, σ i = some (.c b) → b.rows.length ≤ 4611686018427387904
  | _ => True
def callC (P : Program) (f : AV) (args : List AV) (σ : Hp) (K : AEnd → Wr → List Nat → Prop) : Prop := match f with
  | .fn g caps => ∃ cs I r, brwL σ 6 (args ++ caps) = some (cs, I) ∧ Con P g cs r ∧ K r (match r with | .ret v => if scal v = true then [] else frz σ I | .pan _ => []) I
  | _ => False
def callW (P : Program) (f : AV) (args : List AV) (σ : Hp) (id : Nat) (K : AEnd → Wr → List Nat → Prop) : Prop := match f with
  | .fn g caps => ∃ pre r wr, (∀ p ∈ pre, σ p.1 = some p.2) ∧ ConW P g (args ++ caps) pre id r wr ∧ K r wr (pre.map (·.1))
  | _ => False
def YCon (P : Program) (y : Nat) (args : List AV) (σ : Hp) (n : Nat) (R : AEnd → Hp → Nat → Prop) : Prop :=
  ∀ (N : Nat → Prop) (T : Nat) (U : Nat → Prop) (β : Nat → Option Nat) (w : World) (vs : Array Value) (l : Nat), T ≤ n → Aw N (own β σ) w → HRel N β σ (Fn T U n) w → β y = some l → Cells (live N β σ) w β vs args →
    YieldAt Fence.wide 0 P l vs w fun e w' => ∃ β' r σ' n', R r σ' n' ∧ n ≤ n' ∧ Leaves N β σ w e w' β' σ' (Fn T U n') r
def callY (P : Program) (f : AV) (args : List AV) (σ : Hp) (n : Nat) (K : AEnd → Hp → Nat → Prop) : Prop := match f with
  | .yl y => ∃ R, YCon P y args σ n R ∧ ∀ r σ' n', R r σ' n' → n ≤ n' → K r σ' n'
  | _ => False
def callH (P : Program) (f : AV) (args : List AV) (σ : Hp) (n : Nat) (K : AEnd → Hp → Nat → Prop) : Prop := match f with
  | .fn g caps => ∃ R, ConH P g (args ++ caps) σ n R ∧ ∀ r σ' n', R r σ' n' → n ≤ n' → K r σ' n'
  | _ => False
inductive CALL (P : Program) (f : AV) (args : List AV) (σ : Hp) (n : Nat) (K : AEnd → Hp → Nat → Prop) : Prop
  | c (h : callC P f args σ (fun r wr _ => K r (applyW σ wr) n))
  | w (h : callW P f args σ n (fun r wr _ => ∀ n', n + 16 ≤ n' → K r (applyW σ wr) n'))
  | h (h : callH P f args σ n K)
  | y (h : callY P f args σ n K)
def PAN (x : AV) (K : Value → Prop) : Prop := match x with
  | .sc (.iface t v) => K (.iface t v)
  | _ => False
def step (P : Program) (op : SOp) (fr : Regs) (σ : Hp) (n : Nat) (Kp : Value → Kn) (K : AV → Hp → Nat → Prop) : Prop :=
  match op with
  | .call f args => CALL P (f.get fr) (args.map (Opd.get fr)) σ n (fun r σ' n' => onEnd r (fun v => K v σ' n') (fun x => Kp x fr σ' n'))
  | .pan x => PAN (x.get fr) (fun v => Kp v fr σ n)
  | .len s x => bindP (aLen s (x.get fr)) (fun v => bnd σ (x.get fr) → K v σ n)
  | op => if quiet op = true then bindP (semR σ (Opd.get fr) op) (fun v => K v σ n) else bindS (semH σ n (Opd.get fr) op) σ n K
def guardP' (g : AV) (want : Bool) (o : Option AV) (K : AV → Prop) : Prop := match g with
  | .sc (.bool b) => ∃ v, (b = want → o = some v) ∧ K (cond (b == want) v (.tp []))
  | .tp [] => K (.tp [])
  | _ => False
structure guardP (g : AV) (want : Bool) (o : Option AV) (K : AV → Prop) : Prop where
  h : guardP' g want o K
def guardK' (g : AV) (want : Bool) (e : (AV → Hp → Nat → Prop) → Prop) (σ : Hp) (n : Nat) (K : AV → Hp → Nat → Prop) : Prop := match g with
  | .sc (.bool b) => if b = want then e K else K (.tp []) σ n
  | .tp [] => K (.tp []) σ n
  | _ => False
structure guardK (g : AV) (want : Bool) (e : (AV → Hp → Nat → Prop) → Prop) (σ : Hp) (n : Nat) (K : AV → Hp → Nat → Prop) : Prop where
  h : guardK' g want e σ n K
def sops (P : Program) (K : Kn) (Kp : Value → Kn) : List SOper → Kn
  | [], fr, σ, n => K fr σ n
  | o :: rest, fr, σ, n => match o.guard with
    | none => step P o.op fr σ n Kp (fun v σ n => sops P K Kp rest (put fr o.dst v) σ n)
    | some (d, want) => if quiet o.op = true then guardP (fr d) want (semR σ (Opd.get fr) o.op) (fun v => sops P K Kp rest (put fr o.dst v) σ n)
      else guardK (fr d) want (step P o.op fr σ n Kp) σ n (fun v σ n => sops P K Kp rest (put fr o.dst v) σ n)
def dstOk (S : Nat) : Option Nat → Bool
  | some d => decide (d < S)
  | none => true
def okTag : Op → SOp → Bool
  | .call c, .call _ _ => (match c.callee with | .value _ => true | _ => false)
  | _, .call _ _ => false
  | .panic _, .pan _ => true
  | _, .pan _ => false
  | _, _ => true
def cmpL (P : Program) (S : Nat) (ops : Array Oper) : List Oper → Option (List SOper)
  | [] => some []
  | o :: l => match cmpO P ops o, cmpL P S ops l with
    | some so, some sl => if dstOk S o.dst = true ∧ okTag o.op so.op = true then some (so :: sl) else none
    | _, _ => none
section
variable {P : Program} {N : Nat → Prop} {w0 : World} {M0 : Nat → Prop} {β0 : Nat → Option Nat} {ds : List Deferred} {β : Nat → Option Nat} {fr : Regs} {σ : Hp} {F : Nat → Prop} {a : Act} {w : World}

theorem yielded_at {ops : Array Oper} {j d : Nat} (hd : (ops[j]?).bind (·.dst) = some d) (tmps : Array Value) : yielded ops tmps j = match tmps[d]? with
    | some (.bool b) => some b
    | _ => none := by unfold yielded; rw [hd]; rfl
theorem wanted_of (R : SRel N w0 M0 β0 ds β fr σ F a w) {ops : Array Oper} {o : Oper} {so : SOper} {d : Nat} {want : Bool} (hc : cmpO P ops o = some so) (hg : so.guard = some (d, want)) :
    (∀ b, fr d = .sc (.bool b) → Region.wanted o (yielded ops a.tmps) = (b == want)) ∧ (fr d = .tp [] → Region.wanted o (yielded ops a.tmps) = false) := by
  unfold cmpO at hc
  unfold Region.wanted
  cases hgo : o.guard with
  | none =>
    simp only [hgo] at hc
    obtain ⟨s, _, rfl⟩ := Option.map_eq_some_iff.1 hc
    cases hg
  | some g =>
    obtain ⟨j, want'⟩ := g
    simp only [hgo] at hc
    split at hc
    · rename_i d' s hd hs
      cases hc
      cases hg
      have hr := R.regs d
      have key := yielded_at hd a.tmps
      simp only [key]
      constructor
      · intro b hb
        rw [hb] at hr
        have := rel_sc hr
        rw [Array.getD_eq_getD_getElem?] at this
        cases hx : a.tmps[d]? with
        | none => rw [hx] at this; cases this
        | some v =>
          rw [hx] at this
          simp only [Option.getD_some] at this
          subst this
          simp
      · intro hb
        rw [hb] at hr
        generalize hx : a.tmps.getD d undef = v at hr
        cases hr with
        | tp vs _ hn _ =>
          rw [Array.getD_eq_getD_getElem?] at hx
          cases hx' : a.tmps[d]? with
          | none => rfl
          | some v =>
            rw [hx'] at hx
            simp only [Option.getD_some] at hx
            subst hx
            rfl
    · cases hc
theorem wanted_none {ops : Array Oper} {o : Oper} {so : SOper} (hc : cmpO P ops o = some so) (hg : so.guard = none) (y : Nat → Option Bool) : Region.wanted o y = true := by
  unfold cmpO at hc
  unfold Region.wanted
  cases hgo : o.guard with
  | none => rfl
  | some g =>
    obtain ⟨j, want'⟩ := g
    simp only [hgo] at hc
    split at hc
    · cases hc; cases hg
    · cases hc
theorem cmpO_op {ops : Array Oper} {o : Oper} {so : SOper} (hc : cmpO P ops o = some so) : cmp P o.op = some so.op ∧ so.dst = o.dst := by
  unfold cmpO at hc
  split at hc
  · obtain ⟨s, h, rfl⟩ := Option.map_eq_some_iff.1 hc; exact ⟨h, rfl⟩
  · split at hc
    · rename_i h; cases hc; exact ⟨h, rfl⟩
    · cases hc
theorem cmp_call {op : Op} {f : Opd} {args : List Opd} (h : cmp P op = some (.call f args)) (ht : okTag op (.call f args) = true) : ∃ c f', op = .call c ∧ c.callee = .value f' ∧ f = cOpd f' ∧ args = c.args.toList.map cOpd := by
  cases op <;> simp only [okTag, Bool.false_eq_true] at ht
  case call c =>
    cases hcal : c.callee <;> simp only [hcal, Bool.false_eq_true] at ht
    simp only [cmp, cmpCall, hcal, Option.some.injEq, SOp.call.injEq] at h
    exact ⟨c, _, rfl, hcal, h.1.symm, h.2.symm⟩
theorem cmp_pan {op : Op} {x : Opd} (h : cmp P op = some (.pan x)) (ht : okTag op (.pan x) = true) : ∃ x', op = .panic x' ∧ x = cOpd x' := by
  cases op <;> simp only [okTag, Bool.false_eq_true] at ht
  case panic y =>
    simp only [cmp, Option.some.injEq, SOp.pan.injEq] at h
    exact ⟨y, rfl, h.symm⟩
theorem put_size (a : Act) (d : Option Nat) (v : Value) : (a.put d v).tmps.size = a.tmps.size := by cases d <;> simp [Act.put]
theorem put_undef (R : SRel N w0 M0 β0 ds β fr σ F a w) (d : Option Nat) (hd : ∀ t, d = some t → t < a.tmps.size) : SRel N w0 M0 β0 ds β (Am.put fr d (.tp [])) σ F (a.put d undef) w :=
  R.put d hd (.tp #[] [] rfl (fun i u z h _ => by simp at h))
theorem bnd_of (R : SRel N w0 M0 β0 ds β fr σ F a w) (x : Operand) : bnd σ ((cOpd x).get fr) := by
  have h := rel_get R x
  generalize (cOpd x).get fr = X at h
  generalize a.eval x = u at h
  cases h <;> simp only [bnd] <;> try exact trivial
  · assumption
  · assumption
  all_goals
    intro b hb
    rcases R.heap.blk _ _ hb with ⟨_, h0⟩ | ⟨b', cells, e, h1, h2⟩
    · rw [h0]; simp
    · exact h2.2.2.2.1
theorem SRel.after (R : SRel N w0 M0 β0 ds β fr σ F a w) {e : Ending} {w' : World} {β' : Nat → Option Nat} {σ' : Hp} {F' : Nat → Prop} {r : AEnd} (h : Leaves N β σ w e w' β' σ' F' r) : SRel N w0 M0 β0 ds β' fr σ' F' a w' := by
  obtain ⟨h1, h2, h3, h4, h5⟩ := h
  have hM : ∀ b, b < w.heap.size → live N β' σ' b → live N β σ b := fun b hb h => h.imp (fun h => h) (fun h => h5 b h hb)
  have hb : ∀ b, b < w.heap.size → ¬ live N β σ b → w'.heap[b]? = w.heap[b]? := fun b hb hl => h4.block b hb (fun h => hl (.inr h))
  have hcell : ∀ ad u, w.cell? ad = some u → ¬ live N β σ ad.block → w'.cell? ad = some u := fun ad u hc hl => by
    have := World.block_lt_of_cell? w _ hc
    simpa only [World.cell?, hb _ this hl] using hc
  refine ⟨h2, fun t => Rel.step h1 hM hcell h4.shape (R.regs t), ?_, ?_, R.away, R.defers, fun i b hb => h1 i b (R.ext i b hb)⟩
  · exact ⟨h4.os.trans R.frame.os, h4.tape.trans R.frame.tape, h4.output.trans R.frame.output, Nat.le_trans R.frame.size h4.size, fun b hb hm => (h4.block b (Nat.lt_of_lt_of_le hb R.frame.size) (fun h => hm (R.old b h hb))).trans (R.frame.block b hb hm), fun b s hs => h4.shape b s (R.frame.shape b s hs)⟩
  · intro b hb hlt
    exact R.old b (h5 b hb (Nat.lt_of_lt_of_le hlt R.frame.size)) hlt
end
end Go.Proofs.YtodoejfkjimeaaaGreatDoor.Am

set_option linter.unusedSimpArgs false
set_option linter.unusedVariables false
namespace Go.Proofs.YtodoejfkjimeaaaGreatDoor.Am
open Go Go.RowKit

abbrev FW (r : Option Nat) : Fence := { fn := fun _ => True, depth := none, alive := Fence.wide.alive, round := r }
theorem calls_FW {P : Program} {f : FuncId} {vs : Array Value} {w : World} {R : Ending → World → Prop} (rr : Option Nat) (h : Calls P f vs w R) : CallsIn (FW rr) 0 P f vs w R := callsIn_wide.2 h
theorem opIn {P : Program} {rr : Option Nat} {o : Oper} {a : Act} {w : World} {next : Act → World → Prop} {Q : Exit → Act → World → Prop} (hs : ∀ c, o.op ≠ .defer c) (h : o.uponIn (FW rr) 0 P a next Q ((execOp a.eval o).run P w)) : o.wpIn (FW rr) 0 P a w next Q :=
  ⟨fun _ _ => trivial, by rw [Oper.semAt_eq _ _ _ hs]; exact h⟩
theorem cmp_nodefer {P : Program} {op : Op} {s : SOp} (h : cmp P op = some s) : ∀ c, op ≠ .defer c := by
  rintro c rfl
  simp [cmp] at h
section
variable {rr : Option Nat} {P : Program} {T : Nat} {U : Nat → Prop} {N : Nat → Prop} {w0 : World} {M0 : Nat → Prop} {β0 : Nat → Option Nat} {ds : List Deferred} {β : Nat → Option Nat} {fr : Regs} {σ : Hp} {F : Nat → Prop} {a : Act} {w : World}

theorem call_run (R : SRel N w0 M0 β0 ds β fr σ F a w) {o : Oper} {c : Call} {f : Operand} {g : FuncId} {caps : List AV} (ho : o.op = .call c) (hc : c.callee = .value f) (hf : (cOpd f).get fr = .fn g caps) (hgo : goFn P g = true) :
    ∃ vs : Array Value, (execOp a.eval o).run P w = .ok (.enter g vs) w ∧ Cells (live N β σ) w β vs ((c.args.toList.map cOpd).map (Opd.get fr) ++ caps) := by
  have hfr := rel_get R f
  rw [hf] at hfr
  generalize hfv : a.eval f = fv at hfr
  cases hfr with
  | fn _ vs _ hn hr =>
    refine ⟨c.args.map a.eval ++ vs, by simp [execOp, ho, resolve, hc, hfv, Deferred.ofValue, invoke, run_callFunc hgo], by simp [hn], fun i u z hu hz => ?_⟩
    rw [List.getElem?_append] at hz
    rw [Array.getElem?_append] at hu
    simp only [List.length_map, Array.length_toList, Array.size_map] at hz hu
    split at hz
    · rename_i hi
      rw [if_pos hi] at hu
      rw [Array.getElem?_map] at hu
      rw [List.map_map, List.getElem?_map, Array.getElem?_toList] at hz
      cases hc' : c.args[i]? with
      | none => simp [hc'] at hu
      | some y =>
        rw [hc', Option.map_some] at hu hz
        cases hu; cases hz
        exact rel_get R y
    · rename_i hi
      rw [if_neg hi] at hu
      exact hr _ _ _ hu hz
theorem live_lt (R : SRel N w0 M0 β0 ds β fr σ F a w) : ∀ b, live N β σ b → b < w.heap.size := by
  rintro b (h | ⟨i, x, h1, _, h3⟩)
  · exact Nat.lt_of_lt_of_le (R.away.1 b h) R.frame.size
  · exact R.heap.lt h3 (by simp [h1])
theorem aw_now (R : SRel N w0 M0 β0 ds β fr σ F a w) : Aw N (own β σ) w := by
  obtain ⟨h1, h2, h3, m, h4⟩ := R.away
  have hlt : GB < w0.heap.size := World.block_lt_of_cell? w0 _ h4
  exact ⟨fun b hb => Nat.lt_of_lt_of_le (h1 b hb) R.frame.size, h2, fun h => h3 (R.old _ h hlt), m, by simpa only [World.cell?, R.frame.block GB hlt h3] using h4⟩
theorem aw_live (R : SRel N w0 M0 β0 ds β fr σ F a w) : Aw (live N β σ) (live N β σ) w := by
  obtain ⟨_, h2, h3, h4⟩ := aw_now R
  have h : ¬ live N β σ GB := fun h => h.elim h2 h3
  exact ⟨live_lt R, h, h, h4⟩
theorem wp_call {o : Oper} {g : FuncId} {vs : Array Value} (hdf : ∀ c, o.op ≠ .defer c) (hrun : (execOp a.eval o).run P w = .ok (.enter g vs) w) {Post : Ending → World → Prop} (hcalls : Calls P g vs w Post) {next : Act → World → Prop} {Q : Exit → Act → World → Prop}
    (hret : ∀ u w', Post (.returned u) w' → next (a.put o.dst u) w') (hpan : ∀ ch w', Post (.panicked ch) w' → Q (.panic ch) a w') (hout : ∀ w', ¬ Post .outgrown w') : o.wpIn (FW rr) 0 P a w next Q := by
  refine opIn hdf ?_
  rw [hrun, Oper.uponIn_enter]
  refine ⟨fun h => (by cases h), (calls_FW rr hcalls).mono ?_⟩
  intro e w' he
  cases e with
  | returned u => exact hret u w' he
  | panicked ch => exact hpan ch w' he
  | outgrown => exact absurd he (hout w')
structure Onward (P : Program) (o : Oper) (N : Nat → Prop) (w0 : World) (M0 : Nat → Prop) (β0 : Nat → Option Nat) (ds : List Deferred) (fr : Regs) (a : Act) (next : Act → World → Prop) (Q : Exit → Act → World → Prop) (σ' : Hp) (F' : Nat → Prop) (r : AEnd) : Prop where
  ret : ∀ v, r = .ret v → ∀ u w' β', SRel N w0 M0 β0 ds β' fr σ' F' a w' → Rel (live N β' σ') w' β' u v → next (a.put o.dst u) w'
  pan : ∀ x, r = .pan x → ∀ w' β', SRel N w0 M0 β0 ds β' fr σ' F' a w' → Q (.panic [{ v := x, recovered := false }]) a w'
theorem callC_sound (R : SRel N w0 M0 β0 ds β fr σ F a w) {o : Oper} {c : Call} {f : Operand} (ho : o.op = .call c) (hc : c.callee = .value f) {K : AEnd → Wr → List Nat → Prop} {next : Act → World → Prop} {Q : Exit → Act → World → Prop}
    (h : callC P ((cOpd f).get fr) ((c.args.toList.map cOpd).map (Opd.get fr)) σ K) (hK : ∀ r wr I, K r wr I → (∀ p ∈ wr, p.1 ∈ I ∧ (σ p.1).isSome) → Onward P o N w0 M0 β0 ds fr a next Q (applyW σ wr) F r) : o.wpIn (FW rr) 0 P a w next Q := by
  unfold callC at h
  split at h
  · rename_i g caps hf
    obtain ⟨cs, I, r, hb, hcon, hk⟩ := h
    obtain ⟨vs, hrun, hcells⟩ := call_run R ho hc hf hcon.1
    obtain ⟨g1, g2⟩ := brwL_get σ 6 _ cs I hb
    have hIs := brwL_some hb
    obtain ⟨l1, l2⟩ := frz_off R.heap hIs
    have R1 := (R.less (frz_less σ I)).1
    have hargs : Cells (live N β (applyW σ (frz σ I))) w nob vs cs := by
      refine ⟨by rw [g1]; exact hcells.1, fun i u z hu hz => ?_⟩
      have hlt := (List.getElem?_eq_some_iff.1 hz).1
      have hx : ((c.args.toList.map cOpd).map (Opd.get fr) ++ caps)[i]? = some (((c.args.toList.map cOpd).map (Opd.get fr) ++ caps)[i]'(by omega)) := List.getElem?_eq_getElem (by omega)
      generalize ((c.args.toList.map cOpd).map (Opd.get fr) ++ caps)[i]'(by omega) = x at hx
      obtain ⟨c', J, a1, a2, a3⟩ := g2 i x hx
      rw [hz] at a1; cases a1
      exact brw_rel R.heap l1 6 x z J u a2 (hcells.2 i u x hu hx) (fun j hj => l2 j (a3 j hj))
    have hMlt : Aw (live N β (applyW σ (frz σ I))) (live N β (applyW σ (frz σ I))) w := ⟨fun b hb => live_lt R b (l1 b hb), fun hb => (aw_live R).2.1 (l1 _ hb), fun hb => (aw_live R).2.1 (l1 _ hb), (aw_live R).2.2.2⟩
    have hids : ∀ p ∈ frz σ I, p.1 ∈ I ∧ (σ p.1).isSome := by
      intro p hp
      have : p.1 ∈ I := by
        clear hcells hargs hk g1 g2 hIs l1 l2 R1 hb hMlt
        induction I with
        | nil => cases hp
        | cons i I ih =>
          simp only [frz, List.mem_cons] at hp
          rcases hp with rfl | hp
          · exact List.mem_cons_self
          · exact List.mem_cons_of_mem _ (ih hp)
      exact ⟨this, hIs _ this⟩
    have hon := hK _ _ _ hk (fun p hp => by
      cases r with
      | pan x => cases hp
      | ret v =>
        simp only at hp
        split at hp
        · cases hp
        · exact hids p hp)
    refine wp_call (fun c' => by rw [ho]; exact fun h => by cases h) hrun (hcon.2 _ w _ hMlt hargs) ?_ ?_ (fun w' he => by cases r <;> exact he.1.elim)
    · rintro u w' ⟨he, hfrm⟩
      cases r with
      | pan x => exact he.elim
      | ret v =>
        simp only at hon
        have Rw : ∀ {σ1}, SRel N w0 M0 β0 ds β fr σ1 F a w → SRel N w0 M0 β0 ds β fr σ1 F a w' := fun R => R.world hfrm.os hfrm.tape hfrm.output hfrm.size (fun b hb => hfrm.block b hb (fun h => h))
        by_cases hs : scal v = true
        · simp only [hs, if_true, applyW] at hon
          exact hon.ret v rfl u w' β (Rw R) (scal_rel he hs)
        · simp only [hs] at hon
          exact hon.ret v rfl u w' β (Rw R1) (Rel.lift he)
    · rintro ch w' ⟨he, hfrm⟩
      cases r with
      | ret v => exact he.elim
      | pan x =>
        have : ch = [{ v := x, recovered := false }] := he
        subst this
        exact hon.pan x rfl w' β (R.world hfrm.os hfrm.tape hfrm.output hfrm.size (fun b hb => hfrm.block b hb (fun h => h)))
  · exact h.elim
theorem callW_sound (R : SRel N w0 M0 β0 ds β fr σ F a w) {o : Oper} {c : Call} {f : Operand} {id : Nat} {tl : Nat} (hid : ∀ j, id ≤ j → j < id + 16 → F j) (htl : id + 16 ≤ tl) (hB : ∀ j, tl ≤ j → F j) (ho : o.op = .call c) (hc : c.callee = .value f) {K : AEnd → Wr → List Nat → Prop} {next : Act → World → Prop} {Q : Exit → Act → World → Prop}
    (h : callW P ((cOpd f).get fr) ((c.args.toList.map cOpd).map (Opd.get fr)) σ id K) (hK : ∀ r wr I, K r wr I → ∀ tl', tl ≤ tl' → Onward P o N w0 M0 β0 ds fr a next Q (applyW σ wr) (fun j => F j ∧ ¬ (id ≤ j ∧ j < id + 16) ∧ (j < tl ∨ tl' ≤ j)) r) : o.wpIn (FW rr) 0 P a w next Q := by
  unfold callW at h
  split at h
  · rename_i g caps hf
    obtain ⟨pre, r, wr, hpre, hcon, hk⟩ := h
    obtain ⟨vs, hrun, hcells⟩ := call_run R ho hc hf hcon.1
    have hon := hK _ _ _ hk
    refine wp_call (fun c' => by rw [ho]; exact fun h => by cases h) hrun (hcon.2 N β σ F w vs hpre hid tl htl hB (aw_now R) R.heap hcells) ?_ ?_ ?_
    · rintro u w' ⟨β', tl', htl', hl⟩
      have hon := hon tl' htl'
      have R' := R.after hl
      obtain ⟨_, _, he, _, _⟩ := hl
      cases r with
      | pan x => exact he.elim
      | ret v => exact hon.ret v rfl u w' β' R' he
    · rintro ch w' ⟨β', tl', htl', hl⟩
      have hon := hon tl' htl'
      have R' := R.after hl
      obtain ⟨_, _, he, _, _⟩ := hl
      cases r with
      | ret v => exact he.elim
      | pan x =>
        have : ch = [{ v := x, recovered := false }] := he
        subst this
        exact hon.pan x rfl w' β' R'
    · rintro w' ⟨β', _, _, _, _, he, _⟩
      cases r <;> exact he.elim
  · exact h.elim
theorem callH_sound {n : Nat} (R : SRel N w0 M0 β0 ds β fr σ (Fn T U n) a w) (hT : T ≤ n) {o : Oper} {c : Call} {f : Operand} (ho : o.op = .call c) (hc : c.callee = .value f) {K : AEnd → Hp → Nat → Prop} {next : Act → World → Prop} {Q : Exit → Act → World → Prop}
    (h : callH P ((cOpd f).get fr) ((c.args.toList.map cOpd).map (Opd.get fr)) σ n K) (hK : ∀ r σ' n', K r σ' n' → n ≤ n' → Onward P o N w0 M0 β0 ds fr a next Q σ' (Fn T U n') r) : o.wpIn (FW rr) 0 P a w next Q := by
  unfold callH at h
  split at h
  · rename_i g caps hf
    obtain ⟨RR, hcon, hk⟩ := h
    obtain ⟨vs, hrun, hcells⟩ := call_run R ho hc hf hcon.1
    refine wp_call (fun c' => by rw [ho]; exact fun h => by cases h) hrun (hcon.2 N T U β w vs hT (aw_now R) R.heap hcells) ?_ ?_ ?_
    · rintro u w' ⟨β', r, σ', n', hr, hn, hl⟩
      have R' := R.after hl
      have hon := hK _ _ _ (hk r σ' n' hr hn) hn
      obtain ⟨_, _, he, _, _⟩ := hl
      cases r with
      | pan x => exact he.elim
      | ret v => exact hon.ret v rfl u w' β' R' he
    · rintro ch w' ⟨β', r, σ', n', hr, hn, hl⟩
      have R' := R.after hl
      have hon := hK _ _ _ (hk r σ' n' hr hn) hn
      obtain ⟨_, _, he, _, _⟩ := hl
      cases r with
      | ret v => exact he.elim
      | pan x =>
        have : ch = [{ v := x, recovered := false }] := he
        subst this
        exact hon.pan x rfl w' β' R'
    · rintro w' ⟨β', r, σ', n', hr, _, _, _, he, _⟩
      cases r <;> exact he.elim
  · exact h.elim
theorem callY_sound {n : Nat} (R : SRel N w0 M0 β0 ds β fr σ (Fn T U n) a w) (hT : T ≤ n) {o : Oper} {c : Call} {f : Operand} (ho : o.op = .call c) (hc : c.callee = .value f) {K : AEnd → Hp → Nat → Prop} {next : Act → World → Prop} {Q : Exit → Act → World → Prop}
    (h : callY P ((cOpd f).get fr) ((c.args.toList.map cOpd).map (Opd.get fr)) σ n K) (hK : ∀ r σ' n', K r σ' n' → n ≤ n' → Onward P o N w0 M0 β0 ds fr a next Q σ' (Fn T U n') r) : o.wpIn (FW rr) 0 P a w next Q := by
  unfold callY at h
  split at h
  · rename_i y hf
    obtain ⟨RR, hcon, hk⟩ := h
    have hfr := rel_get R f
    rw [hf] at hfr
    generalize hfv : a.eval f = fv at hfr
    cases hfr with
    | yl _ l hl =>
      have hcells : Cells (live N β σ) w β (c.args.map a.eval) ((c.args.toList.map cOpd).map (Opd.get fr)) := by
        refine ⟨by simp, fun i u z hu hz => ?_⟩
        rw [Array.getElem?_map] at hu
        rw [List.map_map, List.getElem?_map, Array.getElem?_toList] at hz
        cases hc' : c.args[i]? with
        | none => simp [hc'] at hu
        | some x =>
          rw [hc', Option.map_some] at hu hz
          cases hu; cases hz
          exact rel_get R x
      obtain ⟨fn, tm, as, bo, hy, hround⟩ := hcon N T U β w _ l hT (aw_now R) R.heap hl hcells
      refine opIn (fun c' => by rw [ho]; exact fun h => by cases h) ?_
      have hrun : (execOp a.eval o).run P w = .ok (.round l fn tm as bo) w := by
        simp [execOp, ho, resolve, hc, hfv, Deferred.ofValue, invoke, hy]
      rw [hrun, Oper.uponIn_round]
      refine ⟨fun h => (by cases h), RoundIn.mono (F := FW rr) hround ?_⟩
      rintro e w' ⟨β', r, σ', n', hr, hn, hl⟩
      have R' := R.after hl
      have hon := hK _ _ _ (hk r σ' n' hr hn) hn
      obtain ⟨_, _, he, _, _⟩ := hl
      cases e with
      | returned u =>
        cases r with
        | pan x => exact he.elim
        | ret v => exact hon.ret v rfl u w' β' R' he
      | panicked ch =>
        cases r with
        | ret v => exact he.elim
        | pan x =>
          have : ch = [{ v := x, recovered := false }] := he
          subst this
          exact hon.pan x rfl w' β' R'
      | outgrown => cases r <;> exact he.elim
  · exact h.elim
theorem step_sound {S : Nat} {so : SOper} {o : Oper} {n : Nat} {K : AV → Hp → Nat → Prop} {Kp : Value → Kn} {next : Act → World → Prop} {Q : Exit → Act → World → Prop} (R : SRel N w0 M0 β0 ds β fr σ (Fn T U n) a w) (hT : T ≤ n) (hS : a.tmps.size = S) (hd : ∀ t, o.dst = some t → t < a.tmps.size)
    (hcop : cmp P o.op = some so.op) (htag : okTag o.op so.op = true)
    (hK : ∀ β' v σ' n' u w', n ≤ n' → SRel N w0 M0 β0 ds β' (put fr o.dst v) σ' (Fn T U n') (a.put o.dst u) w' → K v σ' n' → next (a.put o.dst u) w')
    (hKp : ∀ x β fr σ n a w, T ≤ n → a.tmps.size = S → SRel N w0 M0 β0 ds β fr σ (Fn T U n) a w → Kp x fr σ n → Q (.panic [{ v := x, recovered := false }]) a w)
    (h : step P so.op fr σ n Kp K) : o.wpIn (FW rr) 0 P a w next Q := by
  have hn1 : ∀ i, Fn T U (n + 16) i → Fn T U n i ∧ i ≠ n := fun i hi => by
    rcases hi with h | ⟨h1, h2⟩
    · exact ⟨.inl (by omega), by omega⟩
    · exact ⟨.inr ⟨h1, h2⟩, by omega⟩
  have onw : ∀ σ' F' n' r, n ≤ n' → onEnd r (fun v => K v σ' n') (fun x => Kp x fr σ' n') → (∀ i, Fn T U n' i → F' i) → Onward P o N w0 M0 β0 ds fr a next Q σ' F' r := by
    intro σ' F' n' r hnn hr hF
    constructor
    · rintro v rfl u w' β' R' hu
      exact hK β' v σ' n' u w' hnn ((R'.put o.dst hd hu).free hF) hr
    · rintro x rfl w' β' R'
      exact hKp x β' fr σ' n' a w' (by omega) hS (R'.free hF) hr
  have plain : (if quiet so.op = true then bindP (semR σ (Opd.get fr) so.op) (fun v => K v σ n) else bindS (semH σ n (Opd.get fr) so.op) σ n K) → o.wpIn (FW rr) 0 P a w next Q := by
    intro h
    split at h
    · rename_i hq
      cases hs : semR σ (Opd.get fr) so.op with
      | none => rw [hs] at h; exact h.elim
      | some v =>
        rw [hs] at h
        obtain ⟨u, hrun, hu⟩ := soundR R hcop hq hs
        refine opIn (cmp_nodefer hcop) ?_
        rw [hrun]
        exact hK β v σ n u w (Nat.le_refl _) (R.put o.dst hd hu) h
    · cases hs : semH σ n (Opd.get fr) so.op with
      | none => rw [hs] at h; exact h.elim
      | some vw =>
        obtain ⟨v, wr⟩ := vw
        rw [hs] at h
        obtain ⟨u, w', β', g1, g2, g3, g4⟩ := soundH R (.inl (Nat.le_refl n)) hcop hs
        have R' := (g3.put o.dst hd g4).free (F' := Fn T U (n + 16)) hn1
        have := hK β' v _ (n + 16) u w' (by omega) R' h
        refine opIn (cmp_nodefer hcop) ?_
        rcases g1 with g1 | ⟨g1, rfl⟩
        · rw [g1]; exact this
        · rw [g1]; exact this
  cases hop : so.op with
  | call f args =>
    rw [hop] at hcop htag h
    obtain ⟨c, f', hoc, hcal, rfl, rfl⟩ := cmp_call hcop htag
    simp only [step] at h
    rcases h with h | h | h | h
    · exact callC_sound R hoc hcal h (fun r wr I hk _ => onw _ _ n r (Nat.le_refl _) hk (fun i hi => hi))
    · exact callW_sound R (fun j h1 _ => .inl h1) (Nat.le_refl (n + 16)) (fun j hj => .inl (by omega)) hoc hcal h (fun r wr I hk tl' htl' => onw _ _ tl' r (by omega) (hk tl' htl') (fun i hi => by
        rcases hi with h | ⟨h1, h2⟩
        · exact ⟨.inl (by omega), by omega, .inr h⟩
        · exact ⟨.inr ⟨h1, h2⟩, by omega, .inl (by omega)⟩))
    · exact callH_sound R hT hoc hcal h (fun r σ' n' hk hn => onw _ _ n' r hn hk (fun i hi => hi))
    · exact callY_sound R hT hoc hcal h (fun r σ' n' hk hn => onw _ _ n' r hn hk (fun i hi => hi))
  | pan x =>
    rw [hop] at hcop htag h
    obtain ⟨x', hoc, rfl⟩ := cmp_pan hcop htag
    simp only [step, PAN] at h
    split at h
    · rename_i t v hx
      have hr := rel_get R x'
      rw [hx] at hr
      have hv := rel_sc hr
      refine opIn (fun c' => by rw [hoc]; exact fun h => by cases h) ?_
      have : (execOp a.eval o).run P w = .halt (.panic (.iface t v)) w := by simp [execOp, hoc, hv, Instr.panic, goPanic, Sem.run]
      rw [this, Oper.uponIn_panic]
      exact hKp _ β fr σ n a w hT hS R h
    · exact h.elim
  | len s x =>
    rw [hop] at h plain
    simp only [step] at h
    refine plain ?_
    simp only [quiet, if_true, semR]
    cases hs : aLen s (x.get fr) with
    | none => rw [hs] at h; exact h.elim
    | some v =>
      rw [hs] at h
      refine h ?_
      rw [hop] at hcop
      have : ∃ x', x = cOpd x' := by
        generalize o.op = op at hcop
        cases op <;> simp only [cmp, cmpBin, cmpCall, cmpEq, reduceCtorEq, Option.some.injEq] at hcop
        case call c =>
          (repeat' split at hcop) <;> first | (cases hcop; done) | (cases hcop; exact ⟨_, rfl⟩)
        case makeFunc fn first caps =>
          cases fn <;> simp only [reduceCtorEq] at hcop
          split at hcop <;> cases hcop
        case makeSlice t l c =>
          unfold cmpMks at hcop
          (repeat' split at hcop) <;> cases hcop
        case makeMap t n =>
          cases n <;> simp only [reduceCtorEq] at hcop
          (repeat' split at hcop) <;> cases hcop
        case typeAssert x0 xt t ok =>
          cases ok <;> simp only [reduceCtorEq] at hcop
          (repeat' split at hcop) <;> cases hcop
        all_goals first
          | (obtain ⟨_, _, hx⟩ := Option.map_eq_some_iff.1 hcop; cases hx; done)
          | (obtain ⟨_, _, hx⟩ := Option.map_eq_some_iff.1 hcop; split at hx <;> cases hx; done)
          | ((repeat' split at hcop) <;> first | (cases hcop; done) | (obtain ⟨_, _, hx⟩ := Option.map_eq_some_iff.1 hcop; cases hx; done))
      obtain ⟨x', rfl⟩ := this
      exact bnd_of R x'
  | _ => rw [hop] at h plain; simp only [step] at h; exact plain h
theorem sops_soundT {S : Nat} {ops : Array Oper} {K : Kn} {Kp : Value → Kn} {Q : Exit → Act → World → Prop} (tail : List Oper)
    (hK : ∀ β fr σ n a w, T ≤ n → a.tmps.size = S → SRel N w0 M0 β0 ds β fr σ (Fn T U n) a w → K fr σ n → wpListIn (FW rr) 0 P ops Q tail a w)
    (hKp : ∀ x β fr σ n a w, T ≤ n → a.tmps.size = S → SRel N w0 M0 β0 ds β fr σ (Fn T U n) a w → Kp x fr σ n → Q (.panic [{ v := x, recovered := false }]) a w) :
    ∀ (l : List Oper) (sl : List SOper) (β : Nat → Option Nat) (fr : Regs) (σ : Hp) (n : Nat) (a : Act) (w : World), cmpL P S ops l = some sl → T ≤ n → a.tmps.size = S → SRel N w0 M0 β0 ds β fr σ (Fn T U n) a w → sops P K Kp sl fr σ n → wpListIn (FW rr) 0 P ops Q (l ++ tail) a w
  | [], sl, β, fr, σ, n, a, w, hc, hT, hS, R, h => by
    simp only [cmpL, Option.some.injEq] at hc
    subst hc
    exact hK β fr σ n a w hT hS R h
  | o :: l, sl, β, fr, σ, n, a, w, hc, hT, hS, R, h => by
    unfold cmpL at hc
    split at hc
    · rename_i so sl' hso hsl
      split at hc
      · rename_i hdst0
        obtain ⟨hdst, htag⟩ := hdst0
        cases hc
        have hd : ∀ t, o.dst = some t → t < a.tmps.size := by
          intro t ht
          rw [ht] at hdst
          rw [hS]; simpa [dstOk] using hdst
        obtain ⟨hcop, hdeq⟩ := cmpO_op hso
        have hnext : ∀ β' v σ' n' u w', n ≤ n' → SRel N w0 M0 β0 ds β' (put fr o.dst v) σ' (Fn T U n') (a.put o.dst u) w' → sops P K Kp sl' (put fr so.dst v) σ' n' → wpListIn (FW rr) 0 P ops Q (l ++ tail) (a.put o.dst u) w' := by
          intro β' v σ' n' u w' hnn R' h'
          rw [hdeq] at h'
          exact sops_soundT tail hK hKp l sl' β' _ σ' n' _ w' hsl (by omega) (by rw [put_size, hS]) R' h'
        unfold sops at h
        rw [List.cons_append]
        unfold wpListIn
        split at h
        · rename_i hg
          rw [if_pos (wanted_none hso hg _)]
          exact (step_sound R hT hS hd hcop htag hnext hKp h)
        · rename_i d want hg
          obtain ⟨hw1, hw2⟩ := wanted_of (P := P) R hso hg
          have hskip : sops P K Kp sl' (put fr so.dst (.tp [])) σ n → (∀ f, o.about P w a.eval = some f → (FW rr).fn f) ∧ wpListIn (FW rr) 0 P ops Q (l ++ tail) (a.put o.dst undef) w := fun h => ⟨fun _ _ => trivial, hnext β (.tp []) σ n undef w (Nat.le_refl _) (put_undef R o.dst hd) h⟩
          split at h
          · rename_i hq
            replace h := h.h
            unfold guardP' at h
            split at h
            · rename_i b hb
              obtain ⟨v, hv, h⟩ := h
              rw [hw1 b hb]
              by_cases hbw : b = want
              · rw [if_pos (by simp [hbw])]
                have hs := hv hbw
                rw [show (b == want) = true by simp [hbw]] at h
                obtain ⟨u, hrun, hu⟩ := soundR R hcop hq hs
                refine opIn (cmp_nodefer hcop) ?_
                rw [hrun]
                exact hnext β v σ n u w (Nat.le_refl _) (R.put o.dst hd hu) h
              · rw [if_neg (by simp [hbw])]
                rw [show (b == want) = false by simp [hbw]] at h
                exact hskip h
            · rename_i hb
              rw [hw2 hb, if_neg (by simp)]
              exact hskip h
            · exact h.elim
          · replace h := h.h
            unfold guardK' at h
            split at h
            · rename_i b hb
              rw [hw1 b hb]
              split at h
              · rename_i hbw
                rw [if_pos (by simp [hbw])]
                exact (step_sound R hT hS hd hcop htag hnext hKp h)
              · rename_i hbw
                rw [if_neg (by simp [hbw])]
                exact hskip h
            · rename_i hb
              rw [hw2 hb, if_neg (by simp)]
              exact hskip h
            · exact h.elim
      · cases hc
    · cases hc
theorem sops_sound {S : Nat} {ops : Array Oper} {K : Kn} {Kp : Value → Kn} {Q : Exit → Act → World → Prop}
    (hK : ∀ β fr σ n a w, T ≤ n → a.tmps.size = S → SRel N w0 M0 β0 ds β fr σ (Fn T U n) a w → K fr σ n → Q .normal a w)
    (hKp : ∀ x β fr σ n a w, T ≤ n → a.tmps.size = S → SRel N w0 M0 β0 ds β fr σ (Fn T U n) a w → Kp x fr σ n → Q (.panic [{ v := x, recovered := false }]) a w)
    (l : List Oper) (sl : List SOper) (β : Nat → Option Nat) (fr : Regs) (σ : Hp) (n : Nat) (a : Act) (w : World) (hc : cmpL P S ops l = some sl) (hT : T ≤ n) (hS : a.tmps.size = S) (R : SRel N w0 M0 β0 ds β fr σ (Fn T U n) a w) (h : sops P K Kp sl fr σ n) : wpListIn (FW rr) 0 P ops Q l a w := by
  have := sops_soundT (rr := rr) (Q := Q) [] (fun β fr σ n a w h1 h2 h3 h4 => hK β fr σ n a w h1 h2 h3 h4) hKp l sl β fr σ n a w hc hT hS R h
  rwa [List.append_nil] at this
end
end Go.Proofs.YtodoejfkjimeaaaGreatDoor.Am

set_option linter.unusedSimpArgs false
set_option linter.unusedVariables false
namespace Go.Proofs.YtodoejfkjimeaaaGreatDoor.Am
open Go Go.RowKit

structure Eff where
  dst : Option Nat
  v : AV
  wr : Wr
  rd : List Nat
  dead : Bool
abbrev St := Regs × Hp
def effApp (e : Eff) (st : St) : St := (Am.put st.1 e.dst e.v, applyW st.2 e.wr)
def stL (L : Nat → Bool) : Nat → List Eff → St → St
  | _, [], st => st
  | i, e :: es, st => stL L (i + 1) es (bif L i then effApp e st else st)
def names (wr : Wr) : List Nat := wr.map (·.1)
def rdA : AV → List Nat
  | .rf i _ _ _ => [i]
  | .rt i _ _ => [i]
  | _ => []
def rdY : AV → List Nat
  | .ow i _ _ _ => [i]
  | .ob i _ => [i]
  | _ => []
def rdM : AV → List Nat
  | .mp i => [i]
  | _ => []
def rdR (g : Opd → AV) : SOp → List Nat
  | .ld _ x => rdA (g x)
  | .cvb x => rdY (g x)
  | .lkp _ _ x _ => rdM (g x)
  | _ => []
def once (pn : Option Value) (A : Prop) : Prop := match pn with
  | none => A
  | some _ => False
theorem once_iff {pn : Option Value} {A : Prop} : once pn A ↔ pn = none ∧ A := by cases pn <;> simp [once]
def rdH (g : Opd → AV) (op : SOp) (wr : Wr) : List Nat := match op with
  | .app _ _ x y => rdY (g x) ++ (rdY (g y) ++ names wr)
  | .aps _ x _ => rdY (g x) ++ names wr
  | _ => names wr
inductive callD (P : Program) (f : AV) (args : List AV) (σ : Hp) (id : Nat) (K : AEnd → Wr → List Nat → Prop) : Prop
  | c (h : callC P f args σ K)
  | w (h : callW P f args σ id K)
def dstep (P : Program) (op : SOp) (fr : Regs) (σ : Hp) (id : Nat) (Kp : Value → List Nat → Prop) (K : AV → Wr → List Nat → Prop) : Prop := match op with
  | .call f args => callD P (f.get fr) (args.map (Opd.get fr)) σ id (fun r wr rd => onEnd r (fun v => K v wr rd) (fun x => Kp x rd))
  | .pan x => PAN (x.get fr) (fun v => Kp v [])
  | op => if quiet op = true then bindP (semR σ (Opd.get fr) op) (fun v => K v [] (rdR (Opd.get fr) op)) else bindH (semH σ id (Opd.get fr) op) (fun v wr => K v wr (rdH (Opd.get fr) op wr))
def guardD' (g : AV) (want : Bool) (e : (AV → Wr → List Nat → Prop) → Prop) (K : AV → Wr → List Nat → Prop) : Prop := match g with
  | .sc (.bool b) => if b = want then e K else K (.tp []) [] []
  | .tp [] => K (.tp []) [] []
  | _ => False
structure guardD (g : AV) (want : Bool) (e : (AV → Wr → List Nat → Prop) → Prop) (K : AV → Wr → List Nat → Prop) : Prop where
  h : guardD' g want e K
def Apt (w r w' r' : List Nat) : Prop := (∀ x ∈ w, x ∉ r' ∧ x ∉ w') ∧ (∀ x ∈ w', x ∉ r)
def inert : SOp → Bool
  | .ld _ _ => false
  | .cvb _ => false
  | .lkp _ _ _ _ => false
  | op => quiet op
def side1 (anc : List Nat) (w r : List Nat) : Nat → List (SOper × List Nat) → List Eff → Prop → Prop
  | i, (o, _) :: l, e :: es, X => bif inert o.op || anc.contains i then side1 anc w r (i + 1) l es X else Apt (names e.wr) e.rd w r ∧ side1 anc w r (i + 1) l es X
  | _, _, _, X => X
def sideL (l0 : List (SOper × List Nat)) (effs : List Eff) : Nat → List (SOper × List Nat) → List Eff → Prop → Prop
  | j, (o, anc) :: l, e :: es, X => bif inert o.op then sideL l0 effs (j + 1) l es X else side1 anc (names e.wr) e.rd 0 (l0.take j) effs (sideL l0 effs (j + 1) l es X)
  | _, _, _, X => X
def dops (P : Program) (K : Kn) (Kp : Value → Kn) (l0 : List (SOper × List Nat)) (st0 : St) (n : Nat) : List (SOper × List Nat) → List Eff → Option Value → Prop
  | [], effs, none => sideL l0 effs 0 l0 effs (∀ n', n + 16 * l0.length ≤ n' → K (stL (fun _ => true) 0 effs st0).1 (stL (fun _ => true) 0 effs st0).2 n')
  | [], effs, some x => sideL l0 effs 0 l0 effs (∀ fr σ n, Kp x fr σ n)
  | (o, anc) :: rest, effs, pn =>
    bif anc.any (fun i => (effs[i]?).any (·.dead)) then dops P K Kp l0 st0 n rest (effs ++ [⟨o.dst, .tp [], [], [], true⟩]) pn else
    match o.guard with
    | none => dstep P o.op (stL (fun j => anc.contains j) 0 effs st0).1 (stL (fun j => anc.contains j) 0 effs st0).2 (n + 16 * effs.length)
        (fun x rd => once pn (dops P K Kp l0 st0 n rest (effs ++ [⟨o.dst, .tp [], [], rd, true⟩]) (some x)))
        (fun v wr rd => dops P K Kp l0 st0 n rest (effs ++ [⟨o.dst, v, wr, rd, false⟩]) pn)
    | some (d, want) => if quiet o.op = true then guardP ((stL (fun j => anc.contains j) 0 effs st0).1 d) want (semR (stL (fun j => anc.contains j) 0 effs st0).2 (Opd.get (stL (fun j => anc.contains j) 0 effs st0).1) o.op)
          (fun v => dops P K Kp l0 st0 n rest (effs ++ [⟨o.dst, v, [], rdR (Opd.get (stL (fun j => anc.contains j) 0 effs st0).1) o.op, false⟩]) pn)
      else guardD ((stL (fun j => anc.contains j) 0 effs st0).1 d) want (dstep P o.op (stL (fun j => anc.contains j) 0 effs st0).1 (stL (fun j => anc.contains j) 0 effs st0).2 (n + 16 * effs.length)
        (fun x rd => once pn (dops P K Kp l0 st0 n rest (effs ++ [⟨o.dst, .tp [], [], rd, true⟩]) (some x))))
        (fun v wr rd => dops P K Kp l0 st0 n rest (effs ++ [⟨o.dst, v, wr, rd, false⟩]) pn)

/-! what is asked of the operations' order, once and for all -/
def opds (op : SOp) : List Opd := match op with
  | .mv x => [x]
  | .pick c a b => [c, a, b]
  | .alloc _ => []
  | .allt _ _ => []
  | .box x => [x]
  | .build _ ps => ps.map (·.2.2)
  | .bsl _ _ _ ps => ps.map (·.2)
  | .ld _ x => [x]
  | .st _ x v => [x, v]
  | .fad _ x => [x]
  | .fld _ _ x => [x]
  | .iad _ x i => [x, i]
  | .idp _ _ x i => [x, i]
  | .istr x i => [x, i]
  | .iarr _ _ _ x i => [x, i]
  | .bin _ x y => [x, y]
  | .eqs _ _ x y => [x, y]
  | .eqb _ x y => [x, y]
  | .eqp _ x y => [x, y]
  | .mxn _ x y => [x, y]
  | .eqn _ x => [x]
  | .un _ x => [x]
  | .cvi _ x => [x]
  | .cvs x => [x]
  | .cvb x => [x]
  | .len _ x => [x]
  | .slc _ x lo hi mx => x :: (lo.toList ++ (hi.toList ++ mx.toList))
  | .sstr x lo hi => x :: (lo.toList ++ hi.toList)
  | .app _ _ x y => [x, y]
  | .aps _ x y => [x, y]
  | .ext x _ => [x]
  | .mkf _ caps => caps
  | .nck x => [x]
  | .mki _ x => [x]
  | .tas _ _ x => [x]
  | .mkm => []
  | .lkp _ _ x k => [x, k]
  | .mup x k v => [x, k, v]
  | .clm x => [x]
  | .call f args => f :: args
  | .pan x => [x]
def optmps (o : SOper) : List Nat := (opds o.op).filterMap (fun | Opd.t i => some i | Opd.c _ => none) ++ (o.guard.map (·.1)).toList
def direct (o : Oper) : List Nat := o.after.toList.filterMap fun e => if Region.binds .any e = true then some e.on else none
def ancOf (ops : List Oper) : List (List Nat) :=
  ops.foldl (fun acc o => acc ++ [(direct o).foldl (fun s d => (if s.contains d then s else s ++ [d]) ++ ((acc.getD d []).filter fun k => !(s.contains k || k == d))) []]) []
def ancOk (ops : List Oper) (ancs : List (List Nat)) : Bool :=
  decide (ancs.length = ops.length) && (List.range ops.length).all fun i => match ops[i]?, ancs[i]? with
    | some o, some anc => (anc.all fun j => decide (j < i) && ((ancs.getD j []).all fun k => anc.contains k) && ((direct o).contains j || (direct o).any fun d => (ancs.getD d []).contains j)) && ((direct o).all fun d => anc.contains d)
    | _, _ => false
def tmpOk (l : List (SOper × List Nat)) : Bool :=
  (List.range l.length).all fun i => (List.range l.length).all fun j => match l[i]?, l[j]? with
    | some (oi, ai), some (oj, aj) => i == j || (match oj.dst with
        | some d => oi.dst != some d && (!(optmps oi).contains d || ai.contains j || aj.contains i)
        | none => true)
    | _, _ => false
def cmpD (P : Program) (S : Nat) (ops : Array Oper) : Option (List (SOper × List Nat)) := match cmpL P S ops ops.toList with
  | some sl => if ancOk ops.toList (ancOf ops.toList) = true ∧ tmpOk (sl.zip (ancOf ops.toList)) = true ∧ P.follows .mixedOrders = true then some (sl.zip (ancOf ops.toList)) else none
  | none => none

section
variable {P : Program} {K : Kn} {Kp : Value → Kn} {l0 : List (SOper × List Nat)} {st0 : St} {n : Nat}

def Runs (P : Program) (op : SOp) (st : St) (id : Nat) (v : AV) (wr : Wr) (rd : List Nat) : Prop :=
  (quiet op = true ∧ semR st.2 (Opd.get st.1) op = some v ∧ wr = [] ∧ rd = rdR (Opd.get st.1) op) ∨ (semH st.2 id (Opd.get st.1) op = some (v, wr) ∧ rd = rdH (Opd.get st.1) op wr) ∨
  (∃ f args, op = .call f args ∧ callD P (f.get st.1) (args.map (Opd.get st.1)) st.2 id (fun r w d => r = .ret v ∧ w = wr ∧ d = rd))
def Pans (P : Program) (op : SOp) (st : St) (id : Nat) (x : Value) (rd : List Nat) : Prop :=
  (∃ f args, op = .call f args ∧ callD P (f.get st.1) (args.map (Opd.get st.1)) st.2 id (fun r _ d => r = .pan x ∧ d = rd)) ∨ (∃ y, op = .pan y ∧ PAN (y.get st.1) (fun z => z = x))
def Asked (st : St) (o : SOper) : Prop := o.guard = none ∨ ∃ d want, o.guard = some (d, want) ∧ st.1 d = .sc (.bool want)
def Skipped (st : St) (o : SOper) : Prop := ∃ d want, o.guard = some (d, want) ∧ ((∃ b, st.1 d = .sc (.bool b) ∧ b ≠ want) ∨ st.1 d = .tp [])
def OpOk (P : Program) (Kp : Value → Kn) (st : St) (id : Nat) (o : SOper) (e : Eff) : Prop :=
  (e.dead = false ∧ ((Skipped st o ∧ e.v = .tp [] ∧ e.wr = [] ∧ (inert o.op = true → e.rd = [])) ∨ (Asked st o ∧ Runs P o.op st id e.v e.wr e.rd))) ∨ (e.dead = true ∧ ∃ x, Asked st o ∧ Pans P o.op st id x e.rd ∧ ∀ fr σ n, Kp x fr σ n)
theorem callD_split {f : AV} {args : List AV} {σ : Hp} {id : Nat} {K : AEnd → Wr → List Nat → Prop} (h : callD P f args σ id K) : ∃ r wr rd, callD P f args σ id (fun r' w d => r' = r ∧ w = wr ∧ d = rd) ∧ K r wr rd := by
  rcases h with h | h
  · unfold callC at h
    split at h
    · obtain ⟨cs, I, r, h1, h2, h3⟩ := h
      exact ⟨r, _, I, .c ⟨cs, I, r, h1, h2, rfl, rfl, rfl⟩, h3⟩
    · exact h.elim
  · unfold callW at h
    split at h
    · obtain ⟨pre, r, wr, h1, h2, h3⟩ := h
      exact ⟨r, wr, _, .w ⟨pre, r, wr, h1, h2, rfl, rfl, rfl⟩, h3⟩
    · exact h.elim
theorem callD_mono {f : AV} {args : List AV} {σ : Hp} {id : Nat} {K K' : AEnd → Wr → List Nat → Prop} (h : callD P f args σ id K) (hk : ∀ r wr rd, K r wr rd → K' r wr rd) : callD P f args σ id K' := by
  rcases h with h | h
  · unfold callC at h
    split at h
    · obtain ⟨cs, I, r, h1, h2, h3⟩ := h
      exact .c ⟨cs, I, r, h1, h2, hk _ _ _ h3⟩
    · exact h.elim
  · unfold callW at h
    split at h
    · obtain ⟨pre, r, wr, h1, h2, h3⟩ := h
      exact .w ⟨pre, r, wr, h1, h2, hk _ _ _ h3⟩
    · exact h.elim
theorem dstep_split {op : SOp} {fr : Regs} {σ : Hp} {id : Nat} {Kx : Value → List Nat → Prop} {K : AV → Wr → List Nat → Prop} (h : dstep P op fr σ id Kx K) :
    (∃ v wr rd, Runs P op (fr, σ) id v wr rd ∧ K v wr rd) ∨ (∃ x rd, Pans P op (fr, σ) id x rd ∧ Kx x rd) := by
  have plain : (if quiet op = true then bindP (semR σ (Opd.get fr) op) (fun v => K v [] (rdR (Opd.get fr) op)) else bindH (semH σ id (Opd.get fr) op) (fun v wr => K v wr (rdH (Opd.get fr) op wr))) → ∃ v wr rd, Runs P op (fr, σ) id v wr rd ∧ K v wr rd := by
    intro h
    split at h
    · rename_i hq
      unfold bindP at h
      split at h
      · rename_i v hv; exact ⟨v, [], _, .inl ⟨hq, hv, rfl, rfl⟩, h⟩
      · exact h.elim
    · unfold bindH at h
      split at h
      · rename_i v wr hv; exact ⟨v, wr, _, .inr (.inl ⟨hv, rfl⟩), h⟩
      · exact h.elim
  cases op with
  | call f args =>
    simp only [dstep] at h
    obtain ⟨r, wr, rd, h1, h2⟩ := callD_split h
    cases r with
    | ret v => exact .inl ⟨v, wr, rd, .inr (.inr ⟨f, args, rfl, h1⟩), h2⟩
    | pan x => exact .inr ⟨x, rd, .inl ⟨f, args, rfl, callD_mono h1 (fun _ _ _ h => ⟨h.1, h.2.2⟩)⟩, h2⟩
  | pan y =>
    simp only [dstep, PAN] at h
    split at h
    · rename_i t v hv
      exact .inr ⟨_, _, .inr ⟨y, rfl, by unfold PAN; rw [hv]⟩, h⟩
    · exact h.elim
  | _ => simp only [dstep] at h; exact .inl (plain h)
end
end Go.Proofs.YtodoejfkjimeaaaGreatDoor.Am

set_option linter.unusedSimpArgs false
set_option linter.unusedVariables false
namespace Go.Proofs.YtodoejfkjimeaaaGreatDoor.Am
open Go Go.RowKit

theorem brwL_frame' {σ σ' : Hp} {d : Nat} (hd : ∀ x c I, brw σ d x = some (c, I) → (∀ i ∈ I, σ i = σ' i) → brw σ' d x = some (c, I)) : ∀ (l cs : List AV) (I : List Nat), brwL σ d l = some (cs, I) → (∀ i ∈ I, σ i = σ' i) → brwL σ' d l = some (cs, I)
  | [], cs, I, h, _ => h
  | x :: l, cs, I, h, hI => by
    simp only [brwL, List.foldr_cons] at h ⊢
    split at h
    · rename_i c J cs' I' h1 h2
      simp only [Option.some.injEq, Prod.mk.injEq] at h
      obtain ⟨rfl, rfl⟩ := h
      have h3 := brwL_frame' hd l cs' I' h2 (fun i hi => hI i (List.mem_append_right _ hi))
      simp only [brwL] at h3
      rw [hd _ _ _ h1 (fun i hi => hI i (List.mem_append_left _ hi)), h3]
    · cases h
theorem brwR_frame' {σ σ' : Hp} {d : Nat} (hd : ∀ x c I, brw σ d x = some (c, I) → (∀ i ∈ I, σ i = σ' i) → brw σ' d x = some (c, I)) : ∀ (l cs : List (List AV)) (I : List Nat), brwR σ d l = some (cs, I) → (∀ i ∈ I, σ i = σ' i) → brwR σ' d l = some (cs, I)
  | [], cs, I, h, _ => h
  | x :: l, cs, I, h, hI => by
    simp only [brwR, List.foldr_cons] at h ⊢
    split at h
    · rename_i c J cs' I' h1 h2
      simp only [Option.some.injEq, Prod.mk.injEq] at h
      obtain ⟨rfl, rfl⟩ := h
      have h3 := brwR_frame' hd l cs' I' h2 (fun i hi => hI i (List.mem_append_right _ hi))
      simp only [brwR] at h3
      rw [brwL_frame' hd _ _ _ h1 (fun i hi => hI i (List.mem_append_left _ hi)), h3]
    · cases h
theorem brw_frame {σ σ' : Hp} : ∀ (d : Nat) (x c : AV) (I : List Nat), brw σ d x = some (c, I) → (∀ i ∈ I, σ i = σ' i) → brw σ' d x = some (c, I) := by
  intro d
  induction d with
  | zero => intro x c I h hI; cases x <;> exact h
  | succ d ih =>
    intro x c I h hI
    cases x with
    | fn f l =>
      change (brwL σ d l).map (fun p => (AV.fn f p.1, p.2)) = some (c, I) at h
      change (brwL σ' d l).map (fun p => (AV.fn f p.1, p.2)) = some (c, I)
      obtain ⟨q, h1, h2⟩ := Option.map_eq_some_iff.1 h
      cases h2
      rw [brwL_frame' ih l q.1 q.2 h1 hI]; rfl
    | ag l =>
      change (brwL σ d l).map (fun p => (AV.ag p.1, p.2)) = some (c, I) at h
      change (brwL σ' d l).map (fun p => (AV.ag p.1, p.2)) = some (c, I)
      obtain ⟨q, h1, h2⟩ := Option.map_eq_some_iff.1 h
      cases h2
      rw [brwL_frame' ih l q.1 q.2 h1 hI]; rfl
    | tp l =>
      change (brwL σ d l).map (fun p => (AV.tp p.1, p.2)) = some (c, I) at h
      change (brwL σ' d l).map (fun p => (AV.tp p.1, p.2)) = some (c, I)
      obtain ⟨q, h1, h2⟩ := Option.map_eq_some_iff.1 h
      cases h2
      rw [brwL_frame' ih l q.1 q.2 h1 hI]; rfl
    | ow i k off len =>
      change (match σ i with
        | some (.c x) => if x.k = k ∧ x.cl = true ∧ off + len ≤ x.rows.length ∧ 0 < k then some (AV.tr ((x.rows.drop off).take len), [i])
          else if x.k = k ∧ off + len ≤ x.rows.length ∧ 0 < k then (brwR σ d ((x.rows.drop off).take len)).map (fun p => (AV.tr p.1, i :: p.2)) else none
        | _ => none) = some (c, I) at h
      change (match σ' i with
        | some (.c x) => if x.k = k ∧ x.cl = true ∧ off + len ≤ x.rows.length ∧ 0 < k then some (AV.tr ((x.rows.drop off).take len), [i])
          else if x.k = k ∧ off + len ≤ x.rows.length ∧ 0 < k then (brwR σ' d ((x.rows.drop off).take len)).map (fun p => (AV.tr p.1, i :: p.2)) else none
        | _ => none) = some (c, I)
      split at h
      · rename_i x hσ
        split at h
        · rename_i hc
          simp only [Option.some.injEq, Prod.mk.injEq] at h
          obtain ⟨rfl, rfl⟩ := h
          rw [← hI i (by simp), hσ]
          simp only
          rw [if_pos hc]
        · rename_i hc
          split at h
          · rename_i hc2
            obtain ⟨q, h1, h2⟩ := Option.map_eq_some_iff.1 h
            cases h2
            rw [← hI i (by simp), hσ]
            simp only
            rw [if_neg hc, if_pos hc2, brwR_frame' ih _ q.1 q.2 h1 (fun j hj => hI j (by simp [hj]))]; rfl
          · cases h
      · cases h
    | rf i k rr cc =>
      change (match σ i with
        | some (.c x) => if x.k = k then (match x.rows[rr]? with
          | some row => if cc < row.length then ((brwL σ d (row.drop cc)).map fun p => (AV.fp p.1, i :: p.2)) else none
          | none => none) else none
        | _ => none) = some (c, I) at h
      change (match σ' i with
        | some (.c x) => if x.k = k then (match x.rows[rr]? with
          | some row => if cc < row.length then ((brwL σ' d (row.drop cc)).map fun p => (AV.fp p.1, i :: p.2)) else none
          | none => none) else none
        | _ => none) = some (c, I)
      split at h
      · rename_i x hσ
        split at h
        · rename_i hk
          cases hrow : x.rows[rr]? with
          | none => simp [hrow] at h
          | some row =>
            simp only [hrow] at h
            split at h
            · rename_i hc
              obtain ⟨q, h1, h2⟩ := Option.map_eq_some_iff.1 h
              cases h2
              rw [← hI i (by simp), hσ]
              simp only
              rw [if_pos hk, hrow]
              simp only
              rw [if_pos hc, brwL_frame' ih _ q.1 q.2 h1 (fun j hj => hI j (by simp [hj]))]; rfl
            · cases h
        · cases h
      · cases h
    | _ => exact h
theorem brwL_frame {σ σ' : Hp} {d : Nat} {l cs : List AV} {I : List Nat} (h : brwL σ d l = some (cs, I)) (hI : ∀ i ∈ I, σ i = σ' i) : brwL σ' d l = some (cs, I) := brwL_frame' (brw_frame d) l cs I h hI
theorem frz_frame {σ σ' : Hp} : ∀ (I : List Nat), (∀ i ∈ I, σ i = σ' i) → frz σ I = frz σ' I
  | [], _ => rfl
  | i :: I, h => by
    simp only [frz]
    rw [frz_frame I (fun j hj => h j (List.mem_cons_of_mem _ hj)), h i List.mem_cons_self]
theorem frz_names (σ : Hp) : ∀ I : List Nat, names (frz σ I) = I
  | [] => rfl
  | i :: I => by simp only [frz, names, List.map_cons]; exact congrArg (i :: ·) (frz_names σ I)
theorem fillR_mem {σ : Hp} {k : Nat} : ∀ (ps : List (Nat × AV)) (l rows : List (List AV)) (I I' : List Nat), fillR σ k ps l I = some (rows, I') → ∀ i ∈ I, i ∈ I'
  | [], l, rows, I, I', h, i, hi => by simp only [fillR, Option.some.injEq, Prod.mk.injEq] at h; rw [← h.2]; exact hi
  | (j, x) :: ps, l, rows, I, I', h, i, hi => by
    simp only [fillR] at h
    split at h
    · split at h
      · split at h
        · exact fillR_mem ps _ _ _ _ h i (List.mem_append_right _ hi)
        · cases h
      · cases h
    · cases h
theorem fillR_frame {σ σ' : Hp} {k : Nat} : ∀ (ps : List (Nat × AV)) (l rows : List (List AV)) (I I' : List Nat), fillR σ k ps l I = some (rows, I') → (∀ i ∈ I', σ i = σ' i) → fillR σ' k ps l I = some (rows, I')
  | [], l, rows, I, I', h, _ => h
  | (j, x) :: ps, l, rows, I, I', h, hI => by
    simp only [fillR] at h ⊢
    split at h
    · rename_i c J hb
      split at h
      · rename_i cs hc
        split at h
        · rename_i hk
          rw [brw_frame 6 x c J hb (fun i hi => hI i (fillR_mem ps _ _ _ _ h i (List.mem_append_left _ hi)))]
          simp only [hc]
          rw [if_pos hk]
          exact fillR_frame ps _ _ _ _ h hI
        · cases h
      · cases h
    · cases h
section
variable {P : Program}
theorem get_congr {g g' : Opd → AV} : ∀ {l : List Opd}, (∀ x ∈ l, g x = g' x) → l.map g = l.map g' := fun h => List.map_congr_left h
theorem semR_frame {σ σ' : Hp} {g g' : Opd → AV} {op : SOp} (hg : ∀ x ∈ opds op, g x = g' x) (hs : ∀ i ∈ rdR g op, σ i = σ' i) : semR σ g op = semR σ' g' op := by
  cases op <;> simp only [opds, List.mem_cons, List.not_mem_nil, or_false, forall_eq_or_imp, forall_eq, List.mem_append, Option.mem_toList] at hg <;> try (simp only [semR, hg]; done)
  case build zs ps =>
    simp only [semR]
    congr 1
    apply List.map_congr_left
    intro p hp
    rw [hg p.2.2 (List.mem_map.2 ⟨p, hp, rfl⟩)]
  case ld m x =>
    simp only [semR]
    rw [← hg]
    simp only [rdR, rdA] at hs
    unfold aLd
    split
    · rename_i i k r c hx
      rw [hx] at hs
      rw [hs i (by simp)]
    · rename_i i k t hx
      rw [hx] at hs
      rw [hs i (by simp)]
    · rfl
    · rfl
  case lkp z ok x k =>
    simp only [semR]
    rw [← hg.1, ← hg.2]
    simp only [rdR] at hs
    unfold aLkp
    split
    · rename_i i l hx hk
      rw [hx] at hs
      rw [hs i (by simp [rdM])]
    · rfl
  case cvb x =>
    simp only [semR]
    rw [← hg]
    simp only [rdR] at hs
    unfold aCvb
    have hy : rowsOf σ 1 (g x) = rowsOf σ' 1 (g x) := by
      unfold rowsOf
      split
      · rfl
      · rfl
      · rename_i i k' off len hyv
        rw [hs i (by simp [rdY, hyv])]
      · rfl
    rw [hy]
  case slc k x lo hi mx =>
    obtain ⟨h1, h2⟩ := hg
    have e1 : lo.map g = lo.map g' := by cases lo <;> simp_all
    have e2 : hi.map g = hi.map g' := by cases hi <;> simp_all
    have e3 : mx.map g = mx.map g' := by cases mx <;> simp_all
    simp only [semR, h1, e1, e2, e3]
  case sstr x lo hi =>
    obtain ⟨h1, h2⟩ := hg
    have e1 : lo.map g = lo.map g' := by cases lo <;> simp_all
    have e2 : hi.map g = hi.map g' := by cases hi <;> simp_all
    simp only [semR, h1, e1, e2]
  case mkf f caps => simp only [semR]; rw [get_congr hg]
theorem semH_frame {σ σ' : Hp} {id : Nat} {g g' : Opd → AV} {op : SOp} {v : AV} {wr : Wr} (h : semH σ id g op = some (v, wr)) (hg : ∀ x ∈ opds op, g x = g' x) (hs : ∀ i ∈ rdH g op wr, σ i = σ' i) : semH σ' id g' op = some (v, wr) := by
  cases op <;> simp only [semH, reduceCtorEq] at h <;> simp only [opds, List.mem_cons, List.not_mem_nil, or_false, forall_eq_or_imp, forall_eq] at hg
  case alloc zs => exact h
  case allt t zs => exact h
  case mkm => exact h
  case mup x k u =>
    simp only [semH]
    rw [← hg.1, ← hg.2.1, ← hg.2.2]
    unfold hMup at h ⊢
    split at h
    · rename_i i l uu hx hk hu
      split at h
      · rename_i es hσ
        have hi : σ i = σ' i := hs i (by
          split at h
          · cases h; simp [rdH, names]
          · cases h; simp [rdH, names]
          · cases h)
        rw [← hi, hσ]; exact h
      · cases h
    · cases h
  case clm x =>
    simp only [semH]
    rw [← hg]
    unfold hClm at h ⊢
    split at h
    · rename_i i hx
      split at h
      · rename_i es hσ
        cases h
        have hi : σ i = σ' i := hs i (by simp [rdH, names])
        rw [← hi, hσ]
      · cases h
    · cases h
  case box x => simp only [semH]; rw [← hg]; exact h
  case bsl k zs len ps =>
    have e : ps.map (fun p => (p.1, g p.2)) = ps.map (fun p => (p.1, g' p.2)) := by
      apply List.map_congr_left
      intro p hp
      rw [hg p.2 (List.mem_map.2 ⟨p, hp, rfl⟩)]
    simp only [semH]
    rw [← e]
    unfold hBsl at h ⊢
    split at h
    · rename_i rows I hf
      simp only [Option.some.injEq, Prod.mk.injEq] at h
      obtain ⟨rfl, rfl⟩ := h
      have hI : ∀ i ∈ I, σ i = σ' i := fun i hi => hs i (by
        simp only [rdH, names, List.map_append, List.mem_append]
        exact .inl (by rw [show (frz σ I).map (·.1) = I from frz_names σ I]; exact hi))
      rw [fillR_frame _ _ _ _ _ hf hI, frz_frame I hI]
    · cases h
  case st m x y =>
    simp only [semH]
    rw [← hg.1, ← hg.2]
    unfold hSt at h ⊢
    split at h
    · rename_i i k r c hx
      split at h
      · rename_i b hσ
        split at h
        · rename_i hk
          split at h
          · rename_i row l h1 h2
            split at h
            · rename_i hc
              simp only [Option.some.injEq, Prod.mk.injEq] at h
              obtain ⟨rfl, rfl⟩ := h
              rw [← hs i (by simp [rdH, names]), hσ]
              simp only
              rw [if_pos hk, h1, h2]
              simp only
              rw [if_pos hc]
            · cases h
          · cases h
        · cases h
      · cases h
    · rename_i i k tt hx
      split at h
      · rename_i b hσ
        split at h
        · rename_i hk
          split at h
          · rename_i row l h1 h2
            split at h
            · rename_i hc
              simp only [Option.some.injEq, Prod.mk.injEq] at h
              obtain ⟨rfl, rfl⟩ := h
              rw [← hs i (by simp [rdH, names]), hσ]
              simp only
              rw [if_pos hk, h1, h2]
              simp only
              rw [if_pos hc]
            · cases h
          · cases h
        · cases h
      · cases h
    · cases h
  case app k b x y =>
    simp only [semH]
    rw [← hg.1, ← hg.2]
    have hy : ∀ news, rowsOf σ k (g y) = some news → rowsOf σ' k (g y) = some news := by
      intro news hn
      unfold rowsOf at hn ⊢
      split at hn
      · exact hn
      · exact hn
      · rename_i i k' off len hyv
        rw [← hs i (by simp [rdH, rdY, hyv])]
        exact hn
      · cases hn
    unfold hApp at h ⊢
    split at h
    · rename_i news hn
      rw [hy news hn]
      simp only
      split at h
      · rename_i hl
        rw [if_pos hl]
        unfold hAppN at h ⊢
        split at h
        · exact h
        · rename_i i k' len hxv
          rw [← hs i (by simp [rdH, rdY, hxv])]
          exact h
        · cases h
      · cases h
    · cases h
  case aps b x y =>
    simp only [semH]
    rw [← hg.1, ← hg.2]
    unfold hAps at h ⊢
    split at h
    · exact h
    · rename_i i len l hx hy
      rw [← hs i (by simp [rdH, rdY, hx])]
      exact h
    · cases h
theorem callD_frame {f : AV} {args : List AV} {σ σ' : Hp} {id : Nat} {Q : AEnd → Prop} {wr : Wr} {rd : List Nat} (h : callD P f args σ id (fun r w d => Q r ∧ w = wr ∧ d = rd)) (hs : ∀ i ∈ rd, σ i = σ' i) : callD P f args σ' id (fun r w d => Q r ∧ w = wr ∧ d = rd) := by
  rcases h with h | h
  · unfold callC at h
    split at h
    · obtain ⟨cs, I, r, h1, h2, h3, h4, rfl⟩ := h
      exact .c ⟨cs, I, r, brwL_frame h1 hs, h2, h3, by rw [← h4, frz_frame I hs], rfl⟩
    · exact h.elim
  · unfold callW at h
    split at h
    · obtain ⟨pre, r, w, h1, h2, h3, h4, rfl⟩ := h
      exact .w ⟨pre, r, w, fun p hp => by rw [← hs p.1 (List.mem_map.2 ⟨p, hp, rfl⟩)]; exact h1 p hp, h2, h3, h4, rfl⟩
    · exact h.elim
theorem opds_of {fr fr' : Regs} {o : SOper} (h : ∀ t ∈ optmps o, fr t = fr' t) : ∀ x ∈ opds o.op, Opd.get fr x = Opd.get fr' x := by
  intro x hx
  cases x with
  | t i => exact h i (by unfold optmps; exact List.mem_append_left _ (List.mem_filterMap.2 ⟨.t i, hx, rfl⟩))
  | c a => rfl
theorem rdR_congr {g g' : Opd → AV} {op : SOp} (hg : ∀ x ∈ opds op, g x = g' x) : rdR g op = rdR g' op := by
  cases op <;> try rfl
  case ld m x => simp only [rdR]; rw [hg x (by simp [opds])]
  case cvb x => simp only [rdR]; rw [hg x (by simp [opds])]
  case lkp z ok x k => simp only [rdR]; rw [hg x (by simp [opds])]
theorem rdH_congr {g g' : Opd → AV} {op : SOp} {wr : Wr} (hg : ∀ x ∈ opds op, g x = g' x) : rdH g op wr = rdH g' op wr := by
  cases op <;> try rfl
  case app k b x y => simp only [rdH]; rw [hg x (by simp [opds]), hg y (by simp [opds])]
  case aps b x y => simp only [rdH]; rw [hg x (by simp [opds])]
theorem Runs.frame {st st' : St} {o : SOper} {id : Nat} {v : AV} {wr : Wr} {rd : List Nat} (h : Runs P o.op st id v wr rd) (hr : ∀ t ∈ optmps o, st.1 t = st'.1 t) (hs : ∀ i ∈ rd, st.2 i = st'.2 i) : Runs P o.op st' id v wr rd := by
  have hg := opds_of hr
  rcases h with ⟨h1, h2, h3, h4⟩ | ⟨h1, h2⟩ | ⟨f, args, h1, h2⟩
  · exact .inl ⟨h1, by rw [← semR_frame hg (by rw [← h4]; exact hs)]; exact h2, h3, by rw [← rdR_congr hg]; exact h4⟩
  · exact .inr (.inl ⟨semH_frame h1 hg (by rw [← h2]; exact hs), by rw [← rdH_congr hg]; exact h2⟩)
  · rw [h1] at hg
    simp only [opds, List.mem_cons, forall_eq_or_imp] at hg
    refine .inr (.inr ⟨f, args, h1, ?_⟩)
    rw [← hg.1, ← get_congr hg.2]
    exact callD_frame (Q := fun r => r = .ret v) h2 hs
theorem Pans.frame {st st' : St} {o : SOper} {id : Nat} {x : Value} {rd : List Nat} (h : Pans P o.op st id x rd) (hr : ∀ t ∈ optmps o, st.1 t = st'.1 t) (hs : ∀ i ∈ rd, st.2 i = st'.2 i) : Pans P o.op st' id x rd := by
  have hg := opds_of hr
  rcases h with ⟨f, args, h1, h2⟩ | ⟨y, h1, h2⟩
  · rw [h1] at hg
    simp only [opds, List.mem_cons, forall_eq_or_imp] at hg
    refine .inl ⟨f, args, h1, ?_⟩
    rw [← hg.1, ← get_congr hg.2]
    obtain ⟨r, w, d, h3, h4⟩ := callD_split h2
    obtain ⟨rfl, rfl⟩ := h4
    exact callD_mono (callD_frame (Q := fun r => r = .pan x) h3 hs) (fun _ _ _ h => ⟨h.1, h.2.2⟩)
  · rw [h1] at hg
    exact .inr ⟨y, h1, by rw [← hg y (by simp [opds])]; exact h2⟩
end
/-! states behind some of the operations -/
theorem stL_append (L : Nat → Bool) : ∀ (i : Nat) (es es' : List Eff) (st : St), stL L i (es ++ es') st = stL L (i + es.length) es' (stL L i es st)
  | i, [], es', st => by simp [stL]
  | i, e :: es, es', st => by
    simp only [List.cons_append, stL, List.length_cons]
    rw [stL_append L (i + 1) es es']
    congr 1; omega
theorem stL_congr {L L' : Nat → Bool} : ∀ (i : Nat) (es : List Eff) (st : St), (∀ j, i ≤ j → j < i + es.length → L j = L' j) → stL L i es st = stL L' i es st
  | i, [], st, h => rfl
  | i, e :: es, st, h => by
    simp only [stL]
    rw [h i (Nat.le_refl _) (by simp)]
    exact stL_congr (i + 1) es _ (fun j h1 h2 => h j (by omega) (by simp; omega))
theorem stL_none {L : Nat → Bool} : ∀ (i : Nat) (es : List Eff) (st : St), (∀ j, i ≤ j → j < i + es.length → L j = false) → stL L i es st = st
  | i, [], st, h => rfl
  | i, e :: es, st, h => by
    simp only [stL]
    rw [h i (Nat.le_refl _) (by simp)]
    simp only [cond_false]
    exact stL_none (i + 1) es _ (fun j h1 h2 => h j (by omega) (by simp; omega))
theorem applyW_get : ∀ (wr : Wr) (σ : Hp) (i : Nat), i ∉ names wr → applyW σ wr i = σ i
  | [], σ, i, h => rfl
  | (j, x) :: wr, σ, i, h => by
    simp only [names, List.map_cons, List.mem_cons, not_or] at h
    simp only [applyW]
    rw [applyW_get wr _ i h.2, upd_ne _ _ h.1]
theorem applyW_congr : ∀ (wr : Wr) (σ σ' : Hp) (i : Nat), σ i = σ' i → applyW σ wr i = applyW σ' wr i
  | [], σ, σ', i, h => h
  | (j, x) :: wr, σ, σ', i, h => by
    simp only [applyW]
    refine applyW_congr wr _ _ i ?_
    unfold upd
    split
    · rfl
    · exact h
theorem applyW_mem : ∀ (wr : Wr) (σ σ' : Hp) (i : Nat), i ∈ names wr → applyW σ wr i = applyW σ' wr i
  | [], σ, σ', i, h => by cases h
  | (j, x) :: wr, σ, σ', i, h => by
    simp only [applyW]
    by_cases hin : i ∈ names wr
    · exact applyW_mem wr _ _ i hin
    · have hj : i = j := by simp only [names, List.map_cons, List.mem_cons] at h; exact h.resolve_right hin
      subst hj
      rw [applyW_get wr _ i hin, applyW_get wr _ i hin, upd_same, upd_same]
theorem applyW_comm {wr wr' : Wr} (h : ∀ x ∈ names wr, x ∉ names wr') (σ : Hp) : applyW (applyW σ wr) wr' = applyW (applyW σ wr') wr := by
  funext i
  by_cases h1 : i ∈ names wr
  · rw [applyW_get wr' _ i (h i h1)]
    exact applyW_mem wr _ _ i h1
  · rw [applyW_get wr _ i h1]
    exact applyW_congr wr' _ _ i (applyW_get wr _ i h1)
theorem put_comm {fr : Regs} {d d' : Option Nat} {v v' : AV} (h : ∀ t, d = some t → d' ≠ some t) : Am.put (Am.put fr d v) d' v' = Am.put (Am.put fr d' v') d v := by
  cases d with
  | none => rfl
  | some d =>
    cases d' with
    | none => rfl
    | some d' =>
      have hne : d ≠ d' := fun e => h d rfl (by rw [e])
      funext t
      simp only [Am.put]
      by_cases e1 : t = d
      · subst e1; simp [hne]
      · by_cases e2 : t = d'
        · simp [e1, e2, Ne.symm hne]
        · simp [e1, e2]
theorem effApp_comm {e f : Eff} (h1 : ∀ t, e.dst = some t → f.dst ≠ some t) (h2 : ∀ x ∈ names e.wr, x ∉ names f.wr) (st : St) : effApp f (effApp e st) = effApp e (effApp f st) := by
  unfold effApp
  simp only
  rw [put_comm h1, applyW_comm h2]
theorem stL_reg {t : Nat} {L L' : Nat → Bool} : ∀ (i : Nat) (es : List Eff) (st st' : St), st.1 t = st'.1 t → (∀ j e, es[j]? = some e → e.dst = some t → L (i + j) = L' (i + j)) → (stL L i es st).1 t = (stL L' i es st').1 t
  | i, [], st, st', h, _ => h
  | i, e :: es, st, st', h, hL => by
    simp only [stL]
    refine stL_reg (i + 1) es _ _ ?_ (fun j f hf hd => by have := hL (j + 1) f (by simpa using hf) hd; rwa [show i + (j + 1) = i + 1 + j by omega] at this)
    by_cases hd : e.dst = some t
    · have := hL 0 e rfl hd
      rw [Nat.add_zero] at this
      rw [this]
      cases L' i
      · exact h
      · simp [effApp, Am.put, hd]
    · have hp : ∀ st : St, (effApp e st).1 t = st.1 t := by
        intro st
        unfold effApp Am.put
        cases he : e.dst with
        | none => rfl
        | some d =>
          simp only
          rw [if_neg (fun hh => hd (by rw [he, hh]))]
      cases L i <;> cases L' i <;> simp only [cond_false, cond_true, hp, h]
theorem stL_mem {x : Nat} {L L' : Nat → Bool} : ∀ (i : Nat) (es : List Eff) (st st' : St), st.2 x = st'.2 x → (∀ j e, es[j]? = some e → x ∈ names e.wr → L (i + j) = L' (i + j)) → (stL L i es st).2 x = (stL L' i es st').2 x
  | i, [], st, st', h, _ => h
  | i, e :: es, st, st', h, hL => by
    simp only [stL]
    refine stL_mem (i + 1) es _ _ ?_ (fun j f hf hd => by have := hL (j + 1) f (by simpa using hf) hd; rwa [show i + (j + 1) = i + 1 + j by omega] at this)
    by_cases hd : x ∈ names e.wr
    · have := hL 0 e rfl hd
      rw [Nat.add_zero] at this
      rw [this]
      cases L' i
      · exact h
      · exact applyW_mem _ _ _ _ hd
    · have hp : ∀ st : St, (effApp e st).2 x = st.2 x := fun st => applyW_get _ _ _ hd
      cases L i <;> cases L' i <;> simp only [cond_false, cond_true, hp, h]
theorem stL_insert {L : Nat → Bool} {k : Nat} : ∀ (i : Nat) (es : List Eff) (st : St) (e : Eff), es[k]? = some e → L (i + k) = false → (∀ j f, k < j → es[j]? = some f → L (i + j) = true → (∀ t, e.dst = some t → f.dst ≠ some t) ∧ ∀ x ∈ names e.wr, x ∉ names f.wr) →
    stL (fun j => L j || j == i + k) i es st = effApp e (stL L i es st) := by
  have push : ∀ (i : Nat) (es : List Eff) (st : St) (e : Eff), (∀ j f, es[j]? = some f → L (i + j) = true → (∀ t, e.dst = some t → f.dst ≠ some t) ∧ ∀ x ∈ names e.wr, x ∉ names f.wr) → stL L i es (effApp e st) = effApp e (stL L i es st) := by
    intro i es
    induction es generalizing i with
    | nil => intro st e _; rfl
    | cons f es ih =>
      intro st e h
      simp only [stL]
      cases hL : L i with
      | false => simp only [cond_false]; exact ih (i + 1) st e (fun j g hg hl => h (j + 1) g (by simpa using hg) (by rw [show i + (j + 1) = i + 1 + j by omega]; exact hl))
      | true =>
        simp only [cond_true]
        obtain ⟨h1, h2⟩ := h 0 f rfl hL
        rw [effApp_comm h1 h2]
        exact ih (i + 1) _ e (fun j g hg hl => h (j + 1) g (by simpa using hg) (by rw [show i + (j + 1) = i + 1 + j by omega]; exact hl))
  induction k with
  | zero =>
    intro i es st e he hL hc
    cases es with
    | nil => cases he
    | cons f es =>
      simp only [List.getElem?_cons_zero, Option.some.injEq] at he
      subst he
      rw [Nat.add_zero] at hL
      simp only [stL, Nat.add_zero, beq_self_eq_true, Bool.or_true, cond_true, hL, cond_false]
      rw [stL_congr (L := fun j => L j || j == i) (L' := L) (i + 1) es _ (fun j h1 _ => by simp [show ¬ j = i by omega])]
      exact push (i + 1) es st f (fun j g hg hl => hc (j + 1) g (by omega) (by simpa using hg) (by rw [show i + (j + 1) = i + 1 + j by omega]; exact hl))
  | succ k ih =>
    intro i es st e he hL hc
    cases es with
    | nil => cases he
    | cons f es =>
      simp only [List.getElem?_cons_succ] at he
      simp only [stL]
      have h0 : (i == i + (k + 1)) = false := by simp
      rw [h0, Bool.or_false]
      have := ih (i + 1) es (bif L i then effApp f st else st) e he (by rw [show i + 1 + k = i + (k + 1) by omega]; exact hL) (fun j g hj hg hl => hc (j + 1) g (by omega) (by simpa using hg) (by rw [show i + (j + 1) = i + 1 + j by omega]; exact hl))
      rw [show i + 1 + k = i + (k + 1) by omega] at this
      exact this
end Go.Proofs.YtodoejfkjimeaaaGreatDoor.Am

set_option linter.unusedSimpArgs false
set_option linter.unusedVariables false
namespace Go.Proofs.YtodoejfkjimeaaaGreatDoor.Am
open Go Go.RowKit

section
variable {P : Program} {K : Kn} {Kp : Value → Kn} {l0 : List (SOper × List Nat)} {st0 : St} {n : Nat}
def deadAnc (anc : List Nat) (effs : List Eff) : Bool := anc.any (fun i => (effs[i]?).any (·.dead))
structure Trace (P : Program) (K : Kn) (Kp : Value → Kn) (l0 : List (SOper × List Nat)) (st0 : St) (n : Nat) (effs : List Eff) : Prop where
  len : effs.length = l0.length
  ok : ∀ (i : Nat) (o : SOper) (anc : List Nat) (e : Eff), l0[i]? = some (o, anc) → effs[i]? = some e → e.dst = o.dst ∧ (deadAnc anc (effs.take i) = true ∧ e.dead = true ∨ deadAnc anc (effs.take i) = false ∧ OpOk P Kp (stL (fun j => anc.contains j) 0 (effs.take i) st0) (n + 16 * i) o e)
  apt : ∀ (i j : Nat) (oi oj : SOper) (ai aj : List Nat) (ei ej : Eff), i < j → l0[i]? = some (oi, ai) → l0[j]? = some (oj, aj) → effs[i]? = some ei → effs[j]? = some ej → inert oi.op = false → inert oj.op = false → aj.contains i = false → Apt (names ei.wr) ei.rd (names ej.wr) ej.rd
  fin : (∀ e ∈ effs, e.dead = false) → ∀ n', n + 16 * l0.length ≤ n' → K (stL (fun _ => true) 0 effs st0).1 (stL (fun _ => true) 0 effs st0).2 n'
theorem side1_out {anc : List Nat} {w r : List Nat} : ∀ (i : Nat) (l : List (SOper × List Nat)) (es : List Eff) (X : Prop), side1 anc w r i l es X → X ∧ ∀ (k : Nat) (o : SOper) (a : List Nat) (e : Eff), l[k]? = some (o, a) → es[k]? = some e → inert o.op = false → anc.contains (i + k) = false → Apt (names e.wr) e.rd w r
  | i, [], es, X, h => ⟨h, fun k o a e h1 => by simp at h1⟩
  | i, (o, a) :: l, [], X, h => ⟨h, fun k o a e _ h1 => by simp at h1⟩
  | i, (o, a) :: l, e :: es, X, h => by
    simp only [side1] at h
    cases hb : (inert o.op || anc.contains i) with
    | true =>
      rw [hb, cond_true] at h
      obtain ⟨h1, h2⟩ := side1_out (i + 1) l es X h
      refine ⟨h1, fun k o' a' e' hk he hi ha => ?_⟩
      cases k with
      | zero =>
        simp only [List.getElem?_cons_zero, Option.some.injEq, Prod.mk.injEq] at hk
        obtain ⟨rfl, rfl⟩ := hk
        rw [Nat.add_zero] at ha
        rw [hi, ha] at hb; cases hb
      | succ k => exact h2 k o' a' e' (by simpa using hk) (by simpa using he) hi (by rwa [show i + 1 + k = i + (k + 1) by omega])
    | false =>
      rw [hb, cond_false] at h
      obtain ⟨h1, h2⟩ := side1_out (i + 1) l es X h.2
      refine ⟨h1, fun k o' a' e' hk he hi ha => ?_⟩
      cases k with
      | zero =>
        simp only [List.getElem?_cons_zero, Option.some.injEq, Prod.mk.injEq] at hk he
        subst he
        exact h.1
      | succ k => exact h2 k o' a' e' (by simpa using hk) (by simpa using he) hi (by rwa [show i + 1 + k = i + (k + 1) by omega])
theorem sideL_out {l0 : List (SOper × List Nat)} {effs : List Eff} (hlen : effs.length = l0.length) : ∀ (j : Nat) (l : List (SOper × List Nat)) (es : List Eff) (X : Prop), l = l0.drop j → es = effs.drop j → sideL l0 effs j l es X →
    X ∧ ∀ (i k : Nat) (oi oj : SOper) (ai aj : List Nat) (ei ej : Eff), i < k → j ≤ k → l0[i]? = some (oi, ai) → l0[k]? = some (oj, aj) → effs[i]? = some ei → effs[k]? = some ej → inert oi.op = false → inert oj.op = false → aj.contains i = false → Apt (names ei.wr) ei.rd (names ej.wr) ej.rd
  | j, [], es, X, hl, he, h => ⟨h, fun i k oi oj ai aj ei ej _ hjk _ hk => by
      have := (List.getElem?_eq_some_iff.1 hk).1
      have : l0.length ≤ j := List.drop_eq_nil_iff.1 hl.symm
      omega⟩
  | j, (o, a) :: l, [], X, hl, he, h => by
    have h1 : effs.length ≤ j := List.drop_eq_nil_iff.1 he.symm
    have h2 : l0.drop j = [] := List.drop_eq_nil_iff.2 (by omega)
    rw [h2] at hl; cases hl
  | j, (o, a) :: l, e :: es, X, hl, he, h => by
    have hl' : l = l0.drop (j + 1) := by rw [← List.drop_drop, ← hl]; rfl
    have he' : es = effs.drop (j + 1) := by rw [← List.drop_drop, ← he]; rfl
    have hoj : l0[j]? = some (o, a) := by have := congrArg (·[0]?) hl; simpa using this.symm
    have hej : effs[j]? = some e := by have := congrArg (·[0]?) he; simpa using this.symm
    simp only [sideL] at h
    cases hb : inert o.op with
    | true =>
      rw [hb, cond_true] at h
      obtain ⟨h1, h2⟩ := sideL_out hlen (j + 1) l es X hl' he' h
      refine ⟨h1, fun i k oi oj ai aj ei ej hik hjk a1 a2 a3 a4 a5 a6 a7 => ?_⟩
      by_cases hjk' : j = k
      · subst hjk'
        rw [hoj] at a2; cases a2
        rw [a6] at hb; cases hb
      · exact h2 i k oi oj ai aj ei ej hik (by omega) a1 a2 a3 a4 a5 a6 a7
    | false =>
      rw [hb, cond_false] at h
      obtain ⟨h0, h3⟩ := side1_out 0 _ _ _ h
      obtain ⟨h1, h2⟩ := sideL_out hlen (j + 1) l es X hl' he' h0
      refine ⟨h1, fun i k oi oj ai aj ei ej hik hjk a1 a2 a3 a4 a5 a6 a7 => ?_⟩
      by_cases hjk' : j = k
      · subst hjk'
        rw [hoj] at a2; cases a2
        rw [hej] at a4; cases a4
        exact h3 i oi ai ei (by rw [List.getElem?_take, if_pos hik]; exact a1) a3 a5 (by rw [Nat.zero_add]; exact a7)
      · exact h2 i k oi oj ai aj ei ej hik (by omega) a1 a2 a3 a4 a5 a6 a7
theorem trace_of : ∀ (rest : List (SOper × List Nat)) (effs : List Eff) (pn : Option Value), rest = l0.drop effs.length → effs.length ≤ l0.length →
    (∀ (i : Nat) (o : SOper) (anc : List Nat) (e : Eff), l0[i]? = some (o, anc) → effs[i]? = some e → e.dst = o.dst ∧ (deadAnc anc (effs.take i) = true ∧ e.dead = true ∨ deadAnc anc (effs.take i) = false ∧ ((∀ x, (e.dead = true → pn = some x → ∀ fr σ n, Kp x fr σ n)) → (e.dead = true → ∃ x, pn = some x) → OpOk P Kp (stL (fun j => anc.contains j) 0 (effs.take i) st0) (n + 16 * i) o e) ∧ (e.dead = true → ∃ x, pn = some x))) →
    ((∃ e ∈ effs, e.dead = true) → ∃ x, pn = some x) → (pn.isSome → ∃ e ∈ effs, e.dead = true) →
    dops P K Kp l0 st0 n rest effs pn → ∃ effs', Trace P K Kp l0 st0 n effs'
  | [], effs, pn, hr, hle, hok, hd1, hd2, h => by
    have hlen : effs.length = l0.length := by
      have : l0.length ≤ effs.length := List.drop_eq_nil_iff.1 hr.symm
      omega
    have fin : ∀ X : Prop, sideL l0 effs 0 l0 effs X → (X → (∀ x, pn = some x → ∀ fr σ n, Kp x fr σ n)) → (X → pn = none → ∀ n', n + 16 * l0.length ≤ n' → K (stL (fun _ => true) 0 effs st0).1 (stL (fun _ => true) 0 effs st0).2 n') → ∃ effs', Trace P K Kp l0 st0 n effs' := by
      intro X hX h1 h2
      obtain ⟨hx, hap⟩ := sideL_out hlen 0 l0 effs X rfl rfl hX
      refine ⟨effs, hlen, fun i o anc e a1 a2 => ?_, fun i j oi oj ai aj ei ej hij a1 a2 a3 a4 a5 a6 a7 => hap i j oi oj ai aj ei ej hij (Nat.zero_le _) a1 a2 a3 a4 a5 a6 a7, fun hnd => h2 hx ?_⟩
      · obtain ⟨b1, b2⟩ := hok i o anc e a1 a2
        exact ⟨b1, b2.imp (fun h => h) (fun h => ⟨h.1, h.2.1 (fun x _ hp => h1 hx x hp) h.2.2⟩)⟩
      · cases hp : pn with
        | none => rfl
        | some x =>
          obtain ⟨e, he, hde⟩ := hd2 (by simp [hp])
          rw [hnd e he] at hde; cases hde
    cases pn with
    | none => simp only [dops] at h; exact fin _ h (fun _ x hx => by cases hx) (fun hx _ => hx)
    | some x => simp only [dops] at h; exact fin _ h (fun hx y hy => by cases hy; exact hx) (fun _ hx => by cases hx)
  | (o, anc) :: rest, effs, pn, hr, hle, hok, hd1, hd2, h => by
    have hlt : effs.length < l0.length := by
      rcases Nat.lt_or_ge effs.length l0.length with h | h
      · exact h
      · rw [List.drop_eq_nil_iff.2 h] at hr; cases hr
    have hr' : rest = l0.drop (effs.length + 1) := by rw [← List.drop_drop, ← hr]; rfl
    have hoj : l0[effs.length]? = some (o, anc) := by have := congrArg (·[0]?) hr; simpa using this.symm
    have more : ∀ (e : Eff) (pn' : Option Value), e.dst = o.dst → (pn = none ∨ pn' = pn) → (pn'.isSome = true → pn.isSome = true ∨ e.dead = true) → (e.dead = true → deadAnc anc effs = true ∨ pn'.isSome = true) →
        (deadAnc anc effs = true ∧ e.dead = true ∨ deadAnc anc effs = false ∧ ((∀ x, (e.dead = true → pn' = some x → ∀ fr σ n, Kp x fr σ n)) → OpOk P Kp (stL (fun j => anc.contains j) 0 effs st0) (n + 16 * effs.length) o e)) →
        dops P K Kp l0 st0 n rest (effs ++ [e]) pn' → ∃ effs', Trace P K Kp l0 st0 n effs' := by
      intro e pn' hed hpn hpn2 hde hone hgo
      have hdeadpn : (∃ e ∈ effs, e.dead = true) → ∃ x, pn' = some x := by
        intro hx
        obtain ⟨x, hx'⟩ := hd1 hx
        rcases hpn with h | h
        · rw [h] at hx'; cases hx'
        · exact ⟨x, h.trans hx'⟩
      have hda : deadAnc anc effs = true → ∃ e ∈ effs, e.dead = true := by
        intro hda
        unfold deadAnc at hda
        obtain ⟨i, _, hi2⟩ := List.any_eq_true.1 hda
        cases hei : effs[i]? with
        | none => rw [hei] at hi2; cases hi2
        | some e => rw [hei] at hi2; exact ⟨e, List.mem_of_getElem? hei, by simpa using hi2⟩
      refine trace_of rest (effs ++ [e]) pn' (by simpa using hr') (by simp; omega) ?_ ?_ ?_ hgo
      · intro i o' anc' e' a1 a2
        rcases Nat.lt_trichotomy i effs.length with hi | hi | hi
        · rw [List.getElem?_append_left hi] at a2
          rw [List.take_append_of_le_length (by omega)]
          obtain ⟨b1, b2⟩ := hok i o' anc' e' a1 a2
          refine ⟨b1, b2.imp (fun h => h) (fun ⟨h1, h2, h3⟩ => ⟨h1, fun q1 q2 => h2 (fun x hx hp => ?_) h3, fun hx => hdeadpn ⟨e', List.mem_of_getElem? a2, hx⟩⟩)⟩
          rcases hpn with h | h
          · rw [h] at hp; cases hp
          · exact q1 x hx (h.trans hp)
        · subst hi
          rw [hoj] at a1; cases a1
          simp at a2
          subst a2
          rw [List.take_append_of_le_length (Nat.le_refl _), List.take_length]
          refine ⟨hed, hone.imp (fun h => h) (fun ⟨h1, h2⟩ => ⟨h1, fun q1 _ => h2 q1, fun hx => ?_⟩)⟩
          rcases hde hx with h | h
          · rw [h1] at h; cases h
          · exact Option.isSome_iff_exists.1 h
        · rw [List.getElem?_eq_none (by simp; omega)] at a2; cases a2
      · rintro ⟨e', he', hd'⟩
        rcases List.mem_append.1 he' with he' | he'
        · exact hdeadpn ⟨e', he', hd'⟩
        · simp only [List.mem_singleton] at he'
          subst he'
          rcases hde hd' with h | h
          · exact hdeadpn (hda h)
          · exact Option.isSome_iff_exists.1 h
      · intro hs
        rcases hpn2 hs with h | h
        · obtain ⟨e', he', hd'⟩ := hd2 h
          exact ⟨e', List.mem_append_left _ he', hd'⟩
        · exact ⟨e, by simp, h⟩
    unfold dops at h
    rw [show anc.any (fun i => (effs[i]?).any (·.dead)) = deadAnc anc effs from rfl] at h
    cases hdd : deadAnc anc effs with
    | true =>
      rw [hdd, cond_true] at h
      exact more _ pn rfl (.inr rfl) (fun h => .inl h) (fun _ => .inl hdd) (.inl ⟨hdd, rfl⟩) h
    | false =>
      rw [hdd, cond_false] at h
      have ran : ∀ v wr rd, Asked (stL (fun j => anc.contains j) 0 effs st0) o → Runs P o.op (stL (fun j => anc.contains j) 0 effs st0) (n + 16 * effs.length) v wr rd → dops P K Kp l0 st0 n rest (effs ++ [⟨o.dst, v, wr, rd, false⟩]) pn → ∃ effs', Trace P K Kp l0 st0 n effs' :=
        fun v wr rd ha hr hgo => more _ pn rfl (.inr rfl) (fun h => .inl h) (fun h => by cases h) (.inr ⟨hdd, fun _ => .inl ⟨rfl, .inr ⟨ha, hr⟩⟩⟩) hgo
      have skp : ∀ rd, (inert o.op = true → rd = []) → Skipped (stL (fun j => anc.contains j) 0 effs st0) o → dops P K Kp l0 st0 n rest (effs ++ [⟨o.dst, .tp [], [], rd, false⟩]) pn → ∃ effs', Trace P K Kp l0 st0 n effs' :=
        fun rd hin ha hgo => more _ pn rfl (.inr rfl) (fun h => .inl h) (fun h => by cases h) (.inr ⟨hdd, fun _ => .inl ⟨rfl, .inl ⟨ha, rfl, rfl, hin⟩⟩⟩) hgo
      have stp : Asked (stL (fun j => anc.contains j) 0 effs st0) o → dstep P o.op (stL (fun j => anc.contains j) 0 effs st0).1 (stL (fun j => anc.contains j) 0 effs st0).2 (n + 16 * effs.length)
        (fun x rd => once pn (dops P K Kp l0 st0 n rest (effs ++ [⟨o.dst, .tp [], [], rd, true⟩]) (some x)))
        (fun v wr rd => dops P K Kp l0 st0 n rest (effs ++ [⟨o.dst, v, wr, rd, false⟩]) pn) → ∃ effs', Trace P K Kp l0 st0 n effs' := by
        intro ha h
        rcases dstep_split h with ⟨v, wr, rd, h1, h2⟩ | ⟨x, rd, h1, h2⟩
        · exact ran v wr rd ha h1 h2
        · obtain ⟨h2, h3⟩ := once_iff.1 h2
          exact more _ (some x) rfl (.inl h2) (fun _ => .inr rfl) (fun _ => .inr rfl) (.inr ⟨hdd, fun hk => .inr ⟨rfl, x, ha, h1, hk x rfl rfl⟩⟩) h3
      split at h
      · rename_i hg; exact stp (.inl hg) h
      · rename_i d want hg
        split at h
        · rename_i hq
          have hin : inert o.op = true → rdR (Opd.get (stL (fun j => anc.contains j) 0 effs st0).1) o.op = [] := by
            intro hi
            generalize o.op = op at hi
            cases op <;> first | rfl | (simp [inert] at hi)
          replace h := h.h
          unfold guardP' at h
          split at h
          · rename_i b hb
            obtain ⟨v, hv, h⟩ := h
            by_cases hbw : b = want
            · subst hbw
              simp only [beq_self_eq_true, cond_true] at h
              exact ran v [] _ (.inr ⟨d, b, hg, hb⟩) (.inl ⟨hq, hv rfl, rfl, rfl⟩) h
            · rw [show (b == want) = false by simp [hbw], cond_false] at h
              exact skp _ hin ⟨d, want, hg, .inl ⟨b, hb, hbw⟩⟩ h
          · rename_i hb
            exact skp _ hin ⟨d, want, hg, .inr hb⟩ h
          · exact h.elim
        · replace h := h.h
          unfold guardD' at h
          split at h
          · rename_i b hb
            split at h
            · rename_i hbw; subst hbw
              exact stp (.inr ⟨d, b, hg, hb⟩) h
            · rename_i hbw
              exact skp [] (fun _ => rfl) ⟨d, want, hg, .inl ⟨b, hb, hbw⟩⟩ h
          · rename_i hb
            exact skp [] (fun _ => rfl) ⟨d, want, hg, .inr hb⟩ h
          · exact h.elim
end
end Go.Proofs.YtodoejfkjimeaaaGreatDoor.Am
