/- Packed by a program of this repo: Mo Mp Mq Mr Ms Mv Mw Mt Mx. -/
import Derived.Test.YtlhnncmflnjinaaKCMh
import Derived.Recover
import Derived.RangeFuncLeaves
set_option linter.unusedSimpArgs false
set_option linter.unusedVariables false
namespace Go.Proofs.Ytlhnncmflnjinaa.Am
open Go Go.RowKit

section
variable {rr : Option Nat} {P : Program} {T : Nat} {U : Nat → Prop} {N : Nat → Prop} {w0 : World} {M0 : Nat → Prop} {β0 : Nat → Option Nat} {ds : List Deferred}
theorem idx_some {t : Nat} : ∀ (l : List Nat) (i j : Nat), idx t l i = some j → i ≤ j ∧ l[j - i]? = some t
  | [], i, j, h => by cases h
  | x :: l, i, j, h => by
    simp only [idx] at h
    split at h
    · rename_i e; cases h; subst e; simp
    · obtain ⟨h1, h2⟩ := idx_some l (i + 1) j h
      refine ⟨by omega, ?_⟩
      rw [show j - i = (j - (i + 1)) + 1 by omega, List.getElem?_cons_succ]; exact h2
theorem Wk.le {s s' : List AV} {σ σ' : Hp} {n n' : Nat} (h : Wk s σ n s' σ' n') : n ≤ n' := by
  induction h with
  | trans _ _ h1 h2 => omega
  | more _ _ _ _ h => exact h
  | _ => omega
/-- a loop's slots, said in other words -/
theorem Wk.sound {fr : Regs} {lv md : List Nat} {s s' : List AV} {σ σ' : Hp} {n n' : Nat} (h : Wk s σ n s' σ' n') : ∀ {β : Nat → Option Nat} {a : Act} {w : World}, T ≤ n → SRel N w0 M0 β0 ds β (emb fr lv md s) σ (Fn T U n) a w → SRel N w0 M0 β0 ds β (emb fr lv md s') σ' (Fn T U n') a w := by
  have set : ∀ {β : Nat → Option Nat} {σ : Hp} {F : Nat → Prop} {a : Act} {w : World} {s : List AV} {i : Nat} {v : AV}, SRel N w0 M0 β0 ds β (emb fr lv md s) σ F a w → (∀ t, idx t lv 0 = some i → Rel (live N β σ) w β (a.tmps.getD t undef) v) → SRel N w0 M0 β0 ds β (emb fr lv md (s.set i v)) σ F a w := by
    intro β σ F a w s i v R hv
    refine R.other (fun t => ?_)
    have := R.regs t
    unfold emb at this ⊢
    cases hi : idx t lv 0 with
    | none => rw [hi] at this; exact this
    | some j =>
      rw [hi] at this
      simp only at this ⊢
      by_cases hij : i = j
      · subst hij
        rw [List.getD_eq_getElem?_getD, List.getElem?_set]
        simp only [if_true]
        by_cases hlt : i < s.length
        · rw [if_pos hlt]; exact hv t hi
        · rw [if_neg hlt]; exact .any _
      · rw [List.getD_eq_getElem?_getD, List.getElem?_set, if_neg hij, ← List.getD_eq_getElem?_getD]; exact this
  have at_ : ∀ {β : Nat → Option Nat} {σ : Hp} {F : Nat → Prop} {a : Act} {w : World} {s : List AV} {i t : Nat} {v : AV}, SRel N w0 M0 β0 ds β (emb fr lv md s) σ F a w → s[i]? = some v → idx t lv 0 = some i → Rel (live N β σ) w β (a.tmps.getD t undef) v := by
    intro β σ F a w s i t v R hs hi
    have := R.regs t
    unfold emb at this
    rw [hi] at this
    simp only [List.getD_eq_getElem?_getD, hs, Option.getD_some] at this
    exact this
  have fnle : ∀ {n n' : Nat}, n ≤ n' → ∀ i, Fn T U n' i → Fn T U n i := fun h i hi => hi.imp (fun h' => by omega) (fun h => h)
  induction h with
  | refl => exact fun _ R => R
  | trans h1 h2 ih1 ih2 => exact fun hT R => ih2 (Nat.le_trans hT h1.le) (ih1 hT R)
  | less s σ σ' n h => exact fun _ R => (R.less h).1
  | more s σ n n' h => exact fun _ R => R.free (fnle h)
  | emp s σ n i k cl h =>
    intro β a w hT R
    obtain ⟨R1, up⟩ := R.imagine n (.inl (Nat.le_refl n)) k cl
    refine (set (R1.free (F' := Fn T U (n + 16)) (fun j hj => ⟨fnle (by omega) j hj, by rcases hj with h | ⟨_, h⟩ <;> omega⟩)) (fun t ht => ?_))
    have := at_ R h ht
    generalize a.tmps.getD t undef = u at this
    cases this with
    | em A => exact .ow0 A n k
  | nil s σ n i h =>
    intro β a w hT R
    refine set R (fun t ht => ?_)
    have := at_ R h ht
    generalize a.tmps.getD t undef = u at this
    cases this with
    | em A => exact .tr A 0 1 [] (fun _ _ => undef) (by omega) (by simp) (by simp) (by simp) (by simp) (by simp) (by simp)
  | any s σ n i => exact fun _ R => set R (fun t _ => .any _)
  | frz s σ n i v c I h hb =>
    intro β a w hT R
    obtain ⟨R1, up⟩ := R.less (frz_less σ I)
    refine set R1 (fun t ht => ?_)
    obtain ⟨l1, l2⟩ := frz_off R.heap (brw_some σ 6 v c I hb)
    exact (brw_rel R.heap l1 6 v c I _ hb (at_ R h ht) l2).lift
theorem fnle {n n' : Nat} (h : n ≤ n') : ∀ i, Fn T U n' i → Fn T U n i := fun _ hi => hi.imp (fun h' => Nat.le_trans h h') (fun h => h)
theorem emb_at {fr : Regs} {lv md : List Nat} {s : List AV} {β : Nat → Option Nat} {fr1 : Regs} {σ : Hp} {F : Nat → Prop} {a : Act} {w : World} (R : SRel N w0 M0 β0 ds β fr1 σ F a w) (h : ∀ t, t ∉ md → fr1 t = emb fr lv md s t) : SRel N w0 M0 β0 ds β (emb fr lv md (lv.map fr1)) σ F a w := by
  refine R.other (fun t => ?_)
  unfold emb
  cases hi : idx t lv 0 with
  | some i =>
    obtain ⟨_, h2⟩ := idx_some lv 0 i hi
    rw [Nat.sub_zero] at h2
    simp only [List.getD_eq_getElem?_getD, List.getElem?_map, h2, Option.map_some, Option.getD_some]
    exact R.regs t
  | none =>
    simp only
    by_cases hm : md.contains t = true
    · rw [if_pos hm]; exact .any _
    · rw [if_neg hm]
      have := h t (by simpa using hm)
      unfold emb at this
      rw [hi] at this
      simp only at this
      rw [if_neg hm] at this
      rw [← this]; exact R.regs t
theorem emb_at' {fr : Regs} {lv md : List Nat} {β : Nat → Option Nat} {fr1 : Regs} {σ : Hp} {F : Nat → Prop} {a : Act} {w : World} (R : SRel N w0 M0 β0 ds β fr1 σ F a w) (h : ∀ t, t ∉ md → fr1 t = fr t) : SRel N w0 M0 β0 ds β (emb fr lv md (lv.map fr1)) σ F a w := by
  refine R.other (fun t => ?_)
  unfold emb
  cases hi : idx t lv 0 with
  | some i =>
    obtain ⟨_, h2⟩ := idx_some lv 0 i hi
    rw [Nat.sub_zero] at h2
    simp only [List.getD_eq_getElem?_getD, List.getElem?_map, h2, Option.map_some, Option.getD_some]
    exact R.regs t
  | none =>
    simp only
    by_cases hm : md.contains t = true
    · rw [if_pos hm]; exact .any _
    · rw [if_neg hm]
      rw [← h t (by simpa using hm)]; exact R.regs t
theorem emb_map {fr : Regs} {lv md : List Nat} {β : Nat → Option Nat} {σ : Hp} {F : Nat → Prop} {a : Act} {w : World} (R : SRel N w0 M0 β0 ds β fr σ F a w) : SRel N w0 M0 β0 ds β (emb fr lv md (lv.map fr)) σ F a w := by
  refine R.other (fun t => ?_)
  unfold emb
  cases hi : idx t lv 0 with
  | some i =>
    obtain ⟨_, h2⟩ := idx_some lv 0 i hi
    rw [Nat.sub_zero] at h2
    simp only [List.getD_eq_getElem?_getD, List.getElem?_map, h2, Option.map_some, Option.getD_some]
    exact R.regs t
  | none =>
    simp only
    by_cases hm : md.contains t = true
    · rw [if_pos hm]; exact .any _
    · rw [if_neg hm]; exact R.regs t
theorem loop_sound {S : Nat} {lv md : List Nat} {fr : Regs} {body : (List AV → Hp → Nat → Prop) → List AV → Hp → Nat → Prop} {c : Code} {W : (Act → World → Prop) → Exit → Act → World → Prop} {β : Nat → Option Nat} {s : List AV} {σ : Hp} {n : Nat} {a : Act} {w : World}
    (round : ∀ (K : List AV → Hp → Nat → Prop) (J : Act → World → Prop), (∀ β s' σ n' a w, T ≤ n' → n ≤ n' → a.tmps.size = S → s'.length = s.length → SRel N w0 M0 β0 ds β (emb fr lv md s') σ (Fn T U n') a w → K s' σ n' → J a w) → ∀ β s' σ n' a w, T ≤ n' → n ≤ n' → a.tmps.size = S → s'.length = s.length → SRel N w0 M0 β0 ds β (emb fr lv md s') σ (Fn T U n') a w → body K s' σ n' → c.wpIn (FW rr) 0 P (W J) a w)
    (hT : T ≤ n) (hS : a.tmps.size = S) (R : SRel N w0 M0 β0 ds β (emb fr lv md s) σ (Fn T U n) a w) (h : LOOP body s σ n) :
    ∃ J : Nat → Act → World → Prop, (∃ m, J m a w) ∧ ∀ m a w, J m a w → c.wpIn (FW rr) 0 P (W (fun a w => ∃ m', m' < m ∧ J m' a w)) a w := by
  obtain ⟨I, ⟨m0, s0, σ0, n0, hw, hn0, hs0, hI0⟩, hround⟩ := h
  refine ⟨fun m a w => ∃ β s' σ n', T ≤ n' ∧ n ≤ n' ∧ a.tmps.size = S ∧ s'.length = s.length ∧ SRel N w0 M0 β0 ds β (emb fr lv md s') σ (Fn T U n') a w ∧ I m s' σ n', ⟨m0, β, s0, σ0, n0, by omega, hn0, hS, hs0, hw.sound hT R, hI0⟩, ?_⟩
  rintro m a w ⟨β, s1, σ1, n1, hT1, hn1, hS1, hs1, R1, hI1⟩
  refine round _ _ ?_ β s1 σ1 n1 a w hT1 hn1 hS1 hs1 R1 (hround m s1 σ1 n1 hn1 hs1 hI1)
  rintro β s2 σ2 n2 a w hT2 hn2 hS2 hs2 R2 ⟨m', hm', s3, σ3, n3, hw3, hn3, hs3, hI3⟩
  exact ⟨m', hm', β, s3, σ3, n3, by omega, by omega, hS2, by omega, hw3.sound hT2 R2, hI3⟩
/-- names not used, from a later bound on -/
theorem fn_up {n n' : Nat} (hT : T ≤ n) (i : Nat) : Fn n (fun i => U i ∧ i < T) n' i ↔ Fn T U n' i :=
  ⟨fun h => h.imp (fun h => h) (fun h => h.1), fun h => h.imp (fun h => h) (fun h => ⟨h, Nat.lt_of_lt_of_le h.2 hT⟩)⟩
/-- no labels that are jumped to -/
def noScope : Code → Bool
  | .scope _ => false
  | .seq a b => noScope a && noScope b
  | .cond _ a b => noScope a && noScope b
  | .block _ a => noScope a
  | .loop a => noScope a
  | _ => true
theorem scope_FW {rr : Option Nat} (hrr : rr = none) {P : Program} {a : Act} {w : World} {Q : Exit → Act → World → Prop} {l : Nat} {c : Code} (J : Nat → Act → World → Prop) (n₀ : Nat) (h0 : J n₀ a w)
    (pass : ∀ n a w, J n a w → c.wpIn (FW rr) 0 P (Exit.jump l (fun a' w' => ∃ n', n' < n ∧ J n' a' w') Q) a w) : (Code.scope (.seq (.label l) c)).wpIn (FW rr) 0 P Q a w := by
  subst hrr
  exact wpIn_wide.2 (wp_scope_label J n₀ h0 fun n a w hj => wpIn_wide.1 (pass n a w hj))
theorem scL {rr : Option Nat} {a b : Code} (h : rr = none ∨ (noScope a && noScope b) = true) : rr = none ∨ noScope a = true := h.imp (fun h => h) (fun h => (Bool.and_eq_true_iff.1 h).1)
theorem scR {rr : Option Nat} {a b : Code} (h : rr = none ∨ (noScope a && noScope b) = true) : rr = none ∨ noScope b = true := h.imp (fun h => h) (fun h => (Bool.and_eq_true_iff.1 h).2)
theorem swp_sound {S : Nat} {X : List Nat} : ∀ (c : Code) (sc : SCode), cmpC P S X c = some sc → (rr = none ∨ noScope c = true) → ∀ (T : Nat) (U : Nat → Prop) (Q : Ks) (Q' : Exit → Act → World → Prop),
    (∀ e β fr σ n a w, T ≤ n → a.tmps.size = S → SRel N w0 M0 β0 ds β fr σ (Fn T U n) a w → Q e fr σ n → Q' e.conv a w) →
    ∀ (β : Nat → Option Nat) (fr : Regs) (σ : Hp) (n : Nat) (a : Act) (w : World), T ≤ n → a.tmps.size = S → SRel N w0 M0 β0 ds β fr σ (Fn T U n) a w → swp P sc Q fr σ n → c.wpIn (FW rr) 0 P Q' a w
  | .skip, sc, hc, hsc, T, U, Q, Q', hQ, β, fr, σ, n, a, w, hT, hS, R, h => by
    cases hc
    exact wpIn_skip (hQ .normal _ _ _ _ _ _ hT hS R h)
  | .region id ops true, sc, hc, hsc, T, U, Q, Q', hQ, β, fr, σ, n, a, w, hT, hS, R, h => by
    obtain ⟨l, hl, rfl⟩ := Option.map_eq_some_iff.1 hc
    unfold cmpD at hl
    split at hl
    · rename_i sl hsl
      split at hl
      · rename_i hcd
        obtain ⟨h1, h2, h3⟩ := hcd
        cases hl
        obtain ⟨effs, Tr⟩ := trace_of (K := Q .normal) (Kp := fun v => Q (.pan v)) _ [] none rfl (Nat.zero_le _) (fun i o anc e _ h => by simp at h) (fun ⟨e, he, _⟩ => by cases he) (fun h => by cases h) h
        have hlen : (sl.zip (ancOf ops.toList)).length = ops.size := by
          have := (cmpL_get _ _ hsl).1
          have h4 : (ancOf ops.toList).length = ops.toList.length := by
            unfold ancOk at h1
            simp only [Bool.and_eq_true, decide_eq_true_eq] at h1
            exact h1.1
          simp [this, h4]
        refine wpIn_region_any h3 ?_
        refine dops_sound (rr := rr) (T := T) (U := U) (ds := ds) (n := n) (fun β fr σ n a w hT hS R h => hQ .normal β fr σ n a w hT hS R h) (fun x β fr σ n a w hT hS R h => hQ (.pan x) β fr σ n a w hT hS R h) hT hsl h1 h2 Tr ops.size _ (n + 16 * ops.size) β a _ (Nat.le_refl _) (by simp) ?_ hS ?_ ?_ ?_
        · have := List.length_filter_le (fun i => !(Array.replicate ops.size false).getD i false) (List.range ops.size)
          simpa using this
        · intro i anc _ hl
          simp [Array.getD_eq_getD_getElem?, Array.getElem?_replicate] at hl
          split at hl <;> simp at hl
        · intro i e _ hl
          simp [Array.getD_eq_getD_getElem?, Array.getElem?_replicate] at hl
          split at hl <;> simp at hl
        · rw [stL_none 0 effs (fr, σ) (fun j _ _ => by simp [Array.getD_eq_getD_getElem?, Array.getElem?_replicate]; split <;> rfl)]
          have R' := drew_world R
          refine R'.free (fun j hj => ?_)
          rcases hj with ⟨h, _⟩ | h | h
          · exact .inl h
          · exact .inl (by omega)
          · exact .inr h
      · cases hl
    · cases hl
  | .region id ops false, sc, hc, hsc, T, U, Q, Q', hQ, β, fr, σ, n, a, w, hT, hS, R, h => by
    obtain ⟨sl, hsl, rfl⟩ := Option.map_eq_some_iff.1 hc
    exact wpIn_region_list (sops_sound (rr := rr) (K := Q .normal) (Kp := fun v => Q (.pan v)) (fun β fr σ n a w hT hS R h => hQ .normal β fr σ n a w hT hS R h) (fun x β fr σ n a w hT hS R h => hQ (.pan x) β fr σ n a w hT hS R h) _ _ β fr σ n a w hsl hT hS R h)
  | .seq x y, sc, hc, hsc, T, U, Q, Q', hQ, β, fr, σ, n, a, w, hT, hS, R, h => by
    simp only [cmpC] at hc
    split at hc
    · rename_i sx sy h1 h2
      split at hc
      · cases hc
        simp only [swp] at h
        replace h := h.h
        try simp only at h
        have h' := swp_mono sx (thenK (fun fr' => swp P sy Q (emb fr (liveOf X sx) (modsOf sx) ((liveOf X sx).map fr'))) Q) (fun e => match e with | .pan v => Q (.pan v) | .normal => Keep (modsOf sx) fr (fun fr' => swp P sy Q (emb fr (liveOf X sx) (modsOf sx) ((liveOf X sx).map fr'))) | e => Q e) (modsOf sx) fr (modsW_of x sx h1) (fun v fr σ n h => h) (fun e fr1 σ n he hq ha => by
          cases e with
          | normal => exact ⟨hq, ha⟩
          | pan v => exact absurd rfl (he v)
          | exit id => exact hq
          | goto l => exact hq
          | ret => exact hq) fr σ n (fun t _ => rfl) h
        refine wpIn_seq (swp_sound x sx h1 (scL hsc) T U _ _ ?_ β fr σ n a w hT hS R h')
        intro e β fr1 σ n a w hT hS R h
        cases e with
        | normal =>
          obtain ⟨h, hk⟩ := h
          refine swp_sound y sy h2 (scR hsc) T U Q Q' hQ β _ σ n a w hT hS (emb_at' R (fun t ht => hk t ht)) h
        | exit id => exact hQ (.exit id) β fr1 σ n a w hT hS R h
        | goto l => exact hQ (.goto l) β fr1 σ n a w hT hS R h
        | ret => exact hQ .ret β fr1 σ n a w hT hS R h
        | pan v => exact hQ (.pan v) β fr1 σ n a w hT hS R h
      · cases hc
        refine wpIn_seq (swp_sound x sx h1 (scL hsc) T U _ _ ?_ β fr σ n a w hT hS R h)
        intro e β fr σ n a w hT hS R h
        cases e with
        | normal => exact swp_sound y sy h2 (scR hsc) T U Q Q' hQ β fr σ n a w hT hS R h
        | exit id => exact hQ (.exit id) β fr σ n a w hT hS R h
        | goto l => exact hQ (.goto l) β fr σ n a w hT hS R h
        | ret => exact hQ .ret β fr σ n a w hT hS R h
        | pan v => exact hQ (.pan v) β fr σ n a w hT hS R h
    · cases hc
  | .cond cc x y, sc, hc, hsc, T, U, Q, Q', hQ, β, fr, σ, n, a, w, hT, hS, R, h => by
    simp only [cmpC] at hc
    split at hc
    · rename_i sx sy h1 h2
      cases hc
      simp only [swp, COND] at h
      split at h
      · rename_i t ht
        have hr := rel_get R cc
        rw [ht] at hr
        refine wpIn_cond (rel_sc hr) ?_
        cases t
        · exact swp_sound y sy h2 (scR hsc) T U Q Q' hQ β fr σ n a w hT hS R (h.2 rfl)
        · exact swp_sound x sx h1 (scL hsc) T U Q Q' hQ β fr σ n a w hT hS R (h.1 rfl)
      · rename_i ht
        have hr := rel_get R cc
        rw [ht] at hr
        generalize hu : a.eval cc = u at hr
        cases hr with
        | bo t =>
          refine wpIn_cond hu ?_
          cases t
          · exact swp_sound y sy h2 (scR hsc) T U Q Q' hQ β fr σ n a w hT hS R h.2
          · exact swp_sound x sx h1 (scL hsc) T U Q Q' hQ β fr σ n a w hT hS R h.1
      · exact h.elim
    · cases hc
  | .block id x, sc, hc, hsc, T, U, Q, Q', hQ, β, fr, σ, n, a, w, hT, hS, R, h => by
    obtain ⟨sx, h1, rfl⟩ := Option.map_eq_some_iff.1 hc
    refine wpIn_block (swp_sound x sx h1 hsc T U _ _ ?_ β fr σ n a w hT hS R h)
    intro e β fr σ n a w hT hS R h
    cases e with
    | normal => exact hQ .normal β fr σ n a w hT hS R h
    | exit id' =>
      simp only [blockK] at h
      simp only [SExit.conv, Exit.inBlock]
      split
      · rename_i e; rw [if_pos e] at h; exact hQ .normal β fr σ n a w hT hS R h
      · rename_i e; rw [if_neg e] at h; exact hQ (.exit id') β fr σ n a w hT hS R h
    | goto l => exact hQ (.goto l) β fr σ n a w hT hS R h
    | ret => exact hQ .ret β fr σ n a w hT hS R h
    | pan v => exact hQ (.pan v) β fr σ n a w hT hS R h
  | .loop x, sc, hc, hsc, T, U, Q, Q', hQ, β, fr, σ, n, a, w, hT, hS, R, h => by
    obtain ⟨sx, h1, rfl⟩ := Option.map_eq_some_iff.1 hc
    have R0 : SRel N w0 M0 β0 ds β (emb fr (liveOf X sx) (modsOf sx) ((liveOf X sx).map fr)) σ (Fn T U n) a w := emb_map R
    have round : ∀ (K : List AV → Hp → Nat → Prop) (J : Act → World → Prop), (∀ β s' σ n' a w, T ≤ n' → n ≤ n' → a.tmps.size = S → s'.length = ((liveOf X sx).map fr).length → SRel N w0 M0 β0 ds β (emb fr (liveOf X sx) (modsOf sx) s') σ (Fn T U n') a w → K s' σ n' → J a w) →
        ∀ β s' σ n' a w, T ≤ n' → n ≤ n' → a.tmps.size = S → s'.length = ((liveOf X sx).map fr).length → SRel N w0 M0 β0 ds β (emb fr (liveOf X sx) (modsOf sx) s') σ (Fn T U n') a w →
        swp P sx (thenK (fun fr' => K ((liveOf X sx).map fr')) Q) (emb fr (liveOf X sx) (modsOf sx) s') σ n' → x.wpIn (FW rr) 0 P (Exit.then J Q') a w := by
      intro K J hKJ β s' σ n' a w hT' hn hS hs R h
      have h' := swp_mono sx (thenK (fun fr' => K ((liveOf X sx).map fr')) Q) (fun e => match e with | .pan v => Q (.pan v) | .normal => Keep (modsOf sx) (emb fr (liveOf X sx) (modsOf sx) s') (fun fr' => K ((liveOf X sx).map fr')) | e => Q e) (modsOf sx) (emb fr (liveOf X sx) (modsOf sx) s') (modsW_of x sx h1) (fun v fr σ n h => h) (fun e fr σ n he hq ha => by
        cases e with
        | normal => exact ⟨hq, ha⟩
        | pan v => exact absurd rfl (he v)
        | exit id => exact hq
        | goto l => exact hq
        | ret => exact hq) _ σ n' (fun t _ => rfl) h
      refine swp_sound x sx h1 hsc n (fun i => U i ∧ i < T) _ (Exit.then J Q') ?_ β _ σ n' a w hn hS (R.free (fun i hi => (fn_up hT i).1 hi)) h'
      intro e β fr1 σ n1 a w hn1 hS R h
      have R := R.free (fun i hi => (fn_up hT i).2 hi)
      cases e with
      | normal => exact hKJ β _ σ n1 a w (by omega) hn1 hS (by simp) (emb_at R h.2) h.1
      | exit id => exact hQ (.exit id) β fr1 σ n1 a w (by omega) hS R h
      | goto l => exact hQ (.goto l) β fr1 σ n1 a w (by omega) hS R h
      | ret => exact hQ .ret β fr1 σ n1 a w (by omega) hS R h
      | pan v => exact hQ (.pan v) β fr1 σ n1 a w (by omega) hS R h
    obtain ⟨J, ⟨m0, hm0⟩, hJ⟩ := loop_sound (c := x) (W := fun J => Exit.then J Q') (S := S) round hT hS R0 h
    refine wpIn_loop (fun a w => ∃ m, J m a w) (fun a w => leastOf (fun m => J m a w)) ⟨m0, hm0⟩ ?_
    intro a w hjm
    refine wpIn_mono (hJ _ a w (leastOf_spec hjm).1) ?_
    intro e a' w' hq
    cases e <;> first
      | exact hq
      | (obtain ⟨m', hlt, hj⟩ := hq
         exact ⟨⟨m', hj⟩, Nat.lt_of_le_of_lt ((leastOf_spec ⟨m', hj⟩).2 m' hj) hlt⟩)
  | .scope (.seq (.label l) x), sc, hc, hsc, T, U, Q, Q', hQ, β, fr, σ, n, a, w, hT, hS, R, h => by
    have hrr : rr = none := hsc.resolve_right (by simp [noScope])
    obtain ⟨sx, h1, rfl⟩ := Option.map_eq_some_iff.1 hc
    have R0 : SRel N w0 M0 β0 ds β (emb fr (liveOf X sx) (modsOf sx) ((liveOf X sx).map fr)) σ (Fn T U n) a w := emb_map R
    have round : ∀ (K : List AV → Hp → Nat → Prop) (J : Act → World → Prop), (∀ β s' σ n' a w, T ≤ n' → n ≤ n' → a.tmps.size = S → s'.length = ((liveOf X sx).map fr).length → SRel N w0 M0 β0 ds β (emb fr (liveOf X sx) (modsOf sx) s') σ (Fn T U n') a w → K s' σ n' → J a w) →
        ∀ β s' σ n' a w, T ≤ n' → n ≤ n' → a.tmps.size = S → s'.length = ((liveOf X sx).map fr).length → SRel N w0 M0 β0 ds β (emb fr (liveOf X sx) (modsOf sx) s') σ (Fn T U n') a w →
        swp P sx (gotoK l (fun fr' => K ((liveOf X sx).map fr')) Q) (emb fr (liveOf X sx) (modsOf sx) s') σ n' → x.wpIn (FW rr) 0 P (Exit.jump l J Q') a w := by
      intro K J hKJ β s' σ n' a w hT' hn hS hs R h
      have h' := swp_mono sx (gotoK l (fun fr' => K ((liveOf X sx).map fr')) Q) (fun e => match e with | .pan v => Q (.pan v) | .goto l' => if l' = l then Keep (modsOf sx) (emb fr (liveOf X sx) (modsOf sx) s') (fun fr' => K ((liveOf X sx).map fr')) else (fun _ _ _ => False) | e => Q e) (modsOf sx) (emb fr (liveOf X sx) (modsOf sx) s') (modsW_of x sx h1) (fun v fr σ n h => h) (fun e fr σ n he hq ha => by
        cases e with
        | normal => exact hq
        | pan v => exact absurd rfl (he v)
        | exit id => exact hq
        | goto l' =>
          simp only [gotoK] at hq ⊢
          split at hq
          · rename_i e; rw [if_pos e]; exact ⟨hq, ha⟩
          · exact hq.elim
        | ret => exact hq) _ σ n' (fun t _ => rfl) h
      refine swp_sound x sx h1 (.inl hrr) n (fun i => U i ∧ i < T) _ (Exit.jump l J Q') ?_ β _ σ n' a w hn hS (R.free (fun i hi => (fn_up hT i).1 hi)) h'
      intro e β fr1 σ n1 a w hn1 hS R hh
      clear h
      have R := R.free (fun i hi => (fn_up hT i).2 hi)
      cases e with
      | normal => exact hQ .normal β fr1 σ n1 a w (by omega) hS R hh
      | exit id => exact hQ (.exit id) β fr1 σ n1 a w (by omega) hS R hh
      | goto l' =>
        simp only at hh
        simp only [SExit.conv, Exit.jump]
        by_cases hl : l' = l
        · rw [if_pos hl] at hh
          subst hl
          exact ⟨rfl, hKJ β _ σ n1 a w (by omega) hn1 hS (by simp) (emb_at R hh.2) hh.1⟩
        · rw [if_neg hl] at hh
          exact hh.elim
      | ret => exact hQ .ret β fr1 σ n1 a w (by omega) hS R hh
      | pan v => exact hQ (.pan v) β fr1 σ n1 a w (by omega) hS R hh
    obtain ⟨J, ⟨m0, hm0⟩, hJ⟩ := loop_sound (c := x) (W := fun J => Exit.jump l J Q') (S := S) round hT hS R0 h
    exact scope_FW hrr J m0 hm0 hJ
  | .exit id, sc, hc, hsc, T, U, Q, Q', hQ, β, fr, σ, n, a, w, hT, hS, R, h => by
    cases hc
    exact wpIn_exit (hQ (.exit id) _ _ _ _ _ _ hT hS R h)
  | .goto l, sc, hc, hsc, T, U, Q, Q', hQ, β, fr, σ, n, a, w, hT, hS, R, h => by
    cases hc
    exact wpIn_goto (hQ (.goto l) _ _ _ _ _ _ hT hS R h)
  | .ret, sc, hc, hsc, T, U, Q, Q', hQ, β, fr, σ, n, a, w, hT, hS, R, h => by
    cases hc
    exact wpIn_ret (hQ .ret _ _ _ _ _ _ hT hS R h)
theorem swp_soundW {S : Nat} {X : List Nat} (c : Code) (sc : SCode) (hc : cmpC P S X c = some sc) (T : Nat) (U : Nat → Prop) (Q : Ks) (Q' : Exit → Act → World → Prop)
    (hQ : ∀ e β fr σ n a w, T ≤ n → a.tmps.size = S → SRel N w0 M0 β0 ds β fr σ (Fn T U n) a w → Q e fr σ n → Q' e.conv a w)
    (β : Nat → Option Nat) (fr : Regs) (σ : Hp) (n : Nat) (a : Act) (w : World) (hT : T ≤ n) (hS : a.tmps.size = S) (R : SRel N w0 M0 β0 ds β fr σ (Fn T U n) a w) (h : swp P sc Q fr σ n) : c.wp P Q' a w :=
  wpIn_wide.1 (swp_sound (rr := none) c sc hc (.inl rfl) T U Q Q' hQ β fr σ n a w hT hS R h)
end
end Go.Proofs.Ytlhnncmflnjinaa.Am

set_option linter.unusedSimpArgs false
set_option linter.unusedVariables false
namespace Go.Proofs.Ytlhnncmflnjinaa.Am
open Go Go.RowKit

/-- where a result stands: in a slot, or behind one -/
inductive RV where
  | t (i : Nat)
  | c (i : Nat) (m : Option Nat)
def resT (P : Program) : List ResultVar → Option (List RV)
  | [] => some []
  | .tmp t :: l => (resT P l).map (.t t :: ·)
  | .cell a ty :: l => match aggT P ty, resT P l with
    | some m, some r => some (.c a m :: r)
    | _, _ => none
def resV (σ : Hp) (fr : Regs) : List RV → Option (List AV)
  | [] => some []
  | .t i :: l => (resV σ fr l).map (fr i :: ·)
  | .c i m :: l => match aLd σ m (fr i), resV σ fr l with
    | some v, some r => some (v :: r)
    | _, _ => none
/-- one result is itself, several are a tuple -/
def tupA : List AV → AV
  | [x] => x
  | l => .tp l
def retC (σ : Hp) (fr : Regs) : List RV → (List AV → Prop) → Prop
  | [], K => K []
  | .t i :: l, K => retC σ fr l (fun r => K (fr i :: r))
  | .c i m :: l, K => bindP (aLd σ m (fr i)) (fun v => retC σ fr l (fun r => K (v :: r)))
theorem retC_of {σ : Hp} {fr : Regs} : ∀ {l : List RV} {K : List AV → Prop}, retC σ fr l K → ∃ vs, resV σ fr l = some vs ∧ K vs
  | [], K, h => ⟨[], rfl, h⟩
  | .t i :: l, K, h => by
    obtain ⟨vs, h1, h2⟩ := retC_of (l := l) h
    exact ⟨fr i :: vs, by simp [resV, h1], h2⟩
  | .c i m :: l, K, h => by
    simp only [retC] at h
    unfold bindP at h
    split at h
    · rename_i v hv
      obtain ⟨vs, h1, h2⟩ := retC_of (l := l) h
      exact ⟨v :: vs, by simp [resV, h1, hv], h2⟩
    · exact h.elim
def retQ (rs : List RV) (R : AEnd → Hp → Nat → Prop) : Ks
  | .normal => fun fr σ n => retC σ fr rs (fun vs => R (.ret (tupA vs)) σ n)
  | .ret => fun fr σ n => retC σ fr rs (fun vs => R (.ret (tupA vs)) σ n)
  | .pan v => fun _ σ n => R (.pan v) σ n
  | .exit _ => fun _ _ _ => False
  | .goto _ => fun _ _ _ => False
def entry (args : List AV) : Regs := fun i => args.getD i (.tp [])
section
variable {P : Program} {N : Nat → Prop} {w0 : World} {M0 : Nat → Prop} {β0 : Nat → Option Nat} {ds : List Deferred} {β : Nat → Option Nat} {fr : Regs} {σ : Hp} {F : Nat → Prop} {a : Act} {w : World}
theorem run_res (R : SRel N w0 M0 β0 ds β fr σ F a w) (g : ResultVar → Sem Value) (hg1 : ∀ t, g (.tmp t) = pure (a.tmps.getD t undef)) (hg2 : ∀ i ty, g (.cell i ty) = (do loadVar ty (← asAddr (a.tmps.getD i undef)))) : ∀ (l : List ResultVar) (rs : List RV) (vs : List AV), resT P l = some rs → resV σ fr rs = some vs →
    ∃ us : List Value, (l.mapM g).run P w = .ok us w ∧ us.length = vs.length ∧ ∀ (i : Nat) (u : Value) (z : AV), us[i]? = some u → vs[i]? = some z → Rel (live N β σ) w β u z
  | [], rs, vs, h1, h2 => by
    simp only [resT, Option.some.injEq] at h1; subst h1
    simp only [resV, Option.some.injEq] at h2; subst h2
    exact ⟨[], rfl, rfl, fun i u z h => by simp at h⟩
  | .tmp t :: l, rs, vs, h1, h2 => by
    simp only [resT] at h1
    obtain ⟨rs', h3, rfl⟩ := Option.map_eq_some_iff.1 h1
    simp only [resV] at h2
    obtain ⟨vs', h4, rfl⟩ := Option.map_eq_some_iff.1 h2
    obtain ⟨us, e1, e2, e3⟩ := run_res R g hg1 hg2 l rs' vs' h3 h4
    refine ⟨a.tmps.getD t undef :: us, ?_, by simp [e2], fun i u z hu hz => ?_⟩
    · rw [List.mapM_cons, hg1]
      simp only [Sem.run_bind, e1, pure_bind, Result.andThen_ok]
      rfl
    · cases i with
      | zero =>
        simp only [List.getElem?_cons_zero, Option.some.injEq] at hu hz
        subst hu hz; exact R.regs t
      | succ i => exact e3 i u z (by simpa using hu) (by simpa using hz)
  | .cell t ty :: l, rs, vs, h1, h2 => by
    simp only [resT] at h1
    split at h1
    · rename_i m r hm h3
      cases h1
      simp only [resV] at h2
      split at h2
      · rename_i v vs' hv h4
        cases h2
        obtain ⟨us, e1, e2, e3⟩ := run_res R g hg1 hg2 l r vs' h3 h4
        obtain ⟨u, hu, hur⟩ := good_ld (P := P) R (o := { (default : Oper) with op := .load ty (.tmp t) }) (x := .tmp t) rfl hm hv
        refine ⟨u :: us, ?_, by simp [e2], fun i u' z hu' hz => ?_⟩
        · have hl : (do loadVar ty (← asAddr (a.tmps.getD t undef)) : Sem Value).run P w = .ok u w := by
            have hrt := R.regs t
            unfold aLd at hv
            generalize hxt : fr t = x at hv hrt
            cases x <;> simp only [reduceCtorEq] at hv
            all_goals
              generalize hav : a.tmps.getD t undef = av at hrt
              cases hrt
              simp only [execOp, Act.eval, hav, Instr.loadAt, Instr.sureAddr] at hu
              simp only [Sem.run_bind, asAddr]
              revert hu
              simp
              generalize (loadVar ty _).run P w = q
              intro hu
              cases q with
              | ok v' w' => simp at hu ⊢; exact hu
              | halt h w' => simp at hu
          rw [List.mapM_cons, hg2]
          simp only [Sem.run_bind] at hl ⊢
          rw [hl]
          simp only [Result.andThen_ok, e1]
          rfl
        · cases i with
          | zero => simp at hu' hz; subst hu' hz; exact hur
          | succ i => exact e3 i u' z (by simpa using hu') (by simpa using hz)
      · cases h2
    · cases h1
def resG (tmps : Array Value) : ResultVar → Sem Value
  | .tmp t => pure (tmps.getD t undef)
  | .cell i t => do loadVar t (← asAddr (tmps.getD i undef))
theorem results_eq (fn : Func) (tmps : Array Value) : results fn tmps = (do
    let vs ← fn.results.mapM (resG tmps)
    pure (if h : vs.size = 1 then vs[0] else .tuple vs)) := by
  first
    | rfl
    | (unfold results
       congr 1)
theorem results_run (R : SRel N w0 M0 β0 ds β fr σ F a w) {fn : Func} {rs : List RV} {vs : List AV} (h1 : resT P fn.results.toList = some rs) (h2 : resV σ fr rs = some vs) : ∃ v, (results fn a.tmps).run P w = .ok v w ∧ Rel (live N β σ) w β v (tupA vs) := by
  obtain ⟨us, e1, e2, e3⟩ := run_res R (P := P) (resG a.tmps) (fun _ => rfl) (fun _ _ => rfl) _ rs vs h1 h2
  refine ⟨if h : us.toArray.size = 1 then us.toArray[0] else .tuple us.toArray, ?_, ?_⟩
  · rw [results_eq, Array.mapM_eq_mapM_toList]
    simp only [Sem.run_bind, Sem.run_map]
    rw [e1]
    simp only [Result.andThen_ok]
    rfl
  · match us, vs, e2, e3 with
    | [], [], _, _ => exact .tp #[] [] rfl (fun i u z h _ => by simp at h)
    | [u], [z], _, e3 => exact e3 0 u z rfl rfl
    | u :: u' :: us, z :: z' :: vs, e2, e3 =>
      simp only [List.size_toArray, List.length_cons, show ¬ (us.length + 1 + 1 = 1) by omega, dite_false]
      exact .tp _ _ (by simpa using e2) (fun i u y hu hy => e3 i u y (by rw [List.getElem?_toArray] at hu; exact hu) hy)
/-- a contract out of code -/
theorem conH_of {f : FuncId} {fn : Func} {sc : SCode} {args : List AV} {n : Nat} {R : AEnd → Hp → Nat → Prop} (rs : List RV) (hf : P.funcs[f]? = some fn) (X : List Nat) (hc : fn.body.bind (cmpC P fn.ntmps X) = some sc) (hgo : goFn P f = true) (hS : decide (args.length ≤ fn.ntmps) = true)
    (hres : resT P fn.results.toList = some rs) (h : swp P sc (retQ rs R) (entry args) σ n) : ConH P f args σ n R := by
  obtain ⟨c, hb, hc⟩ := Option.bind_eq_some_iff.1 hc
  have hS := of_decide_eq_true hS
  refine ⟨hgo, fun N T U β w vs hT hN H hargs => ?_⟩
  have hsz : vs.size = args.length := hargs.1
  refine calls_of_wp hf hb ?_
  have R0 : SRel N w (own β σ) β [] β (entry args) σ (Fn n (fun i => U i ∧ i < T) n) { tmps := vs ++ Array.replicate (fn.ntmps - vs.size) undef, defers := [] } w := by
    refine ⟨⟨fun i hi => H.dom i ((fn_up hT i).1 hi), H.off, H.inj, H.blk, H.map, H.lp, H.df⟩, fun t => ?_, Fr.refl _ _, fun b h _ => h, hN, rfl, fun _ _ h => h⟩
    unfold entry
    by_cases ht : t < args.length
    · have e1 : (vs ++ Array.replicate (fn.ntmps - vs.size) undef).getD t undef = vs[t] := by
        rw [Array.getD_eq_getD_getElem?, Array.getElem?_append_left (by omega)]; simp [hsz, ht]
      have e2 : args.getD t (.tp []) = args[t] := by simp [List.getD, ht]
      simp only [e1, e2]
      exact hargs.2 t vs[t] args[t] (by simp [hsz, ht]) (by simp [ht])
    · have e1 : (vs ++ Array.replicate (fn.ntmps - vs.size) undef).getD t undef = undef := by
        rw [Array.getD_eq_getD_getElem?, Array.getElem?_append_right (by omega), Array.getElem?_replicate]
        split <;> rfl
      have e2 : args.getD t (.tp []) = .tp [] := by simp [List.getD, List.getElem?_eq_none (Nat.le_of_not_lt ht)]
      simp only [e1, e2]
      exact .tp #[] [] rfl (fun i u z h _ => by simp at h)
  have hsize : (vs ++ Array.replicate (fn.ntmps - vs.size) undef).size = fn.ntmps := by simp; omega
  refine swp_soundW c sc hc n (fun i => U i ∧ i < T) (retQ rs R) _ ?_ β _ σ n _ w (Nat.le_refl n) hsize R0 h
  have fin : ∀ β' fr σ' n' a w', n ≤ n' → SRel N w (own β σ) β [] β' fr σ' (Fn n (fun i => U i ∧ i < T) n') a w' → retC σ' fr rs (fun vs => R (.ret (tupA vs)) σ' n') →
      a.defers = [] ∧ ∃ v, (results fn a.tmps).run P w' = .ok v w' ∧ ∃ β' r σ' n', R r σ' n' ∧ n ≤ n' ∧ Leaves N β σ w (.returned v) w' β' σ' (Fn T U n') r := by
    intro β' fr σ' n' a w' hn Rf h
    obtain ⟨vs, hv, h⟩ := retC_of h
    obtain ⟨v, e1, e2⟩ := results_run Rf hres hv
    exact ⟨Rf.defers, v, e1, β', _, σ', n', h, hn, Rf.ext, (Rf.free (fun i hi => (fn_up hT i).2 hi)).heap, e2, Rf.frame, Rf.old⟩
  intro e β' fr σ' n' a w' hn _ Rf h
  cases e with
  | normal => exact fin β' fr σ' n' a w' hn Rf h
  | ret => exact fin β' fr σ' n' a w' hn Rf h
  | exit id => exact h.elim
  | goto l => exact h.elim
  | pan v => exact ⟨Rf.defers, β', _, σ', n', h, hn, Rf.ext, (Rf.free (fun i hi => (fn_up hT i).2 hi)).heap, rfl, Rf.frame, Rf.old⟩
theorem ConH.mono {f : FuncId} {args : List AV} {n : Nat} {R R' : AEnd → Hp → Nat → Prop} (h : ConH P f args σ n R) (hr : ∀ r σ' n', n ≤ n' → R r σ' n' → R' r σ' n') : ConH P f args σ n R' :=
  ⟨h.1, fun N T U β w vs hT hN H hargs => (h.2 N T U β w vs hT hN H hargs).mono fun _ _ ⟨β', r, σ', n', a, b, c⟩ => ⟨β', r, σ', n', hr _ _ _ b a, b, c⟩⟩
/-- how a call ends whose result nobody writes -/
def RC (r0 : AEnd) : AEnd → Hp → Nat → Prop := fun r σ _ => match r with
  | .ret v => (match brw σ 6 v with
    | some (c, _) => r0 = .ret c
    | none => False)
  | .pan x => r0 = .pan x
theorem con_of {f : FuncId} {args : List AV} {r0 : AEnd} (h : ConH P f args (fun _ => none) 0 (RC r0)) : Con P f args r0 := by
  refine ⟨h.1, fun M w vs hM hargs => ?_⟩
  have hl : ∀ b, live M nob (fun _ => none) b ↔ M b := fun b => ⟨fun h => h.elim (fun h => h) (fun ⟨i, x, h, _⟩ => by cases h), .inl⟩
  refine (h.2 M 0 (fun _ => False) nob w vs (Nat.le_refl _) ⟨hM.1, hM.2.1, (fun ⟨i, x, h, _⟩ => by cases h), hM.2.2.2⟩ ⟨fun _ _ => ⟨rfl, rfl⟩, (by intro i x b h; cases h), (by intro i j b h; cases h), (by intro i x h; cases h), (by intro i es wr h; cases h), (by intro i L fr S st pe wr h; cases h), (by intro i o wr h; cases h)⟩ ⟨hargs.1, fun i u z hu hz => (hargs.2 i u z hu hz).sub (fun b hb => (hl b).1 hb)⟩).mono ?_
  rintro e w' ⟨β', r, σ', n', hr, _, h1, h2, h3, h4, h5⟩
  refine ⟨?_, ⟨h4.os, h4.tape, h4.output, h4.size, fun b hb _ => h4.block b hb (fun ⟨i, x, h, _⟩ => by cases h), h4.shape⟩⟩
  cases r with
  | pan x =>
    simp only [RC] at hr
    subst hr
    cases e <;> exact h3
  | ret v =>
    simp only [RC] at hr
    split at hr
    · rename_i c I hb
      subst hr
      cases e with
      | returned u => exact brw_rel h2 (fun b hb => .inl hb) 6 v c I u hb h3 (fun i hi b hb' => by
          obtain ⟨x, hx⟩ := Option.isSome_iff_exists.1 (brw_some σ' 6 v c I hb i hi)
          exact h2.off i x b hx hb')
      | panicked ch => exact h3.elim
      | outgrown => exact h3.elim
    · exact hr.elim
/-- the same value under other names -/
inductive Rn (ρ : List (Nat × Nat)) : AV → AV → Prop
  | same (a : AV) : Rn ρ a a
  | ow (j i k off len : Nat) (h : (j, i) ∈ ρ) : Rn ρ (.ow j k off len) (.ow i k off len)
  | rf (j i k r c : Nat) (h : (j, i) ∈ ρ) : Rn ρ (.rf j k r c) (.rf i k r c)
  | mp (j i : Nat) (h : (j, i) ∈ ρ) : Rn ρ (.mp j) (.mp i)
  | ag (l l' : List AV) (hn : l.length = l'.length) (h : ∀ (q : Nat) (x y : AV), l[q]? = some x → l'[q]? = some y → Rn ρ x y) : Rn ρ (.ag l) (.ag l')
  | tp (l l' : List AV) (hn : l.length = l'.length) (h : ∀ (q : Nat) (x y : AV), l[q]? = some x → l'[q]? = some y → Rn ρ x y) : Rn ρ (.tp l) (.tp l')
theorem Rn.sound {ρ : List (Nat × Nat)} {x y : AV} (h : Rn ρ x y) {M : Nat → Prop} (hρ : ∀ p ∈ ρ, ∀ b, β p.1 = some b → β p.2 = some b) : ∀ {v : Value}, Rel M w β v x → Rel M w β v y := by
  induction h with
  | same a => exact fun hr => hr
  | ow j i k off len h =>
    intro v hr
    cases hr with
    | ow _ _ _ _ cap b e n hb hl hs hn => exact .ow i k off len cap b e n (hρ _ h b hb) hl hs hn
    | ow0 A => exact .ow0 A i k
  | rf j i k r c h =>
    intro v hr
    cases hr with
    | rf _ _ _ _ b hb => exact .rf i k r c b (hρ _ h b hb)
  | mp j i h =>
    intro v hr
    cases hr with
    | mp _ b hb => exact .mp i b (hρ _ h b hb)
  | ag l l' hn h ih =>
    intro v hr
    cases hr with
    | ag vs _ hn' hr => exact .ag vs l' (hn'.trans hn) (fun i u z hu hz => by
        have hlt : i < l.length := by rw [hn]; exact (List.getElem?_eq_some_iff.1 hz).1
        exact ih i l[i] z (List.getElem?_eq_getElem hlt) hz (hr i u _ hu (List.getElem?_eq_getElem hlt)))
  | tp l l' hn h ih =>
    intro v hr
    cases hr with
    | tp vs _ hn' hr => exact .tp vs l' (hn'.trans hn) (fun i u z hu hz => by
        have hlt : i < l.length := by rw [hn]; exact (List.getElem?_eq_some_iff.1 hz).1
        exact ih i l[i] z (List.getElem?_eq_getElem hlt) hz (hr i u _ hu (List.getElem?_eq_getElem hlt)))
/-- what a call leaves, in other words: id: names from here on, 16, are free for it -/
inductive Wn (id : Nat) : AEnd → Hp → List (Nat × Nat) → List Nat → AEnd → Hp → Prop
  | done (r : AEnd) (σ : Hp) (ρ : List (Nat × Nat)) (us : List Nat) : Wn id r σ ρ us r σ
  | less (r : AEnd) (σ : Hp) (ρ : List (Nat × Nat)) (us : List Nat) (σ' : Hp) (r2 : AEnd) (σ2 : Hp) (h : ∀ i x, σ' i = some x → ∃ y, σ i = some y ∧ Ob.le x y) (h2 : Wn id r σ' ρ us r2 σ2) : Wn id r σ ρ us r2 σ2
  | move (r : AEnd) (σ : Hp) (ρ : List (Nat × Nat)) (us : List Nat) (j i : Nat) (x : Ob) (r2 : AEnd) (σ2 : Hp) (hx : σ j = some x) (hi : i < 16) (hu : i ∉ us) (hj : ∀ q, q < 16 → j ≠ id + q)
      (h2 : Wn id r (upd (upd σ j none) (id + i) (some x)) ((j, id + i) :: ρ) (i :: us) r2 σ2) : Wn id r σ ρ us r2 σ2
  | cells (r : AEnd) (σ : Hp) (ρ : List (Nat × Nat)) (us : List Nat) (i k : Nat) (rows rows' : List (List AV)) (wr : Bool) (r2 : AEnd) (σ2 : Hp) (hx : σ i = some (.c ⟨k, rows, wr, false⟩)) (hn : rows.length = rows'.length)
      (hr : ∀ (p : Nat) (x y : List AV), rows[p]? = some x → rows'[p]? = some y → x.length = y.length ∧ ∀ (q : Nat) (a b : AV), x[q]? = some a → y[q]? = some b → Rn ρ a b)
      (h2 : Wn id r (upd σ i (some (.c ⟨k, rows', wr, false⟩))) ρ us r2 σ2) : Wn id r σ ρ us r2 σ2
  | ret (v v' : AV) (σ : Hp) (ρ : List (Nat × Nat)) (us : List Nat) (r2 : AEnd) (σ2 : Hp) (h : Rn ρ v v') (h2 : Wn id (.ret v') σ ρ us r2 σ2) : Wn id (.ret v) σ ρ us r2 σ2
theorem Leaves.move {e : Ending} {w' : World} {β' : Nat → Option Nat} {σ' : Hp} {F' : Nat → Prop} {r : AEnd} (hN : Aw N (own β σ) w) (h : Leaves N β σ w e w' β' σ' F' r) {j i : Nat} {x : Ob} {b : Nat} (hx : σ' j = some x) (hb : β' j = some b) (hi : F' i) (hne : j ≠ i) :
    Leaves N β σ w e w' (upd β' i (some b)) (upd (upd σ' j none) i (some x)) (fun q => F' q ∧ q ≠ i) r := by
  obtain ⟨h1, h2, h3, h4, h5⟩ := h
  have R : SRel N w (own β σ) β [] β' (fun _ => .tp []) σ' F' { tmps := #[], defers := [] } w' := ⟨h2, fun t => .tp #[] [] rfl (fun i u z h _ => by simp at h), h4, h5, hN, rfl, h1⟩
  obtain ⟨R', up⟩ := R.move hx hb hi hne
  refine ⟨R'.ext, R'.heap, ?_, R'.frame, R'.old⟩
  cases e <;> cases r <;> first | exact h3.elim | exact up h3 | exact h3
theorem Leaves.less {e : Ending} {w' : World} {β' : Nat → Option Nat} {σ' σ2 : Hp} {F' : Nat → Prop} {r : AEnd} (h : Leaves N β σ w e w' β' σ' F' r) (hl : ∀ i x, σ2 i = some x → ∃ y, σ' i = some y ∧ Ob.le x y) : Leaves N β σ w e w' β' σ2 F' r := by
  obtain ⟨h1, h2, h3, h4, h5⟩ := h
  obtain ⟨g1, g2, g3⟩ := h2.less hl
  refine ⟨h1, g1, ?_, h4, fun b hb => h5 b (g2 b hb)⟩
  cases e <;> cases r <;> first | exact h3.elim | exact g3 h3 | exact h3
/-- a block's cells, under other names -/
theorem HRel.cells' {ρ : List (Nat × Nat)} (H : HRel N β σ F w) (hρ : ∀ p ∈ ρ, ∀ b, β p.1 = some b → β p.2 = some b) {i k : Nat} {rows rows' : List (List AV)} {wr : Bool} (hx : σ i = some (.c ⟨k, rows, wr, false⟩)) (hn : rows.length = rows'.length)
    (hr : ∀ (p : Nat) (x y : List AV), rows[p]? = some x → rows'[p]? = some y → x.length = y.length ∧ ∀ (q : Nat) (a b : AV), x[q]? = some a → y[q]? = some b → Rn ρ a b) :
    HRel N β (upd σ i (some (.c ⟨k, rows', wr, false⟩))) F w ∧ (∀ b, live N β (upd σ i (some (.c ⟨k, rows', wr, false⟩))) b ↔ live N β σ b) := by
  have hown : ∀ b, own β (upd σ i (some (.c ⟨k, rows', wr, false⟩))) b ↔ own β σ b := by
    intro b
    constructor
    · rintro ⟨j, x, h1, h2, h3⟩
      by_cases e : j = i
      · subst e; rw [upd_same] at h1; cases h1; exact ⟨j, _, hx, h2, h3⟩
      · rw [upd_ne _ _ e] at h1; exact ⟨j, x, h1, h2, h3⟩
    · rintro ⟨j, x, h1, h2, h3⟩
      by_cases e : j = i
      · subst e; rw [hx] at h1; cases h1; exact ⟨j, .c ⟨k, rows', wr, false⟩, by rw [upd_same], h2, h3⟩
      · exact ⟨j, x, by rw [upd_ne _ _ e]; exact h1, h2, h3⟩
  have hlv : ∀ b, live N β (upd σ i (some (.c ⟨k, rows', wr, false⟩))) b ↔ live N β σ b := fun b => or_congr Iff.rfl (hown b)
  have sub : ∀ {β' : Nat → Option Nat} {v : Value} {a : AV}, Rel (live N β σ) w β' v a → Rel (live N β (upd σ i (some (.c ⟨k, rows', wr, false⟩)))) w β' v a := fun h => h.sub (fun b hb => (hlv b).1 hb)
  have hs : ∀ j, ((upd σ i (some (.c ⟨k, rows', wr, false⟩))) j).isSome → (σ j).isSome := by
    intro j h
    by_cases e : j = i
    · subst e; simp [hx]
    · rwa [upd_ne _ _ e] at h
  have hne : ∀ {j : Nat} {x : Ob}, (upd σ i (some (.c ⟨k, rows', wr, false⟩))) j = some x → (∀ y, x ≠ .c y) → σ j = some x := by
    intro j x hx hx'
    by_cases e : j = i
    · subst e; rw [upd_same] at hx; cases hx; exact absurd rfl (hx' _)
    · rw [upd_ne _ _ e] at hx; exact hx
  refine ⟨⟨fun j hj => ?_, fun j x b hj hb => ?_, fun j1 j2 b h1 h2 s1 s2 => H.inj j1 j2 b h1 h2 (hs j1 s1) (hs j2 s2), fun j x hj => ?_, fun j es wr' hj => ?_, fun j L fr S st pe wr hj => (let ⟨b, tm, D, h1, h2⟩ := H.lp j L fr S st pe wr (hne hj (fun _ h => by cases h)); ⟨b, tm, D, h1, h2.1, h2.2.1, h2.2.2.1, fun t => sub (h2.2.2.2 t)⟩), fun j o wr hj => H.df j o wr (hne hj (fun _ h => by cases h))⟩, hlv⟩
  · have hne : j ≠ i := fun e => by subst e; rw [(H.dom j hj).2] at hx; cases hx
    rw [upd_ne _ _ hne]; exact H.dom j hj
  · by_cases e : j = i
    · subst e; exact H.off j _ b hx hb
    · rw [upd_ne _ _ e] at hj; exact H.off j x b hj hb
  · by_cases e : j = i
    · subst e
      rw [upd_same] at hj; cases hj
      rcases H.blk j _ hx with ⟨h1, h2⟩ | ⟨b, cells, ee, h1, h2⟩
      · refine .inl ⟨h1, ?_⟩
        simp only at h2
        rw [h2] at hn
        exact List.eq_nil_of_length_eq_zero hn.symm
      · refine .inr ⟨b, cells, ee, h1, h2.1, by have := h2.2.1; simp only at this ⊢; rw [← hn]; exact this, fun r' hr' => ?_, by have := h2.2.2.2.1; simp only at this ⊢; omega, fun p q r' a' hp hq => ?_⟩
        · obtain ⟨p, hp⟩ := List.mem_iff_getElem?.1 hr'
          have hlt : p < rows.length := by rw [hn]; exact (List.getElem?_eq_some_iff.1 hp).1
          rw [← (hr p rows[p] r' (List.getElem?_eq_getElem hlt) hp).1]
          exact h2.2.2.1 _ (List.getElem_mem hlt)
        · have hlt : p < rows.length := by rw [hn]; exact (List.getElem?_eq_some_iff.1 hp).1
          obtain ⟨hl, hc⟩ := hr p rows[p] r' (List.getElem?_eq_getElem hlt) hp
          have hql : q < rows[p].length := by rw [hl]; exact (List.getElem?_eq_some_iff.1 hq).1
          obtain ⟨u, hu, hrel⟩ := h2.2.2.2.2 p q rows[p] rows[p][q] (List.getElem?_eq_getElem hlt) (List.getElem?_eq_getElem hql)
          refine ⟨u, hu, ?_⟩
          have hrel : Rel (live N β σ) w β u rows[p][q] := hrel
          exact sub ((hc q _ a' (List.getElem?_eq_getElem hql) hq).sound hρ hrel)
    · rw [upd_ne _ _ e] at hj
      rcases H.blk j x hj with h0 | ⟨b, cells, ee, h1, h2⟩
      · exact .inl h0
      · exact .inr ⟨b, cells, ee, h1, h2.1, h2.2.1, h2.2.2.1, h2.2.2.2.1, fun p q r a hp hq => let ⟨u, hu, hr⟩ := h2.2.2.2.2 p q r a hp hq; ⟨u, hu, sub hr⟩⟩
  · by_cases e : j = i
    · subst e; rw [upd_same] at hj; cases hj
    · rw [upd_ne _ _ e] at hj
      obtain ⟨b, ms, cl, h1, h2⟩ := H.map j es wr' hj
      exact ⟨b, ms, cl, h1, h2.1, h2.2.1, fun p e m hp hm => ⟨sub (h2.2.2 p e m hp hm).1, sub (h2.2.2 p e m hp hm).2⟩⟩
theorem Wn.sound {id : Nat} {e : Ending} {w' : World} {us : List Nat} {ρ : List (Nat × Nat)} {r r2 : AEnd} {σ' σ2 : Hp} (hN : Aw N (own β σ) w) (h : Wn id r σ' ρ us r2 σ2) : ∀ {β' : Nat → Option Nat} {F' : Nat → Prop}, (∀ p ∈ ρ, ∀ q, q < 16 → p.1 ≠ id + q) → (∀ p ∈ ρ, ∀ b, β' p.1 = some b → β' p.2 = some b) → (∀ i, i < 16 → i ∉ us → F' (id + i)) →
    Leaves N β σ w e w' β' σ' F' r → ∃ β2, Leaves N β σ w e w' β2 σ2 (fun j => F' j ∧ ¬ (id ≤ j ∧ j < id + 16)) r2 := by
  induction h with
  | done r σ' ρ us =>
    intro β' F' hρ0 hρ hF h
    exact ⟨β', h.1, ⟨fun i hi => h.2.1.dom i hi.1, h.2.1.off, h.2.1.inj, h.2.1.blk, h.2.1.map, h.2.1.lp, h.2.1.df⟩, h.2.2.1, h.2.2.2.1, h.2.2.2.2⟩
  | less r σ' ρ us σ1 r2 σ2 hl h2 ih => exact fun hρ0 hρ hF h => ih hρ0 hρ hF (h.less hl)
  | move r σ' ρ us j i x r2 σ2 hx hi hu hj h2 ih =>
    intro β' F' hρ0 hρ hF h
    have hne : j ≠ id + i := hj i hi
    have hFi := hF i hi hu
    have hβi := (h.2.1.dom _ hFi).1
    have hρ0' : ∀ p ∈ (j, id + i) :: ρ, ∀ q, q < 16 → p.1 ≠ id + q := fun p hp => by
      rcases List.mem_cons.1 hp with rfl | hp
      · exact hj
      · exact hρ0 p hp
    cases hb : β' j with
    | some b =>
      have hm := h.move hN hx hb hFi hne
      obtain ⟨β2, hk⟩ := ih (β' := upd β' (id + i) (some b)) (F' := fun q => F' q ∧ q ≠ id + i) hρ0' (fun p hp b' hb' => by
        rcases List.mem_cons.1 hp with rfl | hp
        · simp only at hb' ⊢
          rw [upd_ne _ _ hne, hb] at hb'
          cases hb'; rw [upd_same]
        · by_cases e1 : p.1 = id + i
          · exact absurd e1 (hρ0 p hp i hi)
          · rw [upd_ne _ _ e1] at hb'
            have := hρ p hp b' hb'
            by_cases e2 : p.2 = id + i
            · rw [e2] at this; rw [hβi] at this; cases this
            · rw [upd_ne _ _ e2]; exact this) (fun q hq hqu => ⟨hF q hq (fun h => hqu (List.mem_cons_of_mem _ h)), fun e => hqu (by rw [show q = i by omega]; exact List.mem_cons_self)⟩) hm
      exact ⟨β2, hk.1, ⟨fun q hq => hk.2.1.dom q ⟨⟨hq.1, fun e => hq.2 ⟨by omega, by omega⟩⟩, hq.2⟩, hk.2.1.off, hk.2.1.inj, hk.2.1.blk, hk.2.1.map, hk.2.1.lp, hk.2.1.df⟩, hk.2.2.1, hk.2.2.2.1, hk.2.2.2.2⟩
    | none =>
      -- rows that are none
      obtain ⟨q1, q2, q3, q4, q5⟩ := h
      cases x with
      | m es wr => obtain ⟨b, _, _, h1, _⟩ := q2.map j es wr hx; rw [hb] at h1; cases h1
      | lp L fr S st pe wr => obtain ⟨b, _, _, h1, _⟩ := q2.lp j _ _ _ _ _ _ hx; rw [hb] at h1; cases h1
      | df o wr => obtain ⟨b, h1, _⟩ := q2.df j _ _ hx; rw [hb] at h1; cases h1
      | c y =>
        obtain ⟨k, rows, wr, cl⟩ := y
        have hrows : rows = [] := by
          rcases q2.blk j _ hx with ⟨_, h2⟩ | ⟨b, _, _, h1, _⟩
          · exact h2
          · rw [hb] at h1; cases h1
        subst hrows
        have R : SRel N w (own β σ) β [] β' (fun _ => .tp []) σ' F' { tmps := #[], defers := [] } w' := ⟨q2, fun t => .tp #[] [] rfl (fun i u z h _ => by simp at h), q4, q5, hN, rfl, q1⟩
        obtain ⟨R1, up1⟩ := R.less (σ' := upd σ' j none) (fun q x hq => by
          by_cases e : q = j
          · subst e; simp at hq
          · rw [upd_ne _ _ e] at hq; exact ⟨x, hq, .refl x⟩)
        obtain ⟨R2, up2⟩ := R1.imagine (id + i) hFi k cl
        obtain ⟨R3, up3⟩ := R2.less (σ' := upd (upd σ' j none) (id + i) (some (.c ⟨k, [], wr, cl⟩))) (fun q x hq => by
          by_cases e : q = id + i
          · subst e
            rw [upd_same] at hq ⊢
            cases hq
            exact ⟨_, rfl, .c _ _ _ _ _ (fun _ => rfl)⟩
          · rw [upd_ne _ _ e] at hq ⊢; exact ⟨x, hq, .refl x⟩)
        obtain ⟨β2, hk⟩ := ih (β' := β') (F' := fun q => F' q ∧ q ≠ id + i) hρ0' (fun p hp b' hb' => by
          rcases List.mem_cons.1 hp with rfl | hp
          · simp only at hb'; rw [hb] at hb'; cases hb'
          · exact hρ p hp b' hb') (fun q hq hqu => ⟨hF q hq (fun h => hqu (List.mem_cons_of_mem _ h)), fun e => hqu (by rw [show q = i by omega]; exact List.mem_cons_self)⟩)
          ⟨q1, R3.heap, by cases e <;> cases r <;> first | exact q3.elim | exact up3 (up2 (up1 q3)) | exact q3, R3.frame, R3.old⟩
        exact ⟨β2, hk.1, ⟨fun q hq => hk.2.1.dom q ⟨⟨hq.1, fun e => hq.2 ⟨by omega, by omega⟩⟩, hq.2⟩, hk.2.1.off, hk.2.1.inj, hk.2.1.blk, hk.2.1.map, hk.2.1.lp, hk.2.1.df⟩, hk.2.2.1, hk.2.2.2.1, hk.2.2.2.2⟩
  | cells r σ' ρ us i k rows rows' wr r2 σ2 hx hn hr h2 ih =>
    intro β' F' hρ0 hρ hF h
    obtain ⟨g1, g2⟩ := h.2.1.cells' hρ hx hn hr
    refine ih hρ0 hρ hF ⟨h.1, g1, ?_, h.2.2.2.1, fun b hb => h.2.2.2.2 b ?_⟩
    · obtain ⟨_, _, h3, _, _⟩ := h
      cases e <;> cases r <;> first | exact h3.elim | exact h3.sub (fun b hb => (g2 b).1 hb) | exact h3
    · obtain ⟨j, x, a1, a2, a3⟩ := hb
      by_cases e : j = i
      · subst e; rw [upd_same] at a1; cases a1; exact ⟨j, _, hx, a2, a3⟩
      · rw [upd_ne _ _ e] at a1; exact ⟨j, x, a1, a2, a3⟩
  | ret v v' σ' ρ us r2 σ2 hr h2 ih =>
    intro β' F' hρ0 hρ hF h
    refine ih hρ0 hρ hF ⟨h.1, h.2.1, ?_, h.2.2.2⟩
    obtain ⟨_, _, h3, _, _⟩ := h
    cases e <;> first | exact hr.sound hρ h3 | exact h3.elim
/-- a contract that tells all, out of one that tells it in other names -/
theorem conW_of {f : FuncId} {args : List AV} {pre : List (Nat × Ob)} {id : Nat} {r : AEnd} {wr : Wr} (hgo : goFn P f = true) (h : ∀ (σ : Hp) (n : Nat), (∀ p ∈ pre, σ p.1 = some p.2) → id + 16 ≤ n → ConH P f args σ n (fun r' σ' _ => Wn id r' σ' [] [] r (applyW σ wr))) : ConW P f args pre id r wr := by
  refine ⟨hgo, fun N β σ F w vs hpre hid T hT hF hN H hargs => ?_⟩
  have H' : HRel N β σ (Fn T F T) w := ⟨fun i hi => H.dom i (hi.elim (hF i) (fun h => h.1)), H.off, H.inj, H.blk, H.map, H.lp, H.df⟩
  refine ((h σ T hpre hT).2 N T F β w vs (Nat.le_refl _) hN H' hargs).mono ?_
  rintro e w' ⟨β', r', σ', n', hw, hn, hl⟩
  obtain ⟨β2, h2⟩ := hw.sound hN (fun p hp => by cases hp) (fun p hp => by cases hp) (fun i hi _ => Or.inr ⟨hid _ (by omega) (by omega), by omega⟩) hl
  refine ⟨β2, n', hn, h2.1, ⟨fun i hi => h2.2.1.dom i ⟨?_, hi.2.1⟩, h2.2.1.off, h2.2.1.inj, h2.2.1.blk, h2.2.1.map, h2.2.1.lp, h2.2.1.df⟩, h2.2.2.1, h2.2.2.2.1, h2.2.2.2.2⟩
  rcases hi.2.2 with h | h
  · exact .inr ⟨hi.1, h⟩
  · exact .inl h
end
end Go.Proofs.Ytlhnncmflnjinaa.Am

set_option linter.unusedSimpArgs false
set_option linter.unusedVariables false
namespace Go.Proofs.Ytlhnncmflnjinaa.Am
open Go Go.RowKit

def resSlots : List RV → List Nat
  | [] => []
  | .t i :: l => i :: resSlots l
  | .c i _ :: l => i :: resSlots l
end Go.Proofs.Ytlhnncmflnjinaa.Am

set_option linter.unusedSimpArgs false
set_option linter.unusedVariables false
namespace Go.Proofs.Ytlhnncmflnjinaa.Am
open Go Go.RowKit

theorem bindP_congr {o o' : Option AV} {K : AV → Prop} (h : o = o') : bindP o K = bindP o' K := by rw [h]
theorem bindS_congr {o o' : Option (AV × Wr)} {σ : Hp} {n : Nat} {K : AV → Hp → Nat → Prop} (h : o = o') : bindS o σ n K = bindS o' σ n K := by rw [h]
theorem bindH_congr {o o' : Option (AV × Wr)} {K : AV → Wr → Prop} (h : o = o') : bindH o K = bindH o' K := by rw [h]
theorem CALL_congr {P : Program} {f f' : AV} {args args' : List AV} {σ : Hp} {n : Nat} {K : AEnd → Hp → Nat → Prop} (h : f = f') (h' : args = args') : CALL P f args σ n K = CALL P f' args' σ n K := by rw [h, h']
theorem callD_congr {P : Program} {f f' : AV} {args args' : List AV} {σ σ' : Hp} {n : Nat} {K : AEnd → Wr → List Nat → Prop} (h : f = f') (h' : args = args') (h2 : σ = σ') : callD P f args σ n K = callD P f' args' σ' n K := by rw [h, h', h2]
theorem LOOP_congr {body : (List AV → Hp → Nat → Prop) → List AV → Hp → Nat → Prop} {s s' : List AV} {σ : Hp} {n : Nat} (h : s = s') : LOOP body s σ n = LOOP body s' σ n := by rw [h]
theorem COND_congr {c c' : AV} {A B : Prop} (h : c = c') : COND c A B = COND c' A B := by rw [h]
theorem guardP_congr {g g' : AV} {want : Bool} {o : Option AV} {K : AV → Prop} (h : g = g') : guardP g want o K = guardP g' want o K := by rw [h]
theorem guardK_congr {g g' : AV} {want : Bool} {e : (AV → Hp → Nat → Prop) → Prop} {σ : Hp} {n : Nat} {K : AV → Hp → Nat → Prop} (h : g = g') : guardK g want e σ n K = guardK g' want e σ n K := by rw [h]
theorem guardD_congr {g g' : AV} {want : Bool} {e : (AV → Wr → List Nat → Prop) → Prop} {K : AV → Wr → List Nat → Prop} (h : g = g') : guardD g want e K = guardD g' want e K := by rw [h]
theorem PAN_congr {x x' : AV} {K : Value → Prop} (h : x = x') : PAN x K = PAN x' K := by rw [h]
theorem onEnd_congr {r r' : AEnd} {K : AV → Prop} {Kp : Value → Prop} (h : r = r') : onEnd r K Kp = onEnd r' K Kp := by rw [h]
attribute [congr] bindP_congr bindS_congr bindH_congr CALL_congr callD_congr LOOP_congr COND_congr guardP_congr guardK_congr guardD_congr PAN_congr onEnd_congr

theorem bindP_some (v : AV) (K : AV → Prop) : bindP (some v) K = K v := rfl
theorem bindS_some (v : AV) (wr : Wr) (σ : Hp) (n : Nat) (K : AV → Hp → Nat → Prop) : bindS (some (v, wr)) σ n K = K v (applyW σ wr) (n + 16) := rfl
theorem bindH_some (v : AV) (wr : Wr) (K : AV → Wr → Prop) : bindH (some (v, wr)) K = K v wr := rfl
theorem onEnd_ret (v : AV) (K : AV → Prop) (Kp : Value → Prop) : onEnd (.ret v) K Kp = K v := id rfl
theorem onEnd_pan (x : Value) (K : AV → Prop) (Kp : Value → Prop) : onEnd (.pan x) K Kp = Kp x := id rfl
theorem onEnd_ite {c : Prop} [Decidable c] (a b : AEnd) (K : AV → Prop) (Kp : Value → Prop) : onEnd (if c then a else b) K Kp = ((c → onEnd a K Kp) ∧ (¬ c → onEnd b K Kp)) := by
  by_cases h : c <;> simp [h]
theorem onEnd_cond {c : Bool} (a b : AEnd) (K : AV → Prop) (Kp : Value → Prop) : onEnd (cond c a b) K Kp = ((c = true → onEnd a K Kp) ∧ (c = false → onEnd b K Kp)) := by
  cases c <;> simp
theorem PAN_iface (t : TypeId) (v : Value) (K : Value → Prop) : PAN (.sc (.iface t v)) K = K (.iface t v) := rfl
theorem COND_bool (t : Bool) (A B : Prop) : COND (.sc (.bool t)) A B = ((t = true → A) ∧ (t = false → B)) := rfl
theorem COND_bo (A B : Prop) : COND .bo A B = (A ∧ B) := rfl
theorem COND_true (A B : Prop) : COND (.sc (.bool true)) A B = A := by simp [COND]
theorem COND_false (A B : Prop) : COND (.sc (.bool false)) A B = B := by simp [COND]
theorem guardP_on (w : Bool) (o : Option AV) (K : AV → Prop) : guardP (.sc (.bool w)) w o K = bindP o K := by
  refine propext ⟨fun h => ?_, fun h => ⟨?_⟩⟩
  · obtain ⟨v, hv, h⟩ := h.h
    simp only [beq_self_eq_true, cond_true] at h
    rw [hv rfl]; exact h
  · unfold bindP at h
    split at h
    · rename_i v; exact ⟨v, fun _ => rfl, by simpa using h⟩
    · exact h.elim
theorem guardP_t (o : Option AV) (K : AV → Prop) : guardP (.sc (.bool true)) false o K = K (.tp []) :=
  propext ⟨fun h => (by obtain ⟨v, _, h⟩ := h.h; exact h), fun h => ⟨.any, (fun h => by cases h), h⟩⟩
theorem guardP_f (o : Option AV) (K : AV → Prop) : guardP (.sc (.bool false)) true o K = K (.tp []) :=
  propext ⟨fun h => (by obtain ⟨v, _, h⟩ := h.h; exact h), fun h => ⟨.any, (fun h => by cases h), h⟩⟩
theorem guardP_none (w : Bool) (o : Option AV) (K : AV → Prop) : guardP (.tp []) w o K = K (.tp []) := propext ⟨fun h => h.h, fun h => ⟨h⟩⟩
theorem guardP_if (b w : Bool) (o : Option AV) (K : AV → Prop) : guardP (.sc (.bool b)) w o K = ((b = w → bindP o K) ∧ (b = !w → K (.tp []))) := by
  cases b <;> cases w <;> simp [guardP_on, guardP_t, guardP_f]
theorem guardK_on (w : Bool) (e : (AV → Hp → Nat → Prop) → Prop) (σ : Hp) (n : Nat) (K : AV → Hp → Nat → Prop) : guardK (.sc (.bool w)) w e σ n K = e K := by
  refine propext ⟨fun h => ?_, fun h => ⟨?_⟩⟩
  · have := h.h; simpa [guardK'] using this
  · simpa [guardK'] using h
theorem guardK_t (e : (AV → Hp → Nat → Prop) → Prop) (σ : Hp) (n : Nat) (K : AV → Hp → Nat → Prop) : guardK (.sc (.bool true)) false e σ n K = K (.tp []) σ n := propext ⟨fun h => h.h, fun h => ⟨h⟩⟩
theorem guardK_f (e : (AV → Hp → Nat → Prop) → Prop) (σ : Hp) (n : Nat) (K : AV → Hp → Nat → Prop) : guardK (.sc (.bool false)) true e σ n K = K (.tp []) σ n := propext ⟨fun h => h.h, fun h => ⟨h⟩⟩
theorem guardK_none (w : Bool) (e : (AV → Hp → Nat → Prop) → Prop) (σ : Hp) (n : Nat) (K : AV → Hp → Nat → Prop) : guardK (.tp []) w e σ n K = K (.tp []) σ n := propext ⟨fun h => h.h, fun h => ⟨h⟩⟩
theorem guardK_if (b w : Bool) (e : (AV → Hp → Nat → Prop) → Prop) (σ : Hp) (n : Nat) (K : AV → Hp → Nat → Prop) : guardK (.sc (.bool b)) w e σ n K = ((b = w → e K) ∧ (b = !w → K (.tp []) σ n)) := by
  cases b <;> cases w <;> simp [guardK_on, guardK_t, guardK_f]
theorem guardD_on (w : Bool) (e : (AV → Wr → List Nat → Prop) → Prop) (K : AV → Wr → List Nat → Prop) : guardD (.sc (.bool w)) w e K = e K := by
  refine propext ⟨fun h => ?_, fun h => ⟨?_⟩⟩
  · have := h.h; simpa [guardD'] using this
  · simpa [guardD'] using h
theorem guardD_t (e : (AV → Wr → List Nat → Prop) → Prop) (K : AV → Wr → List Nat → Prop) : guardD (.sc (.bool true)) false e K = K (.tp []) [] [] := propext ⟨fun h => h.h, fun h => ⟨h⟩⟩
theorem guardD_f (e : (AV → Wr → List Nat → Prop) → Prop) (K : AV → Wr → List Nat → Prop) : guardD (.sc (.bool false)) true e K = K (.tp []) [] [] := propext ⟨fun h => h.h, fun h => ⟨h⟩⟩
theorem guardD_none (w : Bool) (e : (AV → Wr → List Nat → Prop) → Prop) (K : AV → Wr → List Nat → Prop) : guardD (.tp []) w e K = K (.tp []) [] [] := propext ⟨fun h => h.h, fun h => ⟨h⟩⟩
theorem guardD_if (b w : Bool) (e : (AV → Wr → List Nat → Prop) → Prop) (K : AV → Wr → List Nat → Prop) : guardD (.sc (.bool b)) w e K = ((b = w → e K) ∧ (b = !w → K (.tp []) [] [])) := by
  cases b <;> cases w <;> simp [guardD_on, guardD_t, guardD_f]
theorem beqI (a b : Int) : (a == b) = decide (a = b) := by by_cases h : a = b <;> simp [h]
theorem beqL (a b : List UInt8) : (a == b) = decide (a = b) := by by_cases h : a = b <;> simp [h]
theorem beqB (a b : Bool) : (a == b) = decide (a = b) := by cases a <;> cases b <;> rfl
theorem COND_decide (p : Prop) [Decidable p] (A B : Prop) : COND (.sc (.bool (decide p))) A B = ((p → A) ∧ (¬ p → B)) := by simp [COND]
theorem COND_not (b : Bool) (A B : Prop) : COND (.sc (.bool (!b))) A B = COND (.sc (.bool b)) B A := by cases b <;> simp [COND]
theorem guardP_decT (p : Prop) [Decidable p] (o : Option AV) (K : AV → Prop) : guardP (.sc (.bool (decide p))) true o K = ((p → bindP o K) ∧ (¬ p → K (.tp []))) := by
  simp [guardP_if]
theorem guardP_decF (p : Prop) [Decidable p] (o : Option AV) (K : AV → Prop) : guardP (.sc (.bool (decide p))) false o K = ((¬ p → bindP o K) ∧ (p → K (.tp []))) := by
  simp [guardP_if]
theorem guardP_notT (b : Bool) (o : Option AV) (K : AV → Prop) : guardP (.sc (.bool (!b))) true o K = guardP (.sc (.bool b)) false o K := by
  cases b <;> simp [guardP_on, guardP_f, guardP_t]
theorem guardP_notF (b : Bool) (o : Option AV) (K : AV → Prop) : guardP (.sc (.bool (!b))) false o K = guardP (.sc (.bool b)) true o K := by
  cases b <;> simp [guardP_on, guardP_f, guardP_t]
theorem guardK_decT (p : Prop) [Decidable p] (e : (AV → Hp → Nat → Prop) → Prop) (σ : Hp) (n : Nat) (K : AV → Hp → Nat → Prop) : guardK (.sc (.bool (decide p))) true e σ n K = ((p → e K) ∧ (¬ p → K (.tp []) σ n)) := by
  simp [guardK_if]
theorem guardK_decF (p : Prop) [Decidable p] (e : (AV → Hp → Nat → Prop) → Prop) (σ : Hp) (n : Nat) (K : AV → Hp → Nat → Prop) : guardK (.sc (.bool (decide p))) false e σ n K = ((¬ p → e K) ∧ (p → K (.tp []) σ n)) := by
  simp [guardK_if]
theorem guardK_notT (b : Bool) (e : (AV → Hp → Nat → Prop) → Prop) (σ : Hp) (n : Nat) (K : AV → Hp → Nat → Prop) : guardK (.sc (.bool (!b))) true e σ n K = guardK (.sc (.bool b)) false e σ n K := by
  cases b <;> simp [guardK_on, guardK_f, guardK_t]
theorem guardK_notF (b : Bool) (e : (AV → Hp → Nat → Prop) → Prop) (σ : Hp) (n : Nat) (K : AV → Hp → Nat → Prop) : guardK (.sc (.bool (!b))) false e σ n K = guardK (.sc (.bool b)) true e σ n K := by
  cases b <;> simp [guardK_on, guardK_f, guardK_t]
theorem COND_bif (b : Bool) (x y : AV) (A B : Prop) : COND (bif b then x else y) A B = ((b = true → COND x A B) ∧ (b = false → COND y A B)) := by cases b <;> simp
theorem COND_bifd (p : Prop) [Decidable p] (x y : AV) (A B : Prop) : COND (bif decide p then x else y) A B = ((p → COND x A B) ∧ (¬ p → COND y A B)) := by by_cases h : p <;> simp [h]
theorem JOIN_eq (K : List AV → Hp → Nat → Prop) (F : (List AV → Hp → Nat → Prop) → Prop) : JOIN K F = F K := propext ⟨fun h => h.h, fun h => ⟨h⟩⟩
theorem applyW_nil (σ : Hp) : applyW σ [] = σ := rfl
theorem applyW_cons (σ : Hp) (i : Nat) (x : Option Ob) (l : Wr) : applyW σ ((i, x) :: l) = applyW (upd σ i x) l := rfl
theorem upd_is {σ : Hp} {i j : Nat} {x : Option Ob} (h : j = i) : upd σ i x j = x := by subst h; simp [upd]
theorem upd_not {σ : Hp} {i j : Nat} {x : Option Ob} (h : j ≠ i) : upd σ i x j = σ j := by simp [upd, h]
theorem brwL_nil (σ : Hp) (d : Nat) : brwL σ d [] = some ([], []) := rfl
theorem brwL_cons (σ : Hp) (d : Nat) (a : AV) (l : List AV) : brwL σ d (a :: l) = match brw σ d a, brwL σ d l with
  | some (c, I), some (cs, J) => some (c :: cs, I ++ J)
  | _, _ => none := rfl
theorem brw_ag (σ : Hp) (d : Nat) (l : List AV) : brw σ (d + 1) (.ag l) = (brwL σ d l).map fun p => (.ag p.1, p.2) := by cases l <;> rfl
theorem brw_tp (σ : Hp) (d : Nat) (l : List AV) : brw σ (d + 1) (.tp l) = (brwL σ d l).map fun p => (.tp p.1, p.2) := by cases l <;> rfl
theorem brw_fn (σ : Hp) (d f : Nat) (l : List AV) : brw σ (d + 1) (.fn f l) = (brwL σ d l).map fun p => (.fn f p.1, p.2) := by cases l <;> rfl
theorem brw_sc (σ : Hp) (d : Nat) (v : Value) : brw σ d (.sc v) = some (.sc v, []) := by cases d <;> rfl
theorem brw_s (σ : Hp) (d : Nat) (l : List UInt8) : brw σ d (.s l) = some (.s l, []) := by cases d <;> rfl
theorem brw_em (σ : Hp) (d : Nat) : brw σ d .em = some (.tr [], []) := by cases d <;> rfl
theorem brw_tr (σ : Hp) (d : Nat) (rows : List (List AV)) : brw σ d (.tr rows) = some (.tr rows, []) := by cases d <;> rfl
theorem brw_fp (σ : Hp) (d : Nat) (l : List AV) : brw σ d (.fp l) = some (.fp l, []) := by cases d <;> rfl
theorem RC_ret {v c : AV} {I : List Nat} {σ : Hp} {n : Nat} {r0 : AEnd} (h : brw σ 6 v = some (c, I)) (hr : r0 = .ret c) : RC r0 (.ret v) σ n := by
  simp only [RC, h]; exact hr
theorem RC_pan {x : Value} {σ : Hp} {n : Nat} {r0 : AEnd} (hr : r0 = .pan x) : RC r0 (.pan x) σ n := hr
section
variable {P : Program}
def wrOf (r : AEnd) (σ : Hp) (I : List Nat) : Wr := match r with
  | .ret v => if scal v = true then [] else frz σ I
  | .pan _ => []
theorem CALL_con {g : FuncId} {caps args cs : List AV} {I : List Nat} {r : AEnd} {σ : Hp} {n : Nat} {K : AEnd → Hp → Nat → Prop} (h : Con P g cs r) (hb : brwL σ 6 (args ++ caps) = some (cs, I))
    (hk : K r (applyW σ (wrOf r σ I)) n) : CALL P (.fn g caps) args σ n K := .c ⟨cs, I, r, hb, h, by cases r <;> exact hk⟩
theorem CALL_con0 {g : FuncId} {caps args cs : List AV} {r : AEnd} {σ : Hp} {n : Nat} {K : AEnd → Hp → Nat → Prop} (h : Con P g cs r) (hb : brwL σ 6 (args ++ caps) = some (cs, []))
    (hk : K r σ n) : CALL P (.fn g caps) args σ n K := by
  refine CALL_con h hb ?_
  cases r with
  | ret v => by_cases hs : scal v = true <;> simpa [wrOf, hs, frz, applyW] using hk
  | pan x => simpa [wrOf, applyW] using hk
theorem CALL_conS {g : FuncId} {caps args cs : List AV} {I : List Nat} {v : AV} {σ : Hp} {n : Nat} {K : AEnd → Hp → Nat → Prop} (h : Con P g cs (.ret v)) (hb : brwL σ 6 (args ++ caps) = some (cs, I)) (hs : scal v = true)
    (hk : K (.ret v) σ n) : CALL P (.fn g caps) args σ n K := by
  refine CALL_con h hb ?_
  simpa [wrOf, hs, applyW] using hk
/-- a loop that goes up to N -/
theorem LOOP_up {body : (List AV → Hp → Nat → Prop) → List AV → Hp → Nat → Prop} {s : List AV} {σ : Hp} {n : Nat} (N : Nat) (S : Nat → List AV → Hp → Nat → Prop) (h0 : Weak (S 0) s σ n)
    (hb : ∀ i K s' σ' n', n ≤ n' → i ≤ N → s'.length = s.length → S i s' σ' n' → (∀ s2 σ2 n2, i < N → Weak (S (i + 1)) s2 σ2 n2 → K s2 σ2 n2) → body K s' σ' n') : LOOP body s σ n := by
  refine ⟨fun m s σ n => m ≤ N ∧ S (N - m) s σ n, ⟨N, ?_⟩, fun m s' σ' n' hn hl h => ?_⟩
  · obtain ⟨s', σ', n', a, b, c, d⟩ := h0
    exact ⟨s', σ', n', a, b, c, Nat.le_refl _, by simpa using d⟩
  · refine hb (N - m) _ s' σ' n' hn (by omega) hl h.2 (fun s2 σ2 n2 hi hw => ?_)
    obtain ⟨s3, σ3, n3, a, b, c, d⟩ := hw
    refine ⟨m - 1, by omega, s3, σ3, n3, a, b, c, by omega, ?_⟩
    rw [show N - (m - 1) = N - m + 1 by omega]; exact d
/-- the same, where the memory stays -/
theorem LOOP_still {body : (List AV → Hp → Nat → Prop) → List AV → Hp → Nat → Prop} {s : List AV} {σ : Hp} {n : Nat} (N : Nat) (S : Nat → List AV → Prop) (h0 : S 0 s)
    (hb : ∀ i K s' n', n ≤ n' → i ≤ N → s'.length = s.length → S i s' → (∀ s2 n2, n' ≤ n2 → i < N → S (i + 1) s2 → K s2 σ n2) → body K s' σ n') : LOOP body s σ n := by
  refine LOOP_up N (fun i s' σ' n' => S i s' ∧ σ' = σ) (.refl ⟨h0, rfl⟩) ?_
  rintro i K s' σ' n' hn hi hl ⟨h, rfl⟩ hK
  exact hb i K s' n' hn hi hl h (fun s2 n2 _ h1 h2 => hK s2 _ n2 h1 (.refl ⟨h2, rfl⟩))
/-- a loop over a list -/
theorem LOOP_list {α : Type} {body : (List AV → Hp → Nat → Prop) → List AV → Hp → Nat → Prop} {s : List AV} {σ : Hp} {n : Nat} (xs : List α) (S : Nat → List AV → Prop) (h0 : S 0 s)
    (h1 : ∀ i x K s' n', xs[i]? = some x → i < xs.length → (i : Int) < xs.length → n ≤ n' → S i s' → (∀ s2 n2, n' ≤ n2 → S (i + 1) s2 → K s2 σ n2) → body K s' σ n')
    (h2 : ∀ K s' n', n ≤ n' → S xs.length s' → body K s' σ n') : LOOP body s σ n := by
  refine LOOP_still xs.length S h0 (fun i K s' n' hn hi _ hs hK => ?_)
  rcases Nat.lt_or_ge i xs.length with h | h
  · exact h1 i xs[i] K s' n' (List.getElem?_eq_getElem h) h (by omega) hn hs (fun s2 n2 hn2 hs2 => hK s2 n2 hn2 h hs2)
  · have e : i = xs.length := by omega
    subst e
    exact h2 K s' n' hn hs
/-- the same, where the memory changes -/
theorem LOOP_listM {α : Type} {body : (List AV → Hp → Nat → Prop) → List AV → Hp → Nat → Prop} {s : List AV} {σ : Hp} {n : Nat} (xs : List α) (S : Nat → List AV → Hp → Nat → Prop) (h0 : Weak (S 0) s σ n)
    (h1 : ∀ i x K s' σ' n', xs[i]? = some x → i < xs.length → (i : Int) < xs.length → n ≤ n' → S i s' σ' n' → (∀ s2 σ2 n2, Weak (S (i + 1)) s2 σ2 n2 → K s2 σ2 n2) → body K s' σ' n')
    (h2 : ∀ K s' σ' n', n ≤ n' → S xs.length s' σ' n' → body K s' σ' n') : LOOP body s σ n := by
  refine LOOP_up xs.length S h0 (fun i K s' σ' n' hn hi _ hs hK => ?_)
  rcases Nat.lt_or_ge i xs.length with h | h
  · exact h1 i xs[i] K s' σ' n' (List.getElem?_eq_getElem h) h (by omega) hn hs (fun s2 σ2 n2 hs2 => hK s2 σ2 n2 h hs2)
  · have e : i = xs.length := by omega
    subst e
    exact h2 K s' σ' n' hn hs
theorem any_take {α : Type} {p : α → Bool} {xs : List α} {i : Nat} {x : α} (hx : xs[i]? = some x) : (xs.take (i + 1)).any p = ((xs.take i).any p || p x) := by
  rw [List.take_add_one, List.any_append, hx]; simp
theorem wrapI {n : Int} (h0 : -9223372036854775808 ≤ n) (h1 : n ≤ 9223372036854775807) : IntKind.i64.wrap n = n := by rw [IntKind.wrap_i64]; omega
theorem wrapB {n : Int} (h0 : 0 ≤ n) (h1 : n < 256) : IntKind.u8.wrap n = n := by rw [IntKind.wrap_u8]; omega
theorem aPick_b (t : Bool) (a b : AV) : aPick (.sc (.bool t)) a b = some (cond t a b) := rfl
theorem aMxn_max (k k' : IntKind) (a b : Int) : aMxn true (.sc (.int k a)) (.sc (.int k' b)) = some (.sc (.int k (if b > a then b else a))) := rfl
theorem aMxn_min (k k' : IntKind) (a b : Int) : aMxn false (.sc (.int k a)) (.sc (.int k' b)) = some (.sc (.int k (if b < a then b else a))) := rfl
attribute [go_sem] aMxn_max aMxn_min
theorem aFad_rf (off i k r c : Nat) : aFad off (.rf i k r c) = some (.rf i k r (c + off)) := rfl
theorem aFad_fp (off : Nat) (l : List AV) : aFad off (.fp l) = if off < l.length then some (.fp (l.drop off)) else none := rfl
theorem part_none (row : List AV) (c : Nat) : part row c none = row[c]? := rfl
theorem part_some (row : List AV) (c m : Nat) : part row c (some m) = if c + m ≤ row.length then some (.ag ((row.drop c).take m)) else none := rfl
theorem aFld_ag (m : Option Nat) (off : Nat) (l : List AV) : aFld m off (.ag l) = part l off m := rfl
theorem aIad_tr (k : Nat) (kd : IntKind) (n : Int) (rows : List (List AV)) : aIad k (.tr rows) (.sc (.int kd n)) = if 0 ≤ n then (match rows[n.toNat]? with | some row => if row.length = k then some (.fp row) else none | none => none) else none := rfl
theorem aIad_ow (k : Nat) (kd : IntKind) (n : Int) (j k' off len : Nat) : aIad k (.ow j k' off len) (.sc (.int kd n)) = if k' = k ∧ 0 ≤ n ∧ n < len then some (.rf j k (off + n.toNat) 0) else none := rfl
theorem aIstr_s (l : List UInt8) (kd : IntKind) (n : Int) : aIstr (.s l) (.sc (.int kd n)) = if 0 ≤ n then (match l[n.toNat]? with | some b => some (.sc (.int .u8 b.toNat)) | none => none) else none := rfl
theorem aIarr_ag (m : Option Nat) (k len : Nat) (l : List AV) (kd : IntKind) (n : Int) : aIarr m k len (.ag l) (.sc (.int kd n)) = if 0 ≤ n ∧ n < len then part l (n.toNat * k) m else none := rfl
theorem aUn_not (b : Bool) : aUn .not (.sc (.bool b)) = some (.sc (.bool (!b))) := rfl
theorem aUn_neg (k : IntKind) (n : Int) : aUn .neg (.sc (.int k n)) = some (.sc (.int k (k.wrap (0 - n)))) := rfl
theorem aCvi_int (k k' : IntKind) (n : Int) : aCvi k (.sc (.int k' n)) = some (.sc (.int k (k.wrap n))) := rfl
theorem aCvs_s (l : List UInt8) : aCvs (.s l) = some (.s l) := rfl
theorem aLen_s (l : List UInt8) : aLen true (.s l) = some (.sc (.int .i64 l.length)) := rfl
theorem aLen_em : aLen false .em = some (.sc (.int .i64 0)) := rfl
theorem aLen_tr (rows : List (List AV)) : aLen false (.tr rows) = some (.sc (.int .i64 rows.length)) := rfl
theorem aLen_ow (i k off len : Nat) : aLen false (.ow i k off len) = some (.sc (.int .i64 len)) := rfl
theorem asI_int (k : IntKind) (n : Int) : asI (.sc (.int k n)) = some n := rfl
theorem aSlc_em (k : Nat) (lo hi mx : Option AV) : aSlc k .em lo hi mx = (match optI 0 lo, optI 0 hi, optI 0 mx with | some l, some h, some m => if l = 0 ∧ h = 0 ∧ m = 0 ∧ (mx.isSome = true → hi.isSome = true) then some .em else none | _, _, _ => none) := rfl
theorem aSlc_tr (k : Nat) (rows : List (List AV)) (lo hi : Option AV) : aSlc k (.tr rows) lo hi none = (match optI 0 lo, optI rows.length hi with | some l, some h => if rows.all (fun r => r.length == k) = true ∧ 0 ≤ l ∧ l ≤ h ∧ h ≤ rows.length then some (.tr ((rows.take h.toNat).drop l.toNat)) else none | _, _ => none) := by simp only [aSlc]; cases optI 0 lo <;> cases optI rows.length hi <;> rfl
theorem aSlc_ow (k j k' off len : Nat) (lo hi : Option AV) : aSlc k (.ow j k' off len) lo hi none = (match optI 0 lo, optI len hi with | some l, some h => if k' = k ∧ 0 ≤ l ∧ l ≤ h ∧ h ≤ len ∧ (l = 0 ∨ l < len) then some (.ow j k (off + l.toNat) (h.toNat - l.toNat)) else none | _, _ => none) := by simp only [aSlc]; cases optI 0 lo <;> cases optI len hi <;> rfl
theorem aSstr_s (s : List UInt8) (lo hi : Option AV) : aSstr (.s s) lo hi = (match optI 0 lo, optI s.length hi with | some l, some h => if 0 ≤ l ∧ l ≤ h ∧ h ≤ s.length then some (.s ((s.take h.toNat).drop l.toNat)) else none | _, _ => none) := rfl
theorem aExt_tp (l : List AV) (i : Nat) : aExt (.tp l) i = l[i]? := rfl
theorem aNck_rf (i k r c : Nat) : aNck (.rf i k r c) = some (.rf i k r c) := rfl
theorem aNck_fp (l : List AV) : aNck (.fp l) = some (.fp l) := rfl
theorem aNck_fn (f : Nat) (l : List AV) : aNck (.fn f l) = some (.fn f l) := rfl
theorem aMki_sc (t : TypeId) (v : Value) : aMki t (.sc v) = some (.sc (.iface t v)) := rfl
theorem aTas_iface (t t' : TypeId) (z v : Value) : aTas t z (.sc (.iface t' v)) = if t' = t then some (.tp [ofV v, bb true]) else some (.tp [ofV z, bb false]) := rfl
theorem aTas_nil (t : TypeId) (z : Value) : aTas t z (.sc .nilIface) = some (.tp [ofV z, bb false]) := rfl
theorem aLd_rf (σ : Hp) (m : Option Nat) (i k r c : Nat) : aLd σ m (.rf i k r c) = (match σ i with | some (.c b) => if b.k = k then (match b.rows[r]? with | some row => part row c m | none => none) else none | _ => none) := rfl
theorem aLd_fp (σ : Hp) (m : Option Nat) (l : List AV) : aLd σ m (.fp l) = part l 0 m := rfl
theorem aEqs_ag (ks : List Nat) (neg : Bool) (l m : List AV) : aEqs ks neg (.ag l) (.ag m) = (eqK ks l m).map fun p => bb (if neg then !p else p) := rfl
theorem aEqb_b (neg p q : Bool) : aEqb neg (.sc (.bool p)) (.sc (.bool q)) = some (bb (if neg then !(p == q) else p == q)) := rfl
theorem aEqp_eq (neg : Bool) (x y : AV) : aEqp neg x y = (eqP x y).map fun p => bb (if neg then !p else p) := rfl
theorem eqP_nr (i k r c : Nat) : eqP (.sc (.pointer none)) (.rf i k r c) = some false := rfl
theorem eqP_rn (i k r c : Nat) : eqP (.rf i k r c) (.sc (.pointer none)) = some false := rfl
theorem eqP_nf (l : List AV) : eqP (.sc (.pointer none)) (.fp l) = some false := rfl
theorem eqP_fn (l : List AV) : eqP (.fp l) (.sc (.pointer none)) = some false := rfl
theorem eqP_nn : eqP (.sc (.pointer none)) (.sc (.pointer none)) = some true := rfl
theorem eqP_rr (i k r c i' k' r' c' : Nat) : eqP (.rf i k r c) (.rf i' k' r' c') = if i = i' ∧ k = k' ∧ c < k ∧ c' < k then some (r == r' && c == c') else none := rfl
theorem bin_add (k : IntKind) (a b : Int) : semBin .add (.sc (.int k a)) (.sc (.int k b)) = some (.sc (.int k (k.wrap (a + b)))) := by simp [semBin]
theorem bin_sub (k : IntKind) (a b : Int) : semBin .sub (.sc (.int k a)) (.sc (.int k b)) = some (.sc (.int k (k.wrap (a - b)))) := by simp [semBin]
theorem bin_mul (k : IntKind) (a b : Int) : semBin .mul (.sc (.int k a)) (.sc (.int k b)) = some (.sc (.int k (k.wrap (a * b)))) := by simp [semBin]
theorem bin_and (k : IntKind) (a b : Int) : semBin .and (.sc (.int k a)) (.sc (.int k b)) = some (.sc (.int k (bits .and k a b))) := by simp [semBin]
theorem bin_or (k : IntKind) (a b : Int) : semBin .or (.sc (.int k a)) (.sc (.int k b)) = some (.sc (.int k (bits .or k a b))) := by simp [semBin]
theorem bin_xor (k : IntKind) (a b : Int) : semBin .xor (.sc (.int k a)) (.sc (.int k b)) = some (.sc (.int k (bits .xor k a b))) := by simp [semBin]
theorem bin_andNot (k : IntKind) (a b : Int) : semBin .andNot (.sc (.int k a)) (.sc (.int k b)) = some (.sc (.int k (bits .andNot k a b))) := by simp [semBin]
theorem bin_quo (k : IntKind) (a b : Int) : semBin .quo (.sc (.int k a)) (.sc (.int k b)) = if b = 0 then none else some (.sc (.int k (k.wrap (a.tdiv b)))) := by simp [semBin]
theorem bin_rem (k : IntKind) (a b : Int) : semBin .rem (.sc (.int k a)) (.sc (.int k b)) = if b = 0 then none else some (.sc (.int k (a.tmod b))) := by simp [semBin]
theorem bin_eql (k : IntKind) (a b : Int) : semBin .eql (.sc (.int k a)) (.sc (.int k b)) = some (.sc (.bool (decide (a = b)))) := by simp [semBin, bb, beqI]
theorem bin_lss (k : IntKind) (a b : Int) : semBin .lss (.sc (.int k a)) (.sc (.int k b)) = some (.sc (.bool (decide (a < b)))) := by simp [semBin, bb, beqI]
theorem bin_leq (k : IntKind) (a b : Int) : semBin .leq (.sc (.int k a)) (.sc (.int k b)) = some (.sc (.bool (decide (a ≤ b)))) := by simp [semBin, bb, beqI]
theorem bin_gtr (k : IntKind) (a b : Int) : semBin .gtr (.sc (.int k a)) (.sc (.int k b)) = some (.sc (.bool (decide (b < a)))) := by simp [semBin, bb, beqI]
theorem bin_geq (k : IntKind) (a b : Int) : semBin .geq (.sc (.int k a)) (.sc (.int k b)) = some (.sc (.bool (decide (b ≤ a)))) := by simp [semBin, bb, beqI]
theorem bin_neq (k : IntKind) (a b : Int) : semBin .neq (.sc (.int k a)) (.sc (.int k b)) = some (.sc (.bool (!decide (a = b)))) := by simp [semBin, bb, bne, beqI]
theorem bin_shl (k k' : IntKind) (a b : Int) : semBin .shl (.sc (.int k a)) (.sc (.int k' b)) = if b < 0 then none else some (.sc (.int k (k.wrap (a * 2 ^ (min b.toNat k.bits))))) := rfl
theorem bin_shr (k k' : IntKind) (a b : Int) : semBin .shr (.sc (.int k a)) (.sc (.int k' b)) = if b < 0 then none else some (.sc (.int k (a.fdiv (2 ^ (min b.toNat k.bits))))) := rfl
theorem binS_add (a b : List UInt8) : semBin .add (.s a) (.s b) = if a.length + b.length ≤ 9223372036854775807 then some (.s (a ++ b)) else none := rfl
theorem binS_eql (a b : List UInt8) : semBin .eql (.s a) (.s b) = some (.sc (.bool (decide (a = b)))) := by simp [semBin, bb, beqL]
theorem binS_neq (a b : List UInt8) : semBin .neq (.s a) (.s b) = some (.sc (.bool (!decide (a = b)))) := by simp [semBin, bb, beqL]
theorem binS_lss (a b : List UInt8) : semBin .lss (.s a) (.s b) = some (.sc (.bool (Op.bytesLess a b))) := rfl
theorem binS_leq (a b : List UInt8) : semBin .leq (.s a) (.s b) = some (.sc (.bool (Op.bytesLess a b || (a == b)))) := rfl
theorem binS_gtr (a b : List UInt8) : semBin .gtr (.s a) (.s b) = some (.sc (.bool (!(Op.bytesLess a b || (a == b))))) := rfl
theorem binS_geq (a b : List UInt8) : semBin .geq (.s a) (.s b) = some (.sc (.bool (!(Op.bytesLess a b)))) := rfl
theorem rowsOf_em (σ : Hp) (k : Nat) : rowsOf σ k .em = some [] := rfl
theorem rowsOf_tr (σ : Hp) (k : Nat) (rows : List (List AV)) : rowsOf σ k (.tr rows) = if rows.all (fun r => r.length == k) = true then some rows else none := rfl
theorem rowsOf_ow (σ : Hp) (k i k' off len : Nat) : rowsOf σ k (.ow i k' off len) = if k' = k then (match σ i with | some (.c x) => if x.k = k ∧ x.cl = true ∧ off + len ≤ x.rows.length then some ((x.rows.drop off).take len) else none | _ => none) else none := rfl
theorem hSt_rf (σ : Hp) (m i k r c : Nat) (v : AV) : hSt σ m (.rf i k r c) v = (match σ i with | some (.c b) => if b.k = k ∧ b.wr = true then (match b.rows[r]?, v.cells with | some row, some l => if l.length = m ∧ c + m ≤ row.length ∧ l.all leafok = true then some (.tp [], [(i, some (.c ⟨k, b.rows.set r (splice row c l), true, b.cl && l.all clo⟩))]) else none | _, _ => none) else none | _ => none) := rfl
theorem aCvb_em (σ : Hp) : aCvb σ .em = some (.s []) := rfl
theorem aEqn_em (neg : Bool) : aEqn neg .em = some .bo := rfl
theorem aEqn_nil (neg : Bool) : aEqn neg (.tr []) = some .bo := rfl
theorem aEqn_cons (neg : Bool) (r : List AV) (rs : List (List AV)) : aEqn neg (.tr (r :: rs)) = some (.sc (.bool neg)) := rfl
theorem aEqn_ow0 (neg : Bool) (i k off : Nat) : aEqn neg (.ow i k off 0) = some .bo := rfl
theorem aEqn_ow (neg : Bool) (i k off n : Nat) : aEqn neg (.ow i k off (n + 1)) = some (.sc (.bool neg)) := rfl
/-- a set of texts: what a map[string]bool holds where only true is put -/
def setOf (ks : List (List UInt8)) : List (AV × AV) := ks.map fun k => (.s k, .sc (.bool true))
theorem keyAt_set (l : List UInt8) : ∀ (ks : List (List UInt8)) (n : Nat), (l ∈ ks → ∃ q, keyAt l n (setOf ks) = some (some (n + q)) ∧ (setOf ks)[q]? = some (.s l, .sc (.bool true))) ∧ (l ∉ ks → keyAt l n (setOf ks) = some none)
  | [], n => ⟨fun h => absurd h (List.not_mem_nil), fun _ => rfl⟩
  | k :: ks, n => by
    obtain ⟨h1, h2⟩ := keyAt_set l ks (n + 1)
    by_cases e : k = l
    · subst e
      exact ⟨fun _ => ⟨0, by simp [setOf, keyAt], by simp [setOf]⟩, fun h => absurd (List.mem_cons_self ..) h⟩
    · constructor
      · intro h
        rcases List.mem_cons.1 h with h | h
        · exact absurd h.symm e
        · obtain ⟨q, g1, g2⟩ := h1 h
          refine ⟨q + 1, ?_, by simpa [setOf] using g2⟩
          simp only [setOf, List.map_cons, keyAt, if_neg e]
          rw [show n + (q + 1) = n + 1 + q by omega]; exact g1
      · intro h
        simp only [setOf, List.map_cons, keyAt, if_neg e]
        exact h2 (fun h' => h (List.mem_cons_of_mem _ h'))
theorem aLkp_set {σ : Hp} {i : Nat} {ks : List (List UInt8)} {wr : Bool} (h : σ i = some (.m (setOf ks) wr)) (l : List UInt8) : aLkp σ (.bool false) false (.mp i) (.s l) = some (.sc (.bool (decide (l ∈ ks)))) := by
  obtain ⟨h1, h2⟩ := keyAt_set l ks 0
  by_cases e : l ∈ ks
  · obtain ⟨q, g1, g2⟩ := h1 e
    rw [Nat.zero_add] at g1
    simp only [aLkp, h, g1, g2, Bool.false_eq_true, if_false, decide_eq_true e]
  · simp only [aLkp, h, h2 e, Bool.false_eq_true, if_false, decide_eq_false e]
theorem hMup_set {σ : Hp} {i : Nat} {ks : List (List UInt8)} (h : σ i = some (.m (setOf ks) true)) (l : List UInt8) : hMup σ (.mp i) (.s l) (.sc (.bool true)) = some (.tp [], [(i, some (.m (setOf (if l ∈ ks then ks else ks ++ [l])) true))]) := by
  obtain ⟨h1, h2⟩ := keyAt_set l ks 0
  by_cases e : l ∈ ks
  · obtain ⟨q, g1, g2⟩ := h1 e
    rw [Nat.zero_add] at g1
    have hset : (setOf ks).set q (.s l, .sc (.bool true)) = setOf ks := by
      apply List.ext_getElem?
      intro j
      rw [List.getElem?_set]
      split
      · rename_i hj; subst hj
        split
        · exact g2.symm
        · rename_i hlt
          rw [List.getElem?_eq_none (by omega)] at g2; cases g2
      · rfl
    simp only [hMup, h, g1, hset, if_pos e]
  · simp only [hMup, h, h2 e, if_neg e]
    simp [setOf]
theorem hClm_mp {σ : Hp} {i : Nat} {es : List (AV × AV)} (h : σ i = some (.m es true)) : hClm σ (.mp i) = some (.tp [], [(i, some (.m (setOf []) true))]) := by simp only [hClm, h]; rfl
theorem hMkm_set (id : Nat) : hMkm id = some (.mp id, [(id, some (.m (setOf []) true))]) := rfl
attribute [go_sem] hMkm_set
attribute [go_sem] aCvb_em aEqn_em aEqn_nil aEqn_cons aEqn_ow0 aEqn_ow COND_bo
theorem hApp_em (σ : Hp) (id k bytes : Nat) (y : AV) : hApp σ id k bytes .em y = (match rowsOf σ k y with | some news => if news.all (fun r => r.all leafok) = true then (if news.length * bytes ≤ 140737488355328 then (match news with | [] => some (.em, []) | _ :: _ => some (.ow id k 0 news.length, [(id, some (.c ⟨k, news, true, true⟩))])) else none) else none | none => none) := rfl
theorem hApp_ow (σ : Hp) (id k bytes i k' len : Nat) (y : AV) : hApp σ id k bytes (.ow i k' 0 len) y = (match rowsOf σ k y with | some news => if news.all (fun r => r.all leafok) = true then (match σ i with | some (.c b) => if k' = k ∧ b.k = k ∧ b.wr = true ∧ b.cl = true ∧ b.rows.length = len ∧ (len + news.length) * bytes ≤ 140737488355328 ∧ i ≠ id then some (.ow id k 0 (len + news.length), [(i, none), (id, some (.c ⟨k, b.rows ++ news, true, true⟩))]) else none | _ => none) else none | none => none) := rfl
theorem cells_bool (x : Bool) : (.sc (.bool x) : AV).cells = some [.sc (.bool x)] := rfl
theorem leaf_bool (x : Bool) : leafok (.sc (.bool x)) = true := rfl
theorem clo_bool (x : Bool) : clo (.sc (.bool x)) = true := rfl
theorem cells_int (k : IntKind) (x : Int) : (.sc (.int k x) : AV).cells = some [.sc (.int k x)] := rfl
theorem leaf_int (k : IntKind) (x : Int) : leafok (.sc (.int k x)) = true := rfl
theorem clo_int (k : IntKind) (x : Int) : clo (.sc (.int k x)) = true := rfl
theorem cells_iface (t : TypeId) (x : Value) : (.sc (.iface t x) : AV).cells = some [.sc (.iface t x)] := rfl
theorem leaf_iface (t : TypeId) (x : Value) : leafok (.sc (.iface t x)) = true := rfl
theorem clo_iface (t : TypeId) (x : Value) : clo (.sc (.iface t x)) = true := rfl
theorem cells_nilI : (.sc .nilIface : AV).cells = some [.sc .nilIface] := rfl
theorem leaf_nilI : leafok (.sc .nilIface) = true := rfl
theorem clo_nilI : clo (.sc .nilIface) = true := rfl
theorem cells_ptr (x : Option Addr) : (.sc (.pointer x) : AV).cells = some [.sc (.pointer x)] := rfl
theorem leaf_ptr (x : Option Addr) : leafok (.sc (.pointer x)) = true := rfl
theorem clo_ptr (x : Option Addr) : clo (.sc (.pointer x)) = true := rfl
theorem cells_s (x : List UInt8) : (.s x : AV).cells = some [.s x] := rfl
theorem leaf_s (x : List UInt8) : leafok (.s x) = true := rfl
theorem clo_s (x : List UInt8) : clo (.s x) = true := rfl
theorem cells_em : (.em : AV).cells = some [.em] := rfl
theorem leaf_em : leafok (.em) = true := rfl
theorem clo_em : clo (.em) = true := rfl
theorem cells_tr (x : List (List AV)) : (.tr x : AV).cells = some [.tr x] := rfl
theorem leaf_tr (x : List (List AV)) : leafok (.tr x) = true := rfl
theorem clo_tr (x : List (List AV)) : clo (.tr x) = true := rfl
theorem cells_ow (i k off len : Nat) : (.ow i k off len : AV).cells = some [.ow i k off len] := rfl
theorem leaf_ow (i k off len : Nat) : leafok (.ow i k off len) = true := rfl
theorem clo_ow (i k off len : Nat) : clo (.ow i k off len) = false := rfl
theorem cells_rf (i k r c : Nat) : (.rf i k r c : AV).cells = some [.rf i k r c] := rfl
theorem leaf_rf (i k r c : Nat) : leafok (.rf i k r c) = true := rfl
theorem clo_rf (i k r c : Nat) : clo (.rf i k r c) = false := rfl
theorem cells_mp (i : Nat) : (.mp i : AV).cells = some [.mp i] := rfl
theorem leaf_mp (i : Nat) : leafok (.mp i) = true := rfl
theorem clo_mp (i : Nat) : clo (.mp i) = false := rfl
theorem cells_fp (x : List AV) : (.fp x : AV).cells = some [.fp x] := rfl
theorem leaf_fp (x : List AV) : leafok (.fp x) = true := rfl
theorem clo_fp (x : List AV) : clo (.fp x) = true := rfl
theorem cells_fn (f : Nat) (x : List AV) : (.fn f x : AV).cells = some [.fn f x] := rfl
theorem leaf_fn (f : Nat) (x : List AV) : leafok (.fn f x) = true := rfl
theorem clo_fn (f : Nat) (x : List AV) : clo (.fn f x) = false := rfl
theorem cells_ag (x : List AV) : (.ag x : AV).cells = some x := rfl
end
attribute [go_sem] aPick_b aFad_rf aFad_fp part_none part_some aFld_ag aIad_tr aIad_ow aIstr_s aIarr_ag aUn_not aUn_neg aCvi_int aCvs_s aLen_s aLen_em aLen_tr aLen_ow asI_int aSlc_em aSlc_tr aSlc_ow aSstr_s aExt_tp aNck_rf aNck_fp aNck_fn aMki_sc aTas_iface aTas_nil aLd_rf aLd_fp aEqs_ag aEqb_b aEqp_eq eqP_nr eqP_rn eqP_nf eqP_fn eqP_nn eqP_rr bin_add bin_sub bin_mul bin_and bin_or bin_xor bin_andNot bin_quo bin_rem bin_eql bin_lss bin_leq bin_gtr bin_geq bin_neq bin_shl bin_shr binS_add binS_eql binS_neq binS_lss binS_leq binS_gtr binS_geq rowsOf_em rowsOf_tr rowsOf_ow hSt_rf hApp_em hApp_ow cells_bool leaf_bool clo_bool cells_int leaf_int clo_int cells_iface leaf_iface clo_iface cells_nilI leaf_nilI clo_nilI cells_ptr leaf_ptr clo_ptr cells_s leaf_s clo_s cells_em leaf_em clo_em cells_tr leaf_tr clo_tr cells_ow leaf_ow clo_ow cells_rf leaf_rf clo_rf cells_mp leaf_mp clo_mp cells_fp leaf_fp clo_fp cells_fn leaf_fn clo_fn cells_ag
attribute [go_sem] bindP_some bindS_some bindH_some onEnd_ret onEnd_pan onEnd_ite PAN_iface COND_bifd COND_true COND_false COND_decide COND_not guardP_on guardP_t guardP_f guardP_none guardP_decT guardP_decF guardP_notT guardP_notF guardK_on guardK_t guardK_f guardK_none guardK_decT guardK_decF guardK_notT guardK_notF guardD_on guardD_t guardD_f guardD_none JOIN_eq applyW_nil applyW_cons hAlloc hBox hBsl fillR fillA aBuild eqK splice ofC ofV optI bb ii frz tupA brw_sc brw_s brw_em brw_tr brw_fp brw_ag brw_tp brw_fn brwL_nil brwL_cons beqI beqL beqB decide_eq_false_iff_not
attribute [go_sem] List.getD_cons_zero List.getD_cons_succ List.getElem?_cons_zero List.getElem?_cons_succ List.length_cons List.length_nil List.take_succ_cons List.take_zero List.drop_succ_cons List.drop_zero List.take_nil List.drop_nil List.cons_append List.nil_append List.append_nil List.map_cons List.map_nil List.foldr_cons List.foldr_nil List.all_cons List.all_nil List.set_cons_zero List.set_cons_succ List.replicate_succ List.replicate_zero Option.map_some Option.map_none Option.bind_some Bool.and_true Bool.true_and Bool.and_self Bool.not_true Bool.not_false Bool.not_not Bool.false_eq_true Bool.true_eq_false ite_true ite_false if_true if_false and_true true_and and_self and_false false_and or_true true_or or_false false_or not_true_eq_false not_false_eq_true ne_eq beq_self_eq_true true_implies forall_const false_implies implies_true cond_true cond_false Int.toNat_natCast Int.natCast_nonneg Int.toNat_zero Nat.lt_add_one Int.le_refl Nat.le_refl decide_true decide_false decide_eq_true_eq
attribute [go_sem] List.length_map Int.lt_irrefl List.getElem?_map bnd ge_iff_le gt_iff_lt
attribute [go_sem] COND_bool guardP_if guardK_if guardD_if COND_bif onEnd_cond decide_eq_false_iff_not Bool.not_eq_true' Bool.not_eq_false'
attribute [go_sem ↓] guardP_if guardP_on guardP_t guardP_f guardP_none guardK_if guardK_on guardK_t guardK_f guardK_none guardD_if guardD_on guardD_t guardD_f guardD_none COND_bool COND_true COND_false onEnd_ret onEnd_pan onEnd_ite onEnd_cond bindP_some bindS_some bindH_some JOIN_eq PAN_iface
end Go.Proofs.Ytlhnncmflnjinaa.Am

set_option linter.unusedSimpArgs false
set_option linter.unusedVariables false
namespace Go.Proofs.Ytlhnncmflnjinaa.Am
open Go Go.RowKit

/-- captured values that say nothing of a heap but names of blocks -/
def isRf : AV → Bool
  | .rf _ _ _ _ => true
  | .sc _ => true
  | _ => false
theorem isRf_keep {M M' : Nat → Prop} {w w' : World} {β β' : Nat → Option Nat} {v : Value} {x : AV} (h : Rel M w β v x) (hx : isRf x = true) (hb : ∀ i b, β i = some b → β' i = some b) : Rel M' w' β' v x := by
  cases h <;> simp only [isRf, Bool.false_eq_true] at hx
  · exact .sc _
  · exact .rf _ _ _ _ _ (hb _ _ (by assumption))
def modeOf : Option Value → FrameMode
  | none => .returning
  | some x => .panicking [{ v := x, recovered := false }]
def modeAfter : Option Value → FrameMode
  | none => .returning
  | some x => .panicking [{ v := x, recovered := true }]
/-- a deferred closure that asks for the panic and swallows it -/
def ConR (P : Program) (g : FuncId) (args : List AV) (σ : Hp) (n : Nat) (pv : Option Value) (R : Hp → Nat → Prop) : Prop :=
  goFn P g = true ∧ ∀ (N : Nat → Prop) (T : Nat) (U : Nat → Prop) (β : Nat → Option Nat) (w : World) (vs : Array Value), T ≤ n → Aw N (own β σ) w → HRel N β σ (Fn T U n) w → Cells (live N β σ) w β vs args →
    CallsD P g vs (modeOf pv) w fun e u w' => (∃ v, e = .returned v) ∧ u = modeAfter pv ∧ ∃ β' σ' n', R σ' n' ∧ n ≤ n' ∧ Leaves N β σ w (.returned (.tuple #[])) w' β' σ' (Fn T U n') (.ret (.tp []))
def DEF (P : Program) (fv : AV) (pv : Option Value) (σ : Hp) (n : Nat) (K : Hp → Nat → Prop) : Prop := match fv with
  | .fn g caps => caps.all isRf = true ∧ ∃ R, ConR P g caps σ n pv R ∧ ∀ σ' n', R σ' n' → n ≤ n' → K σ' n'
  | _ => False
def dfrR (P : Program) (S : Nat) (ops : Array Oper) : Option (List SOper × Opd) := match ops.toList.getLast? with
  | some o => (match o.op, o.guard, o.dst with
    | .defer c, none, none => (match c.callee with
      | .value x => if c.args.size = 0 then (cmpL P S ops ops.toList.dropLast).map fun sl => (sl, cOpd x) else none
      | _ => none)
    | _, _, _ => none)
  | none => none
/-- a body whose way leads past one defer: what is ahead of it, the closure, what is behind -/
def cmpDf (P : Program) (S : Nat) (X : List Nat) : Code → Option (SCode × Opd × SCode)
  | .seq a b => match (match a with | .region _ ops false => dfrR P S ops | _ => none) with
    | some (sl, x) => (cmpC P S X b).map fun sb => (.reg sl, x, sb)
    | none => match cmpC P S X a, cmpDf P S X b with
      | some sa, some (pa, x, pb) => some (.seq sa pa, x, pb)
      | _, _ => none
  | _ => none
def dfK (next : Kn) (Q : Ks) : Ks
  | .normal => next
  | .exit id => Q (.exit id)
  | .goto l => Q (.goto l)
  | .ret => Q .ret
  | .pan v => Q (.pan v)
/-- the end of a body behind its defer -/
def dq (P : Program) (rs : List RV) (R : AEnd → Hp → Nat → Prop) (fv : AV) : Ks
  | .normal => fun fr σ n => DEF P fv none σ n (fun σ n => retC σ fr rs (fun vs => R (.ret (tupA vs)) σ n))
  | .ret => fun fr σ n => DEF P fv none σ n (fun σ n => retC σ fr rs (fun vs => R (.ret (tupA vs)) σ n))
  | .pan x => fun fr σ n => DEF P fv (some x) σ n (fun σ n => retC σ fr rs (fun vs => R (.ret (tupA vs)) σ n))
  | .exit _ => fun _ _ _ => False
  | .goto _ => fun _ _ _ => False
def DFN (fv : AV) (K : Prop) : Prop := match fv with
  | .fn _ _ => K
  | _ => False
def swpD (P : Program) (pa : SCode) (x : Opd) (pb : SCode) (rs : List RV) (R : AEnd → Hp → Nat → Prop) : Kn := swp P pa (dfK (fun fr σ n => DFN (x.get fr) (swp P pb (dq P rs R (x.get fr)) fr σ n)) (retQ rs R))
section
variable {P : Program} {N : Nat → Prop} {w0 : World} {M0 : Nat → Prop} {β0 : Nat → Option Nat} {β : Nat → Option Nat} {fr : Regs} {σ : Hp} {F : Nat → Prop} {a : Act} {w : World}
theorem dfr_sound {S : Nat} {X : List Nat} {x : Opd} {pb : SCode} {T : Nat} {U : Nat → Prop} {rs : List RV} {R : AEnd → Hp → Nat → Prop} {Q' : Exit → Act → World → Prop}
    (hA : ∀ e β fr σ n a w, T ≤ n → SRel N w0 M0 β0 [] β fr σ (Fn T U n) a w → e ≠ .normal → retQ rs R e fr σ n → Q' e.conv a w)
    (hB : ∀ e (g : FuncId) (caps : List AV) (vs : Array Value) β fr σ n a w, T ≤ n → vs.size = caps.length → (∀ (i : Nat) (u : Value) (z : AV), vs[i]? = some u → caps[i]? = some z → isRf z = true → Rel (live N β σ) w β u z) →
      SRel N w0 M0 β0 [⟨.fn (.func g) vs, #[]⟩] β fr σ (Fn T U n) a w → dq P rs R (.fn g caps) e fr σ n → Q' e.conv a w) :
    ∀ (c : Code) (pa : SCode), cmpDf P S X c = some (pa, x, pb) → ∀ (β : Nat → Option Nat) (fr : Regs) (σ : Hp) (n : Nat) (a : Act) (w : World), T ≤ n → a.tmps.size = S → SRel N w0 M0 β0 [] β fr σ (Fn T U n) a w →
      swpD P pa x pb rs R fr σ n → c.wp P Q' a w := by
  intro c
  induction c with
  | seq ca cb _ ihb =>
    intro pa hc β fr σ n a w hT hS Rl h
    simp only [cmpDf] at hc
    split at hc
    · rename_i sl x' hd
      obtain ⟨sb, hsb, e⟩ := Option.map_eq_some_iff.1 hc
      cases e
      split at hd
      · rename_i id ops _
        unfold dfrR at hd
        split at hd
        · rename_i o hlast
          split at hd
          · rename_i c hop hg hdst
            split at hd
            · rename_i x0 hcal
              split at hd
              · rename_i hz
                obtain ⟨sl', hsl, e⟩ := Option.map_eq_some_iff.1 hd
                cases e
                have hops : ops.toList = ops.toList.dropLast ++ [o] := by
                  obtain ⟨ys, hys⟩ := List.getLast?_eq_some_iff.1 hlast
                  rw [hys, List.dropLast_concat]
                refine wp_seq (wpIn_wide.1 (wpIn_region_list (F := FW none) (n := 0) ?_))
                rw [hops]
                refine sops_soundT (rr := none) (K := fun fr σ n => DFN ((cOpd x0).get fr) (swp P pb (dq P rs R ((cOpd x0).get fr)) fr σ n)) (Kp := fun v => retQ rs R (.pan v)) [o] (fun β1 fr1 σ1 n1 a1 w1 hT1 hS1 R1 h1 => ?_) (fun v β1 fr1 σ1 n1 a1 w1 hT1 hS1 R1 h1 => ?_) _ _ β fr σ n a w hsl hT hS Rl h
                · unfold DFN at h1
                  split at h1
                  · rename_i g caps hfv
                    have hfr := rel_get R1 x0
                    rw [hfv] at hfr
                    generalize hv0 : a1.eval x0 = v0 at hfr
                    cases hfr with
                    | fn _ vs _ hn hr =>
                      have hrun : (execOp a1.eval o).run P w1 = .ok (.defer ⟨.fn (.func g) vs, #[]⟩) w1 := by
                        have : c.args = #[] := Array.eq_empty_of_size_eq_zero hz
                        simp [execOp, hop, resolve, hcal, hv0, Deferred.ofValue, this]
                      unfold wpListIn
                      rw [if_pos (by simp [Region.wanted, hg])]
                      refine ⟨fun _ _ => trivial, ?_⟩
                      rw [Oper.semAt_none, hrun, Oper.uponIn_defer]
                      unfold wpListIn
                      rw [hdst]
                      have R2 : SRel N w0 M0 β1 [⟨.fn (.func g) vs, #[]⟩] β1 fr1 σ1 (Fn T U n1) { a1 with defers := ⟨.fn (.func g) vs, #[]⟩ :: a1.defers } w1 := ⟨R1.heap, R1.regs, R1.frame, R1.old, R1.away, by simp [R1.defers], fun _ _ h => h⟩
                      refine swp_soundW cb pb hsb T U (dq P rs R (.fn g caps)) Q' ?_ β1 fr1 σ1 n1 _ w1 hT1 hS1 R2 (by rw [hfv] at h1; exact h1)
                      intro e β2 fr2 σ2 n2 a2 w2 hT2 hS2 R3 h2
                      refine hB e g caps vs β2 fr2 σ2 n2 a2 w2 hT2 hn (fun i u z hu hz hrf => isRf_keep (hr i u z hu hz) hrf R3.ext) ?_ h2
                      exact ⟨R3.heap, R3.regs, R3.frame, R3.old, R3.away, R3.defers, fun i b h => R3.ext i b (R1.ext i b h)⟩
                  · exact h1.elim
                · exact hA (.pan v) β1 fr1 σ1 n1 a1 w1 hT1 R1 (by simp) h1
              · cases hd
            · cases hd
          · cases hd
        · cases hd
      · cases hd
    · split at hc
      · rename_i q sa pa' x' pb' h1 h2
        cases hc
        refine wp_seq (swp_soundW ca sa h1 T U (thenK (swpD P pa' x pb rs R) (dfK (fun fr σ n => DFN (x.get fr) (swp P pb (dq P rs R (x.get fr)) fr σ n)) (retQ rs R))) _ ?_ β fr σ n a w hT hS Rl h)
        intro e β1 fr1 σ1 n1 a1 w1 hT1 hS1 R1 h1
        cases e with
        | normal => exact ihb pa' h2 β1 fr1 σ1 n1 a1 w1 hT1 hS1 R1 h1
        | exit id => exact hA (.exit id) β1 fr1 σ1 n1 a1 w1 hT1 R1 (by simp) h1
        | goto l => exact hA (.goto l) β1 fr1 σ1 n1 a1 w1 hT1 R1 (by simp) h1
        | ret => exact hA .ret β1 fr1 σ1 n1 a1 w1 hT1 R1 (by simp) h1
        | pan v => exact hA (.pan v) β1 fr1 σ1 n1 a1 w1 hT1 R1 (by simp) h1
      · cases hc
  | _ => intro pa hc; simp [cmpDf] at hc
/-- a contract of a function that defers a closure -/
theorem conH_of_defer {f : FuncId} {fn : Func} {args : List AV} {n : Nat} {R : AEnd → Hp → Nat → Prop} {pa pb : SCode} {x : Opd} (rs : List RV) (hf : P.funcs[f]? = some fn) (X : List Nat) (hc : fn.body.bind (cmpDf P fn.ntmps X) = some (pa, x, pb)) (hgo : goFn P f = true) (hS : decide (args.length ≤ fn.ntmps) = true)
    (hres : resT P fn.results.toList = some rs) (h : swpD P pa x pb rs R (entry args) σ n) : ConH P f args σ n R := by
  obtain ⟨c, hb, hc⟩ := Option.bind_eq_some_iff.1 hc
  have hS := of_decide_eq_true hS
  refine ⟨hgo, fun N T U β w vs hT hN H hargs => ?_⟩
  have hsz : vs.size = args.length := hargs.1
  refine calls_of_wp_defers hf hb ?_
  have R0 : SRel N w (own β σ) β [] β (entry args) σ (Fn n (fun i => U i ∧ i < T) n) { tmps := vs ++ Array.replicate (fn.ntmps - vs.size) undef, defers := [] } w := by
    refine ⟨⟨fun i hi => H.dom i ((fn_up hT i).1 hi), H.off, H.inj, H.blk, H.map, H.lp, H.df⟩, fun t => ?_, Fr.refl _ _, fun b h _ => h, hN, rfl, fun _ _ h => h⟩
    unfold entry
    by_cases ht : t < args.length
    · have e1 : (vs ++ Array.replicate (fn.ntmps - vs.size) undef).getD t undef = vs[t] := by
        rw [Array.getD_eq_getD_getElem?, Array.getElem?_append_left (by omega)]; simp [hsz, ht]
      have e2 : args.getD t (.tp []) = args[t] := by simp [List.getD, ht]
      simp only [e1, e2]
      exact hargs.2 t vs[t] args[t] (by simp [hsz, ht]) (by simp [ht])
    · have e1 : (vs ++ Array.replicate (fn.ntmps - vs.size) undef).getD t undef = undef := by
        rw [Array.getD_eq_getD_getElem?, Array.getElem?_append_right (by omega), Array.getElem?_replicate]
        split <;> rfl
      have e2 : args.getD t (.tp []) = .tp [] := by simp [List.getD, List.getElem?_eq_none (Nat.le_of_not_lt ht)]
      simp only [e1, e2]
      exact .tp #[] [] rfl (fun i u z h _ => by simp at h)
  have hsize : (vs ++ Array.replicate (fn.ntmps - vs.size) undef).size = fn.ntmps := by simp; omega
  -- how it ends
  have fin : ∀ ds β' fr σ' n' a w', n ≤ n' → SRel N w (own β σ) β ds β' fr σ' (Fn n (fun i => U i ∧ i < T) n') a w' → retC σ' fr rs (fun vs => R (.ret (tupA vs)) σ' n') →
      ∃ v, (results fn a.tmps).run P w' = .ok v w' ∧ ∃ β' r σ' n', R r σ' n' ∧ n ≤ n' ∧ Leaves N β σ w (.returned v) w' β' σ' (Fn T U n') r := by
    intro ds β' fr σ' n' a w' hn Rf h
    obtain ⟨vs, hv, h⟩ := retC_of h
    obtain ⟨v, e1, e2⟩ := results_run Rf hres hv
    exact ⟨v, e1, β', _, σ', n', h, hn, Rf.ext, (Rf.free (fun i hi => (fn_up hT i).2 hi)).heap, e2, Rf.frame, Rf.old⟩
  refine dfr_sound (T := n) (U := fun i => U i ∧ i < T) (rs := rs) (R := R) ?_ ?_ c pa hc β _ σ n _ w (Nat.le_refl n) hsize R0 h
  · intro e β' fr σ' n' a w' hn Rf hne h
    cases e with
    | normal => exact absurd rfl hne
    | ret =>
      obtain ⟨v, e1, e2⟩ := fin _ β' fr σ' n' a w' hn Rf h
      simp only [SExit.conv, bodyPostD, Rf.defers]
      exact ⟨v, e1, e2⟩
    | exit id => exact h.elim
    | goto l => exact h.elim
    | pan v =>
      simp only [SExit.conv, bodyPostD, Rf.defers]
      exact ⟨β', _, σ', n', h, hn, Rf.ext, (Rf.free (fun i hi => (fn_up hT i).2 hi)).heap, rfl, Rf.frame, Rf.old⟩
  · intro e g caps vs' β' fr σ' n' a w' hn hnv hcaps Rf h
    have run : ∀ pv, DEF P (.fn g caps) pv σ' n' (fun σ n => retC σ fr rs (fun vs => R (.ret (tupA vs)) σ n)) →
        Go.Leaves P fn a.tmps (fun e w'' => ∃ β' r σ' n', R r σ' n' ∧ n ≤ n' ∧ Leaves N β σ w e w'' β' σ' (Fn T U n') r) a.defers (modeOf pv) w' := by
      intro pv hd
      obtain ⟨hrf, R1, hcon, hk⟩ := hd
      rw [Rf.defers]
      have hinv : (invoke (.fn (.func g) vs') #[]).run P w' = .ok (.enter g vs') w' := by simp [invoke, run_callFunc hcon.1]
      refine ⟨by cases pv <;> simp [modeOf], .func g, vs', g, vs', rfl, hinv, ?_⟩
      have hb := aw_now Rf
      refine (hcon.2 N n (fun i => U i ∧ i < T) β' w' vs' hn hb Rf.heap ⟨hnv, fun i u z hu hz => hcaps i u z hu hz (List.all_eq_true.1 hrf z (List.mem_of_getElem? hz))⟩).mono ?_
      rintro e u' w'' ⟨⟨v, rfl⟩, rfl, β2, σ2, n2, hr, hn2, hl⟩
      have R2 := Rf.after hl
      obtain ⟨v', e1, e2⟩ := fin _ β2 fr σ2 n2 a w'' (by omega) R2 (hk σ2 n2 hr hn2)
      cases pv <;> exact ⟨v', e1, e2⟩
    cases e with
    | normal => exact run none h
    | ret => exact run none h
    | exit id => exact h.elim
    | goto l => exact h.elim
    | pan v => exact run (some v) h
/-! the closure itself -/
def isRec (o : Oper) : Bool := match o.op with
  | .call c => (match c.callee with
    | .builtin .recover => c.args.size == 0
    | _ => false)
  | _ => false
def recR (P : Program) (S : Nat) (ops : Array Oper) : Option (Nat × List SOper) := match ops.toList with
  | o :: l => (match o.guard, o.dst with
    | none, some d => if isRec o = true ∧ d < S then (cmpL P S ops l).map fun sl => (d, sl) else none
    | _, _ => none)
  | [] => none
def cmpRc (P : Program) (S : Nat) (X : List Nat) : Code → Option (Nat × SCode)
  | .region _ ops false => (recR P S ops).map fun p => (p.1, .reg p.2)
  | .seq (.region _ ops false) b => match recR P S ops, cmpC P S X b with
    | some (d, sl), some sb => some (d, .seq (.reg sl) sb)
    | _, _ => none
  | _ => none
def recV : Option Value → AV
  | none => .sc .nilIface
  | some x => .sc x
def recVal : Option Value → Value
  | none => .nilIface
  | some x => x
def recQ (R : Hp → Nat → Prop) : Ks
  | .normal => fun _ σ n => R σ n
  | .ret => fun _ σ n => R σ n
  | _ => fun _ _ _ => False
theorem recover_run {o : Oper} (h : isRec o = true) : (execOp a.eval o).run P w = .ok .recover w := by
  unfold isRec at h
  split at h
  · rename_i c hc
    split at h
    · rename_i hcal
      simp [execOp, hc, resolve, hcal, invoke, Go.builtin]
    · cases h
  · cases h
theorem wpS_rec {id : Nat} {ops : Array Oper} {o : Oper} {l : List Oper} {Q : Exit → Act → List Frame → World → Prop} {c₀ : Frame} {cs : List Frame} {pv : Option Value} (hl : ops.toList = o :: l) (hr : isRec o = true) (hg : o.guard = none) (hm : c₀.mode = modeOf pv)
    (h : wpListIn (FW none) 0 P ops (fun e a w => Q e a ({ c₀ with mode := modeAfter pv } :: cs) w) l (a.put o.dst (recVal pv)) w) : (Code.region id ops false).wpS P Q a (c₀ :: cs) w := by
  intro b k hb hro
  have h0 : ops[0]? = some o := by rw [← Array.getElem?_toList, hl]; rfl
  have hrange : List.range ops.size = 0 :: List.range' 1 l.length := by
    rw [List.range_eq_range', ← Array.length_toList, hl, List.length_cons, List.range'_succ]
  have hw : Region.wanted o (yielded ops a.tmps) = true := by simp [Region.wanted, hg]
  have hops : wpOpsIn (FW none) 0 P ops (fun e a w => Q e a ({ c₀ with mode := modeAfter pv } :: cs) w) (List.range' 1 l.length) (a.put o.dst (recVal pv)) w := by
    rw [wpOpsIn_eq_wpListIn l 1 (fun j => by rw [← Array.getElem?_toList, hl, Nat.add_comm, List.getElem?_cons_succ])]
    exact h
  obtain ⟨e, a', w', hq, harr⟩ := wp_opsIn _ _ _ hops { b with roundOf := none } k ({ c₀ with mode := modeAfter pv } :: cs) rfl trivial (room_wide _)
  have harr : Arrives P (lone (b.at (a.put o.dst (recVal pv)) (.inRegion ops (List.range' 1 l.length) :: k)) ({ c₀ with mode := modeAfter pv } :: cs) w) b k ({ c₀ with mode := modeAfter pv } :: cs) e a' w' := (arrivesIn_iff (b := { b with roundOf := none }) (fun _ _ => stepsIn_wide) rfl).1 harr
  refine ⟨e, a', _, w', hq, .of_steps (.head step_region ?_) harr⟩
  rw [hrange]
  have hgs := stepG_op (P := P) (b := b) (k := k) (cs := c₀ :: cs) (w := w) (rest := List.range' 1 l.length) h0 hw
  have hfin : ∀ v, (b.at a (.inRegion ops (0 :: List.range' 1 l.length) :: k)).finish v = b.at (a.put o.dst v) (.inRegion ops (List.range' 1 l.length) :: k) := by
    intro v; rw [Frame.finish_at, h0]; rfl
  have hk : (b.at a (.inRegion ops (0 :: List.range' 1 l.length) :: k)).kind = .deferred := hb
  have htr := tryRecover_deferred hk (c₀ :: cs)
  have hrun := recover_run (P := P) (a := a) (w := w) hr
  refine .one (step_lone_go ?_)
  rw [hgs, ← hfin]
  cases pv with
  | none =>
    have hc : ({ c₀ with mode := modeAfter none } : Frame) = c₀ := by cases c₀; simp only [modeOf] at hm; subst hm; rfl
    have hrec : recoverD (c₀ :: cs) = none := by simp [recoverD, hm, modeOf]
    simp only [Frame.at] at htr ⊢
    simp [stepG.apply, hrun, htr, hrec, hc, recVal]
  | some x =>
    have hrec : recoverD (c₀ :: cs) = some (x, { c₀ with mode := modeAfter (some x) } :: cs) := by simp [recoverD, hm, modeOf, modeAfter]
    simp only [Frame.at] at htr ⊢
    simp [stepG.apply, hrun, htr, hrec, recVal]
theorem conR_of {f : FuncId} {fn : Func} {args : List AV} {n d : Nat} {sc : SCode} {pv : Option Value} {R : Hp → Nat → Prop} (hf : P.funcs[f]? = some fn) (X : List Nat) (hc : fn.body.bind (cmpRc P fn.ntmps X) = some (d, sc)) (hgo : goFn P f = true) (hS : decide (args.length ≤ fn.ntmps) = true)
    (hres : fn.results.size = 0) (h : swp P sc (recQ R) (put (entry args) (some d) (recV pv)) σ n) : ConR P f args σ n pv R := by
  obtain ⟨c, hb, hc⟩ := Option.bind_eq_some_iff.1 hc
  have hS := of_decide_eq_true hS
  refine ⟨hgo, fun N T U β w vs hT hN H hargs => ?_⟩
  have hsz : vs.size = args.length := hargs.1
  refine callsD_of_wpS hf hb (fun c₀ cs hm => ?_)
  have R0 : SRel N w (own β σ) β [] β (entry args) σ (Fn n (fun i => U i ∧ i < T) n) { tmps := vs ++ Array.replicate (fn.ntmps - vs.size) undef, defers := [] } w := by
    refine ⟨⟨fun i hi => H.dom i ((fn_up hT i).1 hi), H.off, H.inj, H.blk, H.map, H.lp, H.df⟩, fun t => ?_, Fr.refl _ _, fun b h _ => h, hN, rfl, fun _ _ h => h⟩
    unfold entry
    by_cases ht : t < args.length
    · have e1 : (vs ++ Array.replicate (fn.ntmps - vs.size) undef).getD t undef = vs[t] := by
        rw [Array.getD_eq_getD_getElem?, Array.getElem?_append_left (by omega)]; simp [hsz, ht]
      have e2 : args.getD t (.tp []) = args[t] := by simp [List.getD, ht]
      simp only [e1, e2]
      exact hargs.2 t vs[t] args[t] (by simp [hsz, ht]) (by simp [ht])
    · have e1 : (vs ++ Array.replicate (fn.ntmps - vs.size) undef).getD t undef = undef := by
        rw [Array.getD_eq_getD_getElem?, Array.getElem?_append_right (by omega), Array.getElem?_replicate]
        split <;> rfl
      have e2 : args.getD t (.tp []) = .tp [] := by simp [List.getD, List.getElem?_eq_none (Nat.le_of_not_lt ht)]
      simp only [e1, e2]
      exact .tp #[] [] rfl (fun i u z h _ => by simp at h)
  have hsize : (vs ++ Array.replicate (fn.ntmps - vs.size) undef).size = fn.ntmps := by simp; omega
  have hrv : ∀ M β' w', Rel M w' β' (recVal pv) (recV pv) := fun M β' w' => by cases pv <;> exact .sc _
  have hQ : ∀ e β' fr σ' n' a w', n ≤ n' → a.tmps.size = fn.ntmps → SRel N w (own β σ) β [] β' fr σ' (Fn n (fun i => U i ∧ i < T) n') a w' → recQ R e fr σ' n' →
      bodyPostS P fn c₀ cs (fun e u w'' => (∃ v, e = .returned v) ∧ u = modeAfter pv ∧ ∃ β' σ' n', R σ' n' ∧ n ≤ n' ∧ Leaves N β σ w (.returned (.tuple #[])) w'' β' σ' (Fn T U n') (.ret (.tp []))) e.conv a ({ c₀ with mode := modeAfter pv } :: cs) w' := by
    intro e β' fr σ' n' a w' hn _ Rf hq
    have fin : R σ' n' → a.defers = [] ∧ ∃ u', ({ c₀ with mode := modeAfter pv } :: cs : List Frame) = { c₀ with mode := u' } :: cs ∧ ∃ v, (results fn a.tmps).run P w' = .ok v w' ∧ ((∃ v', Ending.returned v = .returned v') ∧ u' = modeAfter pv ∧ ∃ β' σ' n', R σ' n' ∧ n ≤ n' ∧ Leaves N β σ w (.returned (.tuple #[])) w' β' σ' (Fn T U n') (.ret (.tp []))) := by
      intro hr
      have hres' : fn.results = #[] := Array.eq_empty_of_size_eq_zero hres
      refine ⟨Rf.defers, modeAfter pv, rfl, .tuple #[], by simp [results, hres'], ⟨_, rfl⟩, rfl, β', σ', n', hr, hn, Rf.ext, (Rf.free (fun i hi => (fn_up hT i).2 hi)).heap, .tp #[] [] rfl (fun i u z h _ => by simp at h), Rf.frame, Rf.old⟩
    cases e with
    | normal => exact fin hq
    | ret => exact fin hq
    | exit id => exact hq.elim
    | goto l => exact hq.elim
    | pan v => exact hq.elim
  have main : ∀ (id : Nat) (ops : Array Oper) (d : Nat) (sl : List SOper) (K : Kn) (Kp : Value → Kn) (Q : Exit → Act → List Frame → World → Prop), recR P fn.ntmps ops = some (d, sl) →
      (∀ β' fr σ' n' a w', n ≤ n' → a.tmps.size = fn.ntmps → SRel N w (own β σ) β [] β' fr σ' (Fn n (fun i => U i ∧ i < T) n') a w' → K fr σ' n' → Q .normal a ({ c₀ with mode := modeAfter pv } :: cs) w') →
      (∀ x β' fr σ' n' a w', n ≤ n' → a.tmps.size = fn.ntmps → SRel N w (own β σ) β [] β' fr σ' (Fn n (fun i => U i ∧ i < T) n') a w' → Kp x fr σ' n' → Q (.panic [{ v := x, recovered := false }]) a ({ c₀ with mode := modeAfter pv } :: cs) w') →
      sops P K Kp sl (put (entry args) (some d) (recV pv)) σ n →
      (Code.region id ops false).wpS P Q { tmps := vs ++ Array.replicate (fn.ntmps - vs.size) undef, defers := [] } (c₀ :: cs) w := by
    intro id ops d sl K Kp Q hrec hK hKp hs
    unfold recR at hrec
    split at hrec
    · rename_i o l hl
      split at hrec
      · rename_i d' hg hd
        split at hrec
        · rename_i hcond
          obtain ⟨sl', hsl, e⟩ := Option.map_eq_some_iff.1 hrec
          cases e
          refine wpS_rec hl hcond.1 hg hm ?_
          refine sops_sound (rr := none) (Q := fun e a w => Q e a ({ c₀ with mode := modeAfter pv } :: cs) w) hK hKp l sl β _ σ n _ w hsl (Nat.le_refl n) (by rw [put_size, hsize]) (?_) hs
          rw [hd]
          exact R0.put (some d) (fun t ht => by cases ht; rw [hsize]; exact hcond.2) (hrv _ _ _)
        · cases hrec
      · cases hrec
    · cases hrec
  unfold cmpRc at hc
  split at hc
  · rename_i id ops
    obtain ⟨p, hp, e⟩ := Option.map_eq_some_iff.1 hc
    cases e
    exact main id ops p.1 p.2 (recQ R .normal) (fun v => recQ R (.pan v)) _ hp (fun β' fr σ' n' a w' h1 h2 h3 h4 => hQ .normal β' fr σ' n' a w' h1 h2 h3 h4) (fun x β' fr σ' n' a w' h1 h2 h3 h4 => h4.elim) h
  · rename_i id ops b
    split at hc
    · rename_i d' sl sb h1 h2
      cases hc
      refine wpS_seq (main id ops d sl (swp P sb (recQ R)) (fun v => recQ R (.pan v)) _ h1 (fun β' fr σ' n' a w' g1 g2 g3 g4 => ?_) (fun x β' fr σ' n' a w' g1 g2 g3 g4 => g4.elim) h)
      exact wpS_of_wp (swp_soundW b sb h2 n (fun i => U i ∧ i < T) (recQ R) _ (fun e β2 fr2 σ2 n2 a2 w2 k1 k2 k3 k4 => hQ e β2 fr2 σ2 n2 a2 w2 k1 k2 k3 k4) β' fr σ' n' a w' g1 g2 g3 g4)
    · cases hc
  · cases hc
end
attribute [go_sem] DFN
theorem DEF_con {P : Program} {g : FuncId} {caps : List AV} {pv : Option Value} {σ : Hp} {n : Nat} {K : Hp → Nat → Prop} (R : Hp → Nat → Prop) (hr : caps.all isRf = true) (h : ConR P g caps σ n pv R) (hk : ∀ σ' n', R σ' n' → n ≤ n' → K σ' n') : DEF P (.fn g caps) pv σ n K := ⟨hr, R, h, hk⟩
end Go.Proofs.Ytlhnncmflnjinaa.Am

set_option linter.unusedSimpArgs false
set_option linter.unusedVariables false
namespace Go.Proofs.Ytlhnncmflnjinaa.Am
open Go Go.RowKit
section
variable {P : Program}
theorem ConH.fresh {f : FuncId} {args : List AV} {σ : Hp} {n : Nat} {R : AEnd → Hp → Nat → Prop} (hgo : goFn P f = true) (h : (∀ j, n ≤ j → σ j = none) → ConH P f args σ n R) : ConH P f args σ n R :=
  ⟨hgo, fun N T U β w vs hT hN H hargs => (h (fun j hj => (H.dom j (.inl hj)).2)).2 N T U β w vs hT hN H hargs⟩
/-- what it makes of the memory, but for what is forgotten -/
theorem conW_less {f : FuncId} {args : List AV} {pre : List (Nat × Ob)} {id : Nat} {r : AEnd} {wr : Wr} (hgo : goFn P f = true)
    (h : ∀ (σ : Hp) (n : Nat), (∀ p ∈ pre, σ p.1 = some p.2) → (∀ j, n ≤ j → σ j = none) → ConH P f args σ n (fun r' σ' _ => r' = r ∧ ∀ i x, applyW σ wr i = some x → σ' i = some x)) : ConW P f args pre id r wr :=
  conW_of hgo fun σ n hp _ => ConH.fresh hgo fun hf => (h σ n hp hf).mono fun r' σ' n' _ ⟨h1, h2⟩ => by
    subst h1
    exact .less _ _ _ _ (applyW σ wr) _ _ (fun i x hx => ⟨x, h2 i x hx, .refl x⟩) (.done _ _ _ _)
/-- the same; how it ends is told behind a name -/
theorem conW_less' {f : FuncId} {args : List AV} {pre : List (Nat × Ob)} {id : Nat} {r : AEnd} {wr : Wr} (hgo : goFn P f = true)
    (h : ∀ (σ : Hp) (n : Nat) (R : AEnd → Hp → Nat → Prop), (∀ p ∈ pre, σ p.1 = some p.2) → (∀ j, n ≤ j → σ j = none) → (∀ r' σ' n', r' = r → (∀ i x, applyW σ wr i = some x → σ' i = some x) → R r' σ' n') → ConH P f args σ n R) : ConW P f args pre id r wr :=
  conW_less hgo fun σ n hp hf => h σ n _ hp hf (fun _ _ _ h1 h2 => ⟨h1, h2⟩)
theorem CALL_conW {g : FuncId} {caps args : List AV} {pre : List (Nat × Ob)} {r : AEnd} {wr : Wr} {σ : Hp} {n : Nat} {K : AEnd → Hp → Nat → Prop} (h : ConW P g (args ++ caps) pre n r wr) (hp : ∀ p ∈ pre, σ p.1 = some p.2)
    (hk : ∀ n', n + 16 ≤ n' → K r (applyW σ wr) n') : CALL P (.fn g caps) args σ n K := .w ⟨pre, r, wr, hp, h, hk⟩
/-- a counter's block -/
abbrev blk1 (v : AV) : Ob := .c ⟨1, [[v]], true, false⟩
theorem brw_rf' (σ : Hp) (d i k r c : Nat) : brw σ (d + 1) (.rf i k r c) = (match σ i with
  | some (.c x) => if x.k = k then (match x.rows[r]? with
    | some row => if c < row.length then (brwL σ d (row.drop c)).map (fun p => (.fp p.1, i :: p.2)) else none
    | none => none) else none
  | _ => none) := rfl
theorem brw_ow' (σ : Hp) (d i k off len : Nat) : brw σ (d + 1) (.ow i k off len) = (match σ i with
  | some (.c x) => if x.k = k ∧ x.cl = true ∧ off + len ≤ x.rows.length ∧ 0 < k then some (.tr ((x.rows.drop off).take len), [i])
    else if x.k = k ∧ off + len ≤ x.rows.length ∧ 0 < k then (brwR σ d ((x.rows.drop off).take len)).map (fun p => (.tr p.1, i :: p.2)) else none
  | _ => none) := rfl
theorem brwR_cons (σ : Hp) (d : Nat) (a : List AV) (l : List (List AV)) : brwR σ d (a :: l) = match brwL σ d a, brwR σ d l with
  | some (c, I), some (cs, J) => some (c :: cs, I ++ J)
  | _, _ => none := rfl
attribute [go_sem] brw_rf' brw_ow' Apt names rdA rdY List.mem_cons List.not_mem_nil List.mem_append
end
end Go.Proofs.Ytlhnncmflnjinaa.Am

set_option linter.unusedSimpArgs false
set_option linter.unusedVariables false
namespace Go.Proofs.Ytlhnncmflnjinaa.Am
open Go Go.RowKit
section
variable {P : Program}
theorem conW_ofE {f : FuncId} {args : List AV} {pre : List (Nat × Ob)} {id k : Nat} {cl : Bool} {r : AEnd} {wr : Wr} (hgo : goFn P f = true)
    (h : ∀ (σ : Hp) (n : Nat), (∀ p ∈ pre, σ p.1 = some p.2) → (∀ q, q < 16 → σ (id + q) = none) → id + 16 ≤ n → (∀ j, n ≤ j → σ j = none) →
      ConH P f args σ n (fun r' σ' _ => Wn id r' σ' [] [] r (applyW σ wr) ∨ (r' = .ret .em ∧ r = .ret (.ow id k 0 0) ∧ wr = [(id, some (.c ⟨k, [], true, cl⟩))] ∧ ∀ i x, σ i = some x → σ' i = some x))) : ConW P f args pre id r wr := by
  refine ⟨hgo, fun N β σ F w vs hpre hid T hT hF hN H hargs => ?_⟩
  have H' : HRel N β σ (Fn T F T) w := ⟨fun i hi => H.dom i (hi.elim (hF i) (fun h => h.1)), H.off, H.inj, H.blk, H.map, H.lp, H.df⟩
  refine ((h σ T hpre (fun q hq => (H.dom _ (hid _ (by omega) (by omega))).2) hT (fun j hj => (H.dom j (hF j hj)).2)).2 N T F β w vs (Nat.le_refl _) hN H' hargs).mono ?_
  rintro e w' ⟨β', r', σ', n', hw, hn, hl⟩
  rcases hw with hw | ⟨rfl, rfl, rfl, hk⟩
  · obtain ⟨β2, h2⟩ := hw.sound hN (fun p hp => by cases hp) (fun p hp => by cases hp) (fun i hi _ => Or.inr ⟨hid _ (by omega) (by omega), by omega⟩) hl
    refine ⟨β2, n', hn, h2.1, ⟨fun i hi => h2.2.1.dom i ⟨?_, hi.2.1⟩, h2.2.1.off, h2.2.1.inj, h2.2.1.blk, h2.2.1.map, h2.2.1.lp, h2.2.1.df⟩, h2.2.2.1, h2.2.2.2.1, h2.2.2.2.2⟩
    rcases hi.2.2 with h | h
    · exact Or.inr ⟨hi.1, h⟩
    · exact Or.inl h
  · obtain ⟨l1, l2, l3, l4, l5⟩ := hl.less (σ2 := σ) (fun i x hx => ⟨x, hk i x hx, .refl x⟩)
    have R : SRel N w (own β σ) β [] β' (fun _ => .tp []) σ (Fn T F n') { tmps := #[], defers := [] } w' := ⟨l2, fun t => .tp #[] [] rfl (fun i u z h _ => by simp at h), l4, l5, hN, rfl, l1⟩
    obtain ⟨R', up⟩ := R.imagine id (Or.inr ⟨hid id (Nat.le_refl _) (by omega), by omega⟩) k cl
    refine ⟨β', n', hn, R'.ext, (R'.free (F' := fun j => F j ∧ ¬ (id ≤ j ∧ j < id + 16) ∧ (j < T ∨ n' ≤ j)) (fun j hj => ⟨?_, fun e => hj.2.1 ⟨by omega, by omega⟩⟩)).heap, ?_, R'.frame, R'.old⟩
    · rcases hj.2.2 with h | h
      · exact Or.inr ⟨hj.1, h⟩
      · exact Or.inl h
    · cases e with
      | returned v =>
        cases l3 with
        | em A => exact .ow0 _ _ _
      | panicked ch => exact l3.elim
      | _ => exact l3.elim
/-- a new block gets the name that was told -/
theorem wn_new {id j k off len : Nat} {x : Ob} {σ σ' : Hp} (hx : σ' j = some x) (hj : ∀ q, q < 16 → j ≠ id + q) (hj0 : σ j = none) (hk : ∀ i y, σ i = some y → σ' i = some y) :
    Wn id (.ret (.ow j k off len)) σ' [] [] (.ret (.ow id k off len)) (applyW σ [(id, some x)]) := by
  refine .move _ _ _ _ j 0 x _ _ hx (by omega) (by simp) hj (.ret _ (.ow (id + 0) k off len) _ _ _ _ _ (.ow j (id + 0) k off len (by simp)) (.less _ _ _ _ (applyW σ [(id, some x)]) _ _ (fun i y hy => ?_) (.done _ _ _ _)))
  simp only [applyW, upd, Nat.add_zero] at hy ⊢
  by_cases e : i = id
  · rw [if_pos e] at hy ⊢; exact ⟨y, hy, .refl y⟩
  · rw [if_neg e] at hy ⊢
    by_cases e2 : i = j
    · subst e2; rw [hj0] at hy; cases hy
    · rw [if_neg e2]; exact ⟨y, hk i y hy, .refl y⟩
end
end Go.Proofs.Ytlhnncmflnjinaa.Am

set_option linter.unusedSimpArgs false
set_option linter.unusedVariables false
namespace Go.Proofs.Ytlhnncmflnjinaa.Am
open Go Go.RowKit

section
variable {P : Program} {N : Nat → Prop} {w0 : World} {M0 : Nat → Prop} {β0 : Nat → Option Nat} {ds : List Deferred} {β : Nat → Option Nat} {fr : Regs} {σ : Hp} {F : Nat → Prop} {a : Act} {w : World}
/-- a record turns -/
theorem SRel.setLp (h : SRel N w0 M0 β0 ds β fr σ F a w) {i b D : Nat} {L : Lp} {gr : Regs} {S : Nat} {st : LoopState} {pe : Option Code} {tm : Array Value} (hσ : σ i = some (.lp L gr S st pe true)) (hb : β i = some b) (hl : LpAt (live N β σ) w β L gr S st pe b tm D) (st' : LoopState) (pe' : Option Code) :
    SRel N w0 M0 β0 ds β fr (upd σ i (some (.lp L gr S st' pe' true))) F a (w.putObj b (.loop { state := st', pending := pe', fn := L.fn, tmps := tm, params := L.params, assign := L.assign, body := L.body, defers := D })) := by
  have hlt : b < w.heap.size := (Array.getElem?_eq_some_iff.1 hl.1).1
  refine (h.setObj (w' := w.putObj b (.loop { state := st', pending := pe', fn := L.fn, tmps := tm, params := L.params, assign := L.assign, body := L.body, defers := D })) hσ rfl hb rfl rfl rfl World.putObj_size (fun g hg => World.putObj_heap_other hg) ?_ (.lp L gr S st' pe' true) (fun L' gr' S' s' p' w' e => by cases e; exact ⟨tm, D, World.putObj_heap_same hlt, hl.2.1, hl.2.2.1, hl.2.2.2⟩) (fun p wr e => by cases e) (fun z e => by cases e) (fun es wr e => by cases e)).1
  intro s hs; simp only [World.shape?, hl.1] at hs; cases hs
/-- the block of what was deferred is shut -/
theorem SRel.setDf (h : SRel N w0 M0 β0 ds β fr σ F a w) {i D : Nat} (hσ : σ i = some (.df true true)) (hb : β i = some D) (hl : w.heap[D]? = some (.deferred (some []))) :
    SRel N w0 M0 β0 ds β fr (upd σ i (some (.df false true))) F a (w.putObj D (.deferred none)) := by
  have hlt : D < w.heap.size := (Array.getElem?_eq_some_iff.1 hl).1
  refine (h.setObj (w' := w.putObj D (.deferred none)) hσ rfl hb rfl rfl rfl World.putObj_size (fun g hg => World.putObj_heap_other hg) ?_ (.df false true) (fun L' gr' S' s' p' w' e => by cases e) (fun p wr e => by cases e; exact World.putObj_heap_same hlt) (fun z e => by cases e) (fun es wr e => by cases e)).1
  intro s hs; simp only [World.shape?, hl] at hs; cases hs
/-- how a round's body may be left -/
def rndQ (y : Nat) (L : Lp) (gr : Regs) (S : Nat) (R : AEnd → Hp → Nat → Prop) : Ks
  | .normal => fun _ σ n => σ y = some (.lp L gr S .busy none true) ∧ R (.ret (bb true)) (upd σ y (some (.lp L gr S .ready none true))) n
  | .ret => fun _ σ n => σ y = some (.lp L gr S .busy none true) ∧ R (.ret (bb false)) (upd σ y (some (.lp L gr S .done (some .ret) true))) n
  | .exit id => fun _ σ n => σ y = some (.lp L gr S .busy none true) ∧ R (.ret (bb false)) (upd σ y (some (.lp L gr S .done (some (.exit id)) true))) n
  | .goto l => fun _ σ n => σ y = some (.lp L gr S .busy none true) ∧ R (.ret (bb false)) (upd σ y (some (.lp L gr S .done (some (.goto l)) true))) n
  | .pan _ => fun _ _ _ => False
def rndA (P : Program) (y : Nat) (L : Lp) (gr : Regs) (S : Nat) (sb : SCode) (R : AEnd → Hp → Nat → Prop) : Ks
  | .normal => fun fr σ n => σ y = some (.lp L gr S .ready none true) ∧ swp P sb (rndQ y L gr S R) fr (upd σ y (some (.lp L gr S .busy none true))) n
  | _ => fun _ _ _ => False
/-- a round, out of its code -/
theorem ycon_of {y : Nat} {x : AV} {L : Lp} {gr : Regs} {S p n : Nat} {R : AEnd → Hp → Nat → Prop} {sa sb : SCode} {X X' : List Nat} (hy : σ y = some (.lp L gr S .ready none true)) (hp : L.params = #[p]) (hpS : p < S)
    (hca : cmpC P S X L.assign = some sa) (hcb : cmpC P S X' L.body = some sb) (hna : noScope L.assign = true) (hnb : noScope L.body = true)
    (h : swp P sa (rndA P y L gr S sb R) (fun t => if t = p then x else gr t) σ n) : YCon P y [x] σ n R := by
  intro N T U β w vs l hT hA H hβ hargs
  obtain ⟨b, tm, D, h1, h2⟩ := H.lp y _ _ _ _ _ _ hy
  rw [hβ] at h1; cases h1
  have hsz : vs.size = 1 := hargs.1
  have hv := hargs.2 0 vs[0] x (Array.getElem?_eq_getElem (by omega)) rfl
  have hvs : vs = #[vs[0]] := by
    apply Array.ext
    · simp [hsz]
    · intro j h1 h2
      have : j = 0 := by omega
      subst this; rfl
  generalize vs[0] = v at hv hvs
  subst hvs
  refine ⟨L.fn, _, L.assign, L.body, run_yield h2.1 (by simp [hp]), ?_⟩
  refine roundIn_of_wpIn (F := Fence.wide) trivial ?_
  have hfold : (L.params.zip #[v]).foldl (fun tmps (q : Tmp × Value) => tmps.setIfInBounds q.1 q.2) tm = tm.setIfInBounds p v := by
    have hz : #[p].zip #[v] = #[(p, v)] := by apply Array.ext'; simp
    rw [hp, hz]; simp
  have R0 : SRel N w (own β σ) β [] β (fun t => if t = p then x else gr t) σ (Fn n (fun i => U i ∧ i < T) n) { tmps := tm.setIfInBounds p v, defers := [] } w := by
    refine ⟨⟨fun i hi => H.dom i ((fn_up hT i).1 hi), H.off, H.inj, H.blk, H.map, H.lp, H.df⟩, fun t => ?_, Fr.refl _ _, fun b h _ => h, hA, rfl, fun _ _ h => h⟩
    simp only [Array.getD_eq_getD_getElem?, Array.getElem?_setIfInBounds]
    by_cases e : t = p
    · subst e
      simp only [if_true, h2.2.2.1, hpS, Option.getD_some]
      exact hv
    · rw [if_neg e, if_neg (Ne.symm e), ← Array.getD_eq_getD_getElem?]
      exact h2.2.2.2 t
  refine swp_sound (rr := some l) L.assign sa hca (.inr hna) n (fun i => U i ∧ i < T) (rndA P y L gr S sb R) _ ?_ β _ σ n _ w (Nat.le_refl n) (by rw [hfold]; simp [h2.2.2.1]) (by rw [hfold]; exact R0) h
  intro e β1 fr1 σ1 n1 a1 w1 hn1 hS1 R1 hq
  cases e with
  | normal =>
    obtain ⟨hy1, hq⟩ := hq
    obtain ⟨b1, tm1, D1, k1, k2⟩ := R1.heap.lp y _ _ _ _ _ _ hy1
    rw [R1.ext _ _ hβ] at k1; cases k1
    refine ⟨_, run_beginRound k2.1 rfl, ?_⟩
    have R2 := R1.setLp hy1 (R1.ext _ _ hβ) k2 .busy none
    refine swp_sound (rr := some l) L.body sb hcb (.inr hnb) n (fun i => U i ∧ i < T) (rndQ y L gr S R) _ ?_ β1 _ _ n1 a1 _ hn1 hS1 R2 hq
    have fin : ∀ (jump : Option Code) β3 fr3 σ3 n3 a3 w3, n ≤ n3 → SRel N w (own β σ) β [] β3 fr3 σ3 (Fn n (fun i => U i ∧ i < T) n3) a3 w3 → σ3 y = some (.lp L gr S .busy none true) → R (.ret (bb jump.isNone)) (upd σ3 y (some (.lp L gr S (if jump.isNone then .ready else .done) jump true))) n3 →
        ∃ v w', (Instr.endRound l jump).run P w3 = .ok v w' ∧ ∃ β' r σ' n', R r σ' n' ∧ n ≤ n' ∧ Leaves N β σ w (.returned v) w' β' σ' (Fn T U n') r := by
      intro jump β3 fr3 σ3 n3 a3 w3 hn3 R3 hy3 hr
      obtain ⟨b3, tm3, D3, k3, k4⟩ := R3.heap.lp y _ _ _ _ _ _ hy3
      rw [R3.ext _ _ hβ] at k3; cases k3
      have R4 := R3.setLp hy3 (R3.ext _ _ hβ) k4 (if jump.isNone then .ready else .done) jump
      exact ⟨_, _, run_endRound jump k4.1, β3, _, _, n3, hr, hn3, R4.ext, (R4.free (fun i hi => (fn_up hT i).2 hi)).heap, .sc _, R4.frame, R4.old⟩
    intro e β3 fr3 σ3 n3 a3 w3 hn3 hS3 R3 hq
    cases e with
    | normal => exact fin none β3 fr3 σ3 n3 a3 w3 hn3 R3 hq.1 hq.2
    | ret => exact fin (some .ret) β3 fr3 σ3 n3 a3 w3 hn3 R3 hq.1 hq.2
    | exit id => exact fin (some (.exit id)) β3 fr3 σ3 n3 a3 w3 hn3 R3 hq.1 hq.2
    | goto l' => exact fin (some (.goto l')) β3 fr3 σ3 n3 a3 w3 hn3 R3 hq.1 hq.2
    | pan v => exact hq.elim
  | exit id => exact hq.elim
  | goto l => exact hq.elim
  | ret => exact hq.elim
  | pan v => exact hq.elim
/-- what a loop over a function comes to, when its function has returned -/
def rngK (y d : Nat) (L : Lp) (fr : Regs) (S : Nat) (Q : Ks) (r : AEnd) (σ : Hp) (n : Nat) : Prop := match r with
  | .ret _ => σ d = some (.df true true) ∧ ∃ st pe, σ y = some (.lp L fr S st pe true) ∧ st ≠ .busy ∧ (match pe with
    | none => Q .normal fr (upd σ y none) n
    | some .ret => Q .ret fr (upd σ y none) n
    | some (.exit id) => Q (.exit id) fr (upd σ y none) n
    | some (.goto l) => Q (.goto l) fr (upd σ y none) n
    | some _ => False)
  | .pan _ => False
def RNG (P : Program) (fv : AV) (L : Lp) (fr : Regs) (S : Nat) (σ : Hp) (n : Nat) (Q : Ks) : Prop :=
  callH P fv [.yl (n + 16)] (upd (upd σ n (some (.df true true))) (n + 16) (some (.lp L fr S .ready none true))) (n + 32) (rngK (n + 16) n L fr S Q)
theorem rng_sound {T n S : Nat} {U : Nat → Prop} (R : SRel N w0 M0 β0 ds β fr σ (Fn T U n) a w) (hT : T ≤ n) (hS : a.tmps.size = S) {g : Operand} {ps : Array Tmp} {assign body : Code} {Q : Ks} {Q' : Exit → Act → World → Prop}
    (hQ : ∀ e β' σ' n' w' D, n ≤ n' → SRel N w0 M0 β0 (⟨.collected D, #[]⟩ :: ds) β' fr σ' (Fn T U n') { a with defers := ⟨.collected D, #[]⟩ :: a.defers } w' → β' n = some D → σ' n = some (.df true true) → Q e fr σ' n' → Q' e.conv { a with defers := ⟨.collected D, #[]⟩ :: a.defers } w')
    (h : ∀ fnid, RNG P ((cOpd g).get fr) ⟨fnid, ps, assign, body, n⟩ fr S σ n Q) : (Code.rangeFunc g ps assign body).wpIn (FW none) 0 P Q' a w := by
  refine wpIn_rangeFunc ?_
  intro fnid _
  have h := h fnid
  unfold RNG callH at h
  split at h
  · rename_i gf caps hf
    obtain ⟨RR, hcon, hk⟩ := h
    have hfr := rel_get R g
    rw [hf] at hfr
    generalize hgv : a.eval g = fv at hfr
    cases hfr with
    | fn _ lb _ hlb hrel =>
      obtain ⟨R1, up1⟩ := R.newObj n (.inl (Nat.le_refl n)) (.deferred (some [])) (.df true true) (fun y h => by cases h) (fun es wr h => by cases h) (fun _ _ _ _ _ _ h => by cases h) (fun p wr h => by cases h; rfl)
      obtain ⟨R2, up2⟩ := R1.newObj (n + 16) ⟨.inl (by omega), by omega⟩ (.loop { state := .ready, pending := none, fn := fnid, tmps := a.tmps, params := ps, assign := assign, body := body, defers := w.heap.size }) (.lp ⟨fnid, ps, assign, body, n⟩ fr S .ready none true)
        (fun y h => by cases h) (fun es wr h => by cases h) (fun L' fr' S' st' pe' wr' h => by cases h; exact ⟨a.tmps, w.heap.size, rfl, by simp, hS, fun t => R1.regs t⟩) (fun p wr h => by cases h)
      have hsz1 : (w.alloc (.deferred (some []))).heap.size = w.heap.size + 1 := by simp
      rw [hsz1] at R2 up2
      have R2' := R2.free (F' := Fn T U (n + 32)) (fun i hi => by
        rcases hi with h | ⟨h1, h2⟩
        · exact ⟨⟨.inl (by omega), by omega⟩, by omega⟩
        · exact ⟨⟨.inr ⟨h1, h2⟩, by omega⟩, by omega⟩)
      obtain ⟨W1, hW1⟩ : ∃ W1, W1 = (w.alloc (.deferred (some []))).alloc (.loop { state := .ready, pending := none, fn := fnid, tmps := a.tmps, params := ps, assign := assign, body := body, defers := w.heap.size }) := ⟨_, rfl⟩
      rw [← hW1] at R2' up2
      have hβy : (upd (upd β n (some w.heap.size)) (n + 16) (some (w.heap.size + 1))) (n + 16) = some (w.heap.size + 1) := upd_same _ _ _
      have hβd : (upd (upd β n (some w.heap.size)) (n + 16) (some (w.heap.size + 1))) n = some w.heap.size := by rw [upd_ne _ _ (by omega), upd_same]
      refine ⟨w.heap.size + 1, [{ target := .collected w.heap.size, args := #[] }], W1, { target := .fn (.func gf) lb, args := #[.func (.yield (w.heap.size + 1)) #[] #[]] }, W1, gf,
        #[.func (.yield (w.heap.size + 1)) #[] #[]] ++ lb, W1, ?_, ?_, fun _ _ => trivial, ?_, fun h => (by cases h), ?_⟩
      · rw [hW1]; exact run_enterLoop_outer _ _ _ _ _
      · simp only [resolve, hgv]
        simp [go_sem]
      · simp [invoke, go_sem, run_callFunc hcon.1]
      · refine calls_FW none ((hcon.2 N T U _ W1 _ (by omega) (aw_now R2') R2'.heap ⟨by simp [hlb, Nat.add_comm], fun i u z hu hz => ?_⟩).mono ?_)
        · cases i with
          | zero =>
            rw [Array.getElem?_append_left (by simp)] at hu
            have hu' : some (Value.func (.yield (w.heap.size + 1)) #[] #[]) = some u := hu
            have hz' : some (AV.yl (n + 16)) = some z := hz
            cases hu'
            cases hz'
            exact .yl _ _ hβy
          | succ i =>
            have hu' : lb[i]? = some u := by
              rw [Array.getElem?_append_right (by simp)] at hu
              simpa using hu
            exact up2 (up1 (hrel i u z hu' (by simpa using hz)))
        · rintro e w3 ⟨β3, r, σ3, n3, hr, hn3, hl⟩
          have R3 := R2'.after hl
          have hkk := hk r σ3 n3 hr hn3
          obtain ⟨hext, _, he, _, _⟩ := hl
          cases r with
          | pan x => exact hkk.elim
          | ret v =>
            cases e with
            | panicked ch => exact he.elim
            | outgrown => exact he.elim
            | returned u =>
              obtain ⟨hd3, st, pe, hy3, hst, hq⟩ := hkk
              obtain ⟨b3, tm3, D3, k3, k4⟩ := R3.heap.lp _ _ _ _ _ _ _ hy3
              rw [hext _ _ hβy] at k3; cases k3
              refine ⟨pe, _, run_endLoop k4.1 hst, ?_⟩
              have R4 := R3.setLp hy3 (hext _ _ hβy) k4 .exhausted pe
              have R5 := (R4.less (σ' := upd σ3 (n + 16) none) (fun i x hx => by
                by_cases e : i = n + 16
                · subst e; rw [upd_same] at hx; cases hx
                · rw [upd_ne _ _ e] at hx ⊢; exact ⟨x, hx, .refl x⟩)).1
              have R6 : SRel N w0 M0 β0 (⟨.collected w.heap.size, #[]⟩ :: ds) β3 fr (upd σ3 (n + 16) none) (Fn T U n3) { a with defers := ⟨.collected w.heap.size, #[]⟩ :: a.defers } _ := ⟨R5.heap, R5.regs, R5.frame, R5.old, R5.away, by simp [R5.defers], R5.ext⟩
              have hdd : (upd σ3 (n + 16) none) n = some (.df true true) := by rw [upd_ne _ _ (by omega)]; exact hd3
              have done : ∀ e, Q e fr (upd σ3 (n + 16) none) n3 → Q' e.conv { a with defers := ⟨.collected w.heap.size, #[]⟩ :: a.defers } _ := fun e hq => hQ e β3 _ n3 _ w.heap.size (by omega) R6 (hext _ _ hβd) hdd hq
              cases pe with
              | none => exact done .normal hq
              | some c =>
                cases c <;> simp only at hq
                case ret => exact wpIn_ret (done .ret hq)
                case exit id => exact wpIn_exit (done (.exit id) hq)
                case goto l => exact wpIn_goto (done (.goto l) hq)
  · exact h.elim
end
end Go.Proofs.Ytlhnncmflnjinaa.Am

set_option linter.unusedSimpArgs false
set_option linter.unusedVariables false
namespace Go.Proofs.Ytlhnncmflnjinaa.Am
open Go Go.RowKit

/-- a body as a spine: plain pieces, and loops over functions with the slots that they keep -/
inductive Spn where
  | fin (sc : SCode)
  | st (sc : SCode) (r : Spn)
  | rng (id : Nat) (g : Opd) (lv : List Nat) (ps : Array Tmp) (as bo : Code) (r : Spn)
def expoR : Spn → List Nat
  | .fin sc => expo sc
  | .st sc r => expo sc ++ expoR r
  | .rng _ _ lv _ _ _ _ => lv
def opdS : Opd → List Nat
  | .t i => [i]
  | .c _ => []
def pre (P : Program) (S : Nat) (X rl : List Nat) : Code → Spn → Option Spn
  | .seq a b, r => (pre P S X rl b r).bind fun rb => pre P S X rl a rb
  | .block id (.rangeFunc g ps as bo), r => match cmpC P S X as, cmpC P S X bo with
    | some sa, some sb => if (noScope as && noScope bo) = true then some (.rng id (cOpd g) (dedup (opdS (cOpd g) ++ (expo sa ++ (expo sb ++ (expoR r ++ rl))))) ps as bo r) else none
    | _, _ => none
  | c, r => (cmpC P S X c).map fun sc => .st sc r
def cmpRf1 (P : Program) (S : Nat) (X rl : List Nat) (c : Code) : Option Spn := match cmpC P S X c with
  | some sc => some (.fin sc)
  | none => pre P S X rl c (.fin .skip)
def cmpRf (P : Program) (S : Nat) (X rl : List Nat) : Code → Option Spn
  | .seq a b => match cmpC P S X (.seq a b) with
    | some sc => some (.fin sc)
    | none => (cmpRf P S X rl b).bind fun r => match cmpC P S X a with
      | some sa => some (.st sa r)
      | none => pre P S X rl a r
  | c => cmpRf1 P S X rl c
def keepR (lv : List Nat) (s : List AV) : Regs := fun t => match idx t lv 0 with
  | some j => s.getD j .any
  | none => .any
/-- an end, when the block of what is deferred has been taken -/
def mrk (d : Nat) (Q : Ks) : Ks := fun e fr σ n => σ d = some (.df true true) ∧ Q e fr (upd σ d none) n
/-- how a loop over a function ends: the loop's end or its break, or a return out of a round -/
def rngS (id : Nat) (K0 Kr : Hp → Nat → Prop) : Ks
  | .normal => fun _ σ n => K0 σ n
  | .exit i => fun _ σ n => i = id ∧ K0 σ n
  | .ret => fun _ σ n => Kr σ n
  | .goto _ => fun _ _ _ => False
  | .pan _ => fun _ _ _ => False
def swpR (P : Program) (S : Nat) : Spn → Ks → Kn
  | .fin sc, Q => swp P sc Q
  | .st sc r, Q => swp P sc (dfK (swpR P S r Q) Q)
  | .rng id g lv ps as bo r, Q => fun fr σ n => ∀ fnid, RNG P (g.get (keepR lv (lv.map fr))) ⟨fnid, ps, as, bo, n⟩ (keepR lv (lv.map fr)) S σ n (rngS id (fun σ' n' => swpR P S r (mrk n Q) (keepR lv (lv.map fr)) σ' n') (fun σ' n' => mrk n Q .ret (keepR lv (lv.map fr)) σ' n'))
section
variable {P : Program} {N : Nat → Prop} {w0 : World} {M0 : Nat → Prop} {β0 : Nat → Option Nat} {ds : List Deferred} {β : Nat → Option Nat} {fr : Regs} {σ : Hp} {F : Nat → Prop} {a : Act} {w : World}
theorem keepR_rel (R : SRel N w0 M0 β0 ds β fr σ F a w) (lv : List Nat) : SRel N w0 M0 β0 ds β (keepR lv (lv.map fr)) σ F a w := by
  refine ⟨R.heap, fun t => ?_, R.frame, R.old, R.away, R.defers, R.ext⟩
  unfold keepR
  split
  · rename_i j hj
    have h2 := (idx_some lv 0 j hj).2
    simp only [Nat.sub_zero] at h2
    simp only [List.getD_eq_getElem?_getD, List.getElem?_map, h2, Option.map_some, Option.getD_some]
    exact R.regs t
  · exact .any _
variable {S T : Nat} {U : Nat → Prop} {Q' : Exit → Act → World → Prop}
def EndOK (N : Nat → Prop) (w0 : World) (M0 : Nat → Prop) (S T : Nat) (U : Nat → Prop) (Q' : Exit → Act → World → Prop) (β0 : Nat → Option Nat) (ds : List Deferred) (Q : Ks) : Prop :=
  ∀ e β fr σ n a w, T ≤ n → SRel N w0 M0 β0 ds β fr σ (Fn T U n) a w → Q e fr σ n → Q' e.conv a w
def OK (P : Program) (N : Nat → Prop) (w0 : World) (M0 : Nat → Prop) (S T : Nat) (U : Nat → Prop) (Q' : Exit → Act → World → Prop) (r : Spn) (Kc : Act → World → Prop) : Prop :=
  ∀ ds β0 Q, EndOK N w0 M0 S T U Q' β0 ds Q → ∀ β fr σ n a w, T ≤ n → a.tmps.size = S → SRel N w0 M0 β0 ds β fr σ (Fn T U n) a w → swpR P S r Q fr σ n → Kc a w
def Takes (P : Program) (Q' : Exit → Act → World → Prop) : Prop :=
  ∀ (e : SExit) (tmps : Array Value) D ds w w', (Instr.takeDeferred D).run P w = .ok [] w' → Q' e.conv { tmps := tmps, defers := ds } w' → Q' e.conv { tmps := tmps, defers := ⟨.collected D, #[]⟩ :: ds } w
theorem endOK_mrk (hM : Takes P Q') {d D : Nat} {Q : Ks} (hE : EndOK N w0 M0 S T U Q' β0 ds Q) {β1 : Nat → Option Nat} (hx : ∀ i b, β0 i = some b → β1 i = some b) (hd : β1 d = some D) (hT : T ≤ d) :
    EndOK N w0 M0 S T U Q' β1 (⟨.collected D, #[]⟩ :: ds) (mrk d Q) := by
  intro e β2 fr2 σ2 n2 a2 w2 hn R2 ⟨h1, h2⟩
  have hb := R2.ext _ _ hd
  obtain ⟨b, e1, e2⟩ := R2.heap.df d _ _ h1
  rw [hb] at e1; cases e1
  have R3 := R2.setDf h1 hb e2
  have R4 := (R3.less (σ' := upd σ2 d none) (fun i x hx => by
    by_cases e : i = d
    · subst e; rw [upd_same] at hx; cases hx
    · rw [upd_ne _ _ e] at hx ⊢; exact ⟨x, hx, .refl x⟩)).1
  obtain ⟨tm, df⟩ := a2
  have hdf : df = ⟨.collected D, #[]⟩ :: ds := R2.defers
  subst hdf
  refine hM e tm D ds w2 _ (run_takeDeferred e2) (hE e β2 fr2 _ n2 _ _ hn ⟨R4.heap, R4.regs, R4.frame, R4.old, R4.away, rfl, fun i b h => R4.ext _ _ (hx _ _ h)⟩ h2)
theorem then_then (K K' : Act → World → Prop) (Q : Exit → Act → World → Prop) : Exit.then K (Exit.then K' Q) = Exit.then K Q := by
  funext e
  cases e <;> rfl
theorem st_sound {X : List Nat} : ∀ (c : Code) (r r' : Spn), (cmpC P S X c).map (fun sc => Spn.st sc r) = some r' → ∀ (Kc : Act → World → Prop), OK P N w0 M0 S T U Q' r Kc →
      OK P N w0 M0 S T U Q' r' fun a w => c.wpIn (FW none) 0 P (Exit.then Kc Q') a w := by
  intro c r r' hc Kc hK ds β0 Q hE β fr σ n a w hT hS R h
  obtain ⟨sc, h1, rfl⟩ := Option.map_eq_some_iff.1 hc
  refine swp_sound (rr := none) c sc h1 (.inl rfl) T U _ _ ?_ β fr σ n a w hT hS R h
  intro e β fr σ n a w hT hS R h
  cases e with
  | normal => exact hK ds β0 Q hE β fr σ n a w hT hS R h
  | exit id => exact hE (.exit id) β fr σ n a w hT R h
  | goto l => exact hE (.goto l) β fr σ n a w hT R h
  | ret => exact hE .ret β fr σ n a w hT R h
  | pan v => exact hE (.pan v) β fr σ n a w hT R h
theorem pre_sound {X rl : List Nat} (hM : Takes P Q') : ∀ (c : Code) (r r' : Spn), pre P S X rl c r = some r' → ∀ (Kc : Act → World → Prop), OK P N w0 M0 S T U Q' r Kc →
    OK P N w0 M0 S T U Q' r' fun a w => c.wpIn (FW none) 0 P (Exit.then Kc Q') a w := by
  have base := st_sound (P := P) (N := N) (w0 := w0) (M0 := M0) (S := S) (T := T) (U := U) (Q' := Q') (X := X)
  intro c
  induction c with
  | seq x y ihx ihy =>
    intro r r' hc Kc hK
    simp only [pre] at hc
    obtain ⟨rb, h1, h2⟩ := Option.bind_eq_some_iff.1 hc
    intro ds β0 Q hE β fr σ n a w hT hS R h
    refine wpIn_seq ?_
    rw [then_then]
    exact (ihx rb r' h2 _ (ihy r rb h1 Kc hK) ds β0 Q hE β fr σ n a w hT hS R h)
  | block id c _ =>
    cases c with
    | rangeFunc g ps as bo =>
      intro r r' hc Kc hK ds β0 Q hE β fr σ n a w hT hS R h
      simp only [pre] at hc
      split at hc
      · rename_i sa sb ha hb
        split at hc
        · cases hc
          refine wpIn_block (rng_sound (keepR_rel R _) hT hS ?_ (by simpa only [swpR] using h))
          intro e β' σ' n' w' D hn R1 hD hd hq
          have hE' := endOK_mrk hM hE R1.ext hD hT
          have R2 : SRel N w0 M0 β' (⟨.collected D, #[]⟩ :: ds) β' _ σ' (Fn T U n') { a with defers := ⟨.collected D, #[]⟩ :: a.defers } w' := ⟨R1.heap, R1.regs, R1.frame, R1.old, R1.away, R1.defers, fun _ _ h => h⟩
          have nx := fun h => hK _ β' _ hE' β' _ σ' n' { a with defers := ⟨.collected D, #[]⟩ :: a.defers } w' (by omega) hS R2 h
          cases e with
          | normal => exact nx hq
          | exit id' =>
            obtain ⟨rfl, hq⟩ := hq
            simp only [SExit.conv, Exit.inBlock, if_true]
            exact nx hq
          | goto l => exact hq.elim
          | ret => exact hE' .ret β' _ σ' n' _ w' (by omega) R2 hq
          | pan v => exact hq.elim
        · cases hc
      · cases hc
    | _ => exact base _
  | _ => exact base _
theorem cmpRf_sound {X rl : List Nat} (hM : Takes P Q') : ∀ (c : Code) (r : Spn), cmpRf P S X rl c = some r → OK P N w0 M0 S T U Q' r fun a w => c.wpIn (FW none) 0 P Q' a w := by
  have hfin : ∀ (c : Code) (sc : SCode), cmpC P S X c = some sc → OK P N w0 M0 S T U Q' (.fin sc) fun a w => c.wpIn (FW none) 0 P Q' a w := by
    intro c sc hc ds β0 Q hE β fr σ n a w hT hS R h
    exact swp_sound (rr := none) c sc hc (.inl rfl) T U _ _ (fun e β fr σ n a w hT hS R h => hE e β fr σ n a w hT R h) β fr σ n a w hT hS R h
  have hskip : OK P N w0 M0 S T U Q' (.fin .skip) (Q' .normal) := by
    intro ds β0 Q hE β fr σ n a w hT hS R h
    exact hE .normal β fr σ n a w hT R h
  have other : ∀ (c : Code) (r : Spn), cmpRf1 P S X rl c = some r → OK P N w0 M0 S T U Q' r fun a w => c.wpIn (FW none) 0 P Q' a w := by
    intro c r hc
    unfold cmpRf1 at hc
    split at hc
    · rename_i sc h1; cases hc; exact hfin c sc h1
    · have := pre_sound hM c _ _ hc _ hskip
      have e : Exit.then (Q' .normal) Q' = Q' := by funext e; cases e <;> rfl
      rwa [e] at this
  intro c
  induction c with
  | seq x y _ ihy =>
    intro r hc
    simp only [cmpRf] at hc
    split at hc
    · rename_i sc h1; cases hc; exact hfin _ sc h1
    · obtain ⟨rb, h1, h2⟩ := Option.bind_eq_some_iff.1 hc
      have hb := ihy rb h1
      split at h2
      · rename_i sa h3
        have := st_sound (X := X) x rb r (by rw [h3]; exact h2) _ hb
        exact fun ds β0 Q hE β fr σ n a w hT hS R h => wpIn_seq (this ds β0 Q hE β fr σ n a w hT hS R h)
      · have := pre_sound hM x rb r h2 _ hb
        exact fun ds β0 Q hE β fr σ n a w hT hS R h => wpIn_seq (this ds β0 Q hE β fr σ n a w hT hS R h)
  | _ => exact other _
end
theorem takes_M {P : Program} {fn : Func} {R : Ending → World → Prop} : Takes P (bodyPostM (FW none) 0 P fn R) := by
  intro e tmps D ds w w' h1 h2
  cases e with
  | normal => exact ⟨by simp, .inl ⟨D, w', rfl, h1, h2⟩⟩
  | ret => exact ⟨by simp, .inl ⟨D, w', rfl, h1, h2⟩⟩
  | pan v => exact ⟨by simp, .inl ⟨D, w', rfl, h1, h2⟩⟩
  | exit id => exact h2
  | goto l => exact h2
theorem conH_ofR {P : Program} {σ : Hp} {f : FuncId} {fn : Func} {sp : Spn} {args : List AV} {n : Nat} {R : AEnd → Hp → Nat → Prop} (rs : List RV) (hf : P.funcs[f]? = some fn) (X : List Nat) (hc : fn.body.bind (cmpRf P fn.ntmps X (resSlots rs)) = some sp) (hgo : goFn P f = true) (hS : decide (args.length ≤ fn.ntmps) = true)
    (hres : resT P fn.results.toList = some rs) (h : swpR P fn.ntmps sp (retQ rs R) (entry args) σ n) : ConH P f args σ n R := by
  obtain ⟨c, hb, hc⟩ := Option.bind_eq_some_iff.1 hc
  have hS := of_decide_eq_true hS
  refine ⟨hgo, fun N T U β w vs hT hN H hargs => ?_⟩
  have hsz : vs.size = args.length := hargs.1
  refine callsIn_wide.1 (callsIn_of_wp_marks (F := FW none) (n := 0) hf hb trivial ?_ rfl)
  have R0 : SRel N w (own β σ) β [] β (entry args) σ (Fn n (fun i => U i ∧ i < T) n) { tmps := vs ++ Array.replicate (fn.ntmps - vs.size) undef, defers := [] } w := by
    refine ⟨⟨fun i hi => H.dom i ((fn_up hT i).1 hi), H.off, H.inj, H.blk, H.map, H.lp, H.df⟩, fun t => ?_, Fr.refl _ _, fun b h _ => h, hN, rfl, fun _ _ h => h⟩
    unfold entry
    by_cases ht : t < args.length
    · have e1 : (vs ++ Array.replicate (fn.ntmps - vs.size) undef).getD t undef = vs[t] := by
        rw [Array.getD_eq_getD_getElem?, Array.getElem?_append_left (by omega)]; simp [hsz, ht]
      have e2 : args.getD t (.tp []) = args[t] := by simp [List.getD, ht]
      simp only [e1, e2]
      exact hargs.2 t vs[t] args[t] (by simp [hsz, ht]) (by simp [ht])
    · have e1 : (vs ++ Array.replicate (fn.ntmps - vs.size) undef).getD t undef = undef := by
        rw [Array.getD_eq_getD_getElem?, Array.getElem?_append_right (by omega), Array.getElem?_replicate]
        split <;> rfl
      have e2 : args.getD t (.tp []) = .tp [] := by simp [List.getD, List.getElem?_eq_none (Nat.le_of_not_lt ht)]
      simp only [e1, e2]
      exact .tp #[] [] rfl (fun i u z h _ => by simp at h)
  have hsize : (vs ++ Array.replicate (fn.ntmps - vs.size) undef).size = fn.ntmps := by simp; omega
  refine cmpRf_sound takes_M c sp hc [] β (retQ rs R) ?_ β _ σ n _ w (Nat.le_refl n) hsize R0 h
  intro e β' fr σ' n' a w' hn Rf h
  have fin : retC σ' fr rs (fun vs => R (.ret (tupA vs)) σ' n') → LeavesInM (FW none) 0 P fn a.tmps (fun e w'' => ∃ β' r σ' n', R r σ' n' ∧ n ≤ n' ∧ Leaves N β σ w e w'' β' σ' (Fn T U n') r) a.defers .returning w' := by
    intro h
    obtain ⟨vs, hv, h⟩ := retC_of h
    obtain ⟨v, e1, e2⟩ := results_run Rf hres hv
    rw [Rf.defers]
    exact ⟨v, e1, β', _, σ', n', h, hn, Rf.ext, (Rf.free (fun i hi => (fn_up hT i).2 hi)).heap, e2, Rf.frame, Rf.old⟩
  cases e with
  | normal => exact fin h
  | ret => exact fin h
  | exit id => exact h.elim
  | goto l => exact h.elim
  | pan v =>
    simp only [SExit.conv, bodyPostM, Rf.defers]
    exact ⟨β', _, σ', n', h, hn, Rf.ext, (Rf.free (fun i hi => (fn_up hT i).2 hi)).heap, rfl, Rf.frame, Rf.old⟩
/-- a round out of its shallow code: one variable -/
theorem ycon_at {P : Program} {σ : Hp} {y : Nat} {x : AV} {L : Lp} {lv : List Nat} {s : List AV} {S p n : Nat} {R : AEnd → Hp → Nat → Prop} {sa sb : SCode} {X : List Nat} (hy : σ y = some (.lp L (keepR lv s) S .ready none true)) (hp : L.params = #[p])
    (hck : (decide (p < S) && noScope L.assign && noScope L.body) = true) (hca : cmpC P S X L.assign = some sa) (hcb : cmpC P S X L.body = some sb)
    (h : swp P sa (rndA P y L (keepR lv s) S sb R) (keepR (p :: lv) (x :: s)) σ n) : YCon P y [x] σ n R := by
  simp only [Bool.and_eq_true, decide_eq_true_eq] at hck
  refine ycon_of hy hp hck.1.1 hca hcb hck.1.2 hck.2 ?_
  have e : (fun t => if t = p then x else keepR lv s t) = keepR (p :: lv) (x :: s) := by
    funext t
    by_cases e : t = p
    · subst e
      simp [keepR, idx]
    · have hh : ∀ (l : List Nat) (i : Nat), idx t l (i + 1) = (idx t l i).map (· + 1) := by
        intro l
        induction l with
        | nil => intro i; rfl
        | cons z l ih =>
          intro i
          simp only [idx]
          split
          · rfl
          · exact ih (i + 1)
      simp only [if_neg e, keepR, idx, if_neg (Ne.symm e), hh lv 0]
      cases idx t lv 0 <;> simp
  rw [e]; exact h
end Go.Proofs.Ytlhnncmflnjinaa.Am
