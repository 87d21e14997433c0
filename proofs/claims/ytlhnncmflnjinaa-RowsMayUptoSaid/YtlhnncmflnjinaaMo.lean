/- The abstract machine: code is sound; contracts out of code. -/
import Derived.Test.YtlhnncmflnjinaaMn
set_option linter.unusedSimpArgs false
set_option linter.unusedVariables false
namespace Go.Proofs.Ytlhnncmflnjinaa.Am
open Go Go.RowKit

section
variable {P : Program} {T : Nat} {U : Nat → Prop} {N : Nat → Prop} {w0 : World} {M0 : Nat → Prop} {β0 : Nat → Option Nat} {ds : List Deferred}
theorem idx_some {t : Nat} : ∀ (l : List Nat) (i j : Nat), idx t l i = some j → i ≤ j ∧ l[j - i]? = some t
  | [], i, j, h => by cases h
  | x :: l, i, j, h => by
    simp only [idx] at h
    split at h
    · rename_i e; cases h; subst e; simp
    · obtain ⟨h1, h2⟩ := idx_some l (i + 1) j h
      refine ⟨by omega, ?_⟩
      rw [show j - i = (j - (i + 1)) + 1 by omega, List.getElem?_cons_succ]; exact h2
theorem idx_none {t : Nat} : ∀ (l : List Nat) (i : Nat), idx t l i = none → t ∉ l
  | [], i, h => by simp
  | x :: l, i, h => by
    simp only [idx] at h
    split at h
    · cases h
    · rename_i e
      have := idx_none l (i + 1) h
      simp only [List.mem_cons, not_or]
      exact ⟨Ne.symm e, this⟩
theorem Wk.le {s s' : List AV} {σ σ' : Hp} {n n' : Nat} (h : Wk s σ n s' σ' n') : n ≤ n' := by
  induction h with
  | trans _ _ h1 h2 => omega
  | more _ _ _ _ h => exact h
  | _ => omega
/-- a loop's slots, said in other words -/
theorem Wk.sound {fr : Regs} {lv md : List Nat} {s s' : List AV} {σ σ' : Hp} {n n' : Nat} (h : Wk s σ n s' σ' n') : ∀ {β : Nat → Option Nat} {a : Act} {w : World}, T ≤ n → SRel N w0 M0 β0 ds β (emb fr lv md s) σ (Fn T U n) a w → SRel N w0 M0 β0 ds β (emb fr lv md s') σ' (Fn T U n') a w := by
  have set : ∀ {β : Nat → Option Nat} {σ : Hp} {F : Nat → Prop} {a : Act} {w : World} {s : List AV} {i : Nat} {v : AV}, SRel N w0 M0 β0 ds β (emb fr lv md s) σ F a w → (∀ t, idx t lv 0 = some i → Rel (live N β σ) w β (a.tmps.getD t undef) v) → SRel N w0 M0 β0 ds β (emb fr lv md (s.set i v)) σ F a w := by
    intro β σ F a w s i v R hv
    refine R.other (fun t => ?_)
    have := R.regs t
    unfold emb at this ⊢
    cases hi : idx t lv 0 with
    | none => rw [hi] at this; exact this
    | some j =>
      rw [hi] at this
      simp only at this ⊢
      by_cases hij : i = j
      · subst hij
        rw [List.getD_eq_getElem?_getD, List.getElem?_set]
        simp only [if_true]
        by_cases hlt : i < s.length
        · rw [if_pos hlt]; exact hv t hi
        · rw [if_neg hlt]; exact .any _
      · rw [List.getD_eq_getElem?_getD, List.getElem?_set, if_neg hij, ← List.getD_eq_getElem?_getD]; exact this
  have at_ : ∀ {β : Nat → Option Nat} {σ : Hp} {F : Nat → Prop} {a : Act} {w : World} {s : List AV} {i t : Nat} {v : AV}, SRel N w0 M0 β0 ds β (emb fr lv md s) σ F a w → s[i]? = some v → idx t lv 0 = some i → Rel (live N β σ) w β (a.tmps.getD t undef) v := by
    intro β σ F a w s i t v R hs hi
    have := R.regs t
    unfold emb at this
    rw [hi] at this
    simp only [List.getD_eq_getElem?_getD, hs, Option.getD_some] at this
    exact this
  have fnle : ∀ {n n' : Nat}, n ≤ n' → ∀ i, Fn T U n' i → Fn T U n i := fun h i hi => hi.imp (fun h' => by omega) (fun h => h)
  induction h with
  | refl => exact fun _ R => R
  | trans h1 h2 ih1 ih2 => exact fun hT R => ih2 (Nat.le_trans hT h1.le) (ih1 hT R)
  | less s σ σ' n h => exact fun _ R => (R.less h).1
  | more s σ n n' h => exact fun _ R => R.free (fnle h)
  | emp s σ n i k cl h =>
    intro β a w hT R
    obtain ⟨R1, up⟩ := R.imagine n (.inl (Nat.le_refl n)) k cl
    refine (set (R1.free (F' := Fn T U (n + 16)) (fun j hj => ⟨fnle (by omega) j hj, by rcases hj with h | ⟨_, h⟩ <;> omega⟩)) (fun t ht => ?_))
    have := at_ R h ht
    generalize a.tmps.getD t undef = u at this
    cases this with
    | em A => exact .ow0 A n k
  | nil s σ n i h =>
    intro β a w hT R
    refine set R (fun t ht => ?_)
    have := at_ R h ht
    generalize a.tmps.getD t undef = u at this
    cases this with
    | em A => exact .tr A 0 1 [] (fun _ _ => undef) (by omega) (by simp) (by simp) (by simp) (by simp) (by simp) (by simp)
  | any s σ n i => exact fun _ R => set R (fun t _ => .any _)
  | frz s σ n i v c I h hb =>
    intro β a w hT R
    obtain ⟨R1, up⟩ := R.less (frz_less σ I)
    refine set R1 (fun t ht => ?_)
    obtain ⟨l1, l2⟩ := frz_off R.heap (brw_some σ 3 v c I hb)
    exact (brw_rel R.heap l1 3 v c I _ hb (at_ R h ht) l2).lift
theorem fnle {n n' : Nat} (h : n ≤ n') : ∀ i, Fn T U n' i → Fn T U n i := fun _ hi => hi.imp (fun h' => Nat.le_trans h h') (fun h => h)
theorem emb_at {fr : Regs} {lv md : List Nat} {s : List AV} {β : Nat → Option Nat} {fr1 : Regs} {σ : Hp} {F : Nat → Prop} {a : Act} {w : World} (R : SRel N w0 M0 β0 ds β fr1 σ F a w) (h : ∀ t, t ∉ md → fr1 t = emb fr lv md s t) : SRel N w0 M0 β0 ds β (emb fr lv md (lv.map fr1)) σ F a w := by
  refine R.other (fun t => ?_)
  unfold emb
  cases hi : idx t lv 0 with
  | some i =>
    obtain ⟨_, h2⟩ := idx_some lv 0 i hi
    rw [Nat.sub_zero] at h2
    simp only [List.getD_eq_getElem?_getD, List.getElem?_map, h2, Option.map_some, Option.getD_some]
    exact R.regs t
  | none =>
    simp only
    by_cases hm : md.contains t = true
    · rw [if_pos hm]; exact .any _
    · rw [if_neg hm]
      have := h t (by simpa using hm)
      unfold emb at this
      rw [hi] at this
      simp only at this
      rw [if_neg hm] at this
      rw [← this]; exact R.regs t
theorem emb_at' {fr : Regs} {lv md : List Nat} {β : Nat → Option Nat} {fr1 : Regs} {σ : Hp} {F : Nat → Prop} {a : Act} {w : World} (R : SRel N w0 M0 β0 ds β fr1 σ F a w) (h : ∀ t, t ∉ md → fr1 t = fr t) : SRel N w0 M0 β0 ds β (emb fr lv md (lv.map fr1)) σ F a w := by
  refine R.other (fun t => ?_)
  unfold emb
  cases hi : idx t lv 0 with
  | some i =>
    obtain ⟨_, h2⟩ := idx_some lv 0 i hi
    rw [Nat.sub_zero] at h2
    simp only [List.getD_eq_getElem?_getD, List.getElem?_map, h2, Option.map_some, Option.getD_some]
    exact R.regs t
  | none =>
    simp only
    by_cases hm : md.contains t = true
    · rw [if_pos hm]; exact .any _
    · rw [if_neg hm]
      rw [← h t (by simpa using hm)]; exact R.regs t
theorem emb_map {fr : Regs} {lv md : List Nat} {β : Nat → Option Nat} {σ : Hp} {F : Nat → Prop} {a : Act} {w : World} (R : SRel N w0 M0 β0 ds β fr σ F a w) : SRel N w0 M0 β0 ds β (emb fr lv md (lv.map fr)) σ F a w := by
  refine R.other (fun t => ?_)
  unfold emb
  cases hi : idx t lv 0 with
  | some i =>
    obtain ⟨_, h2⟩ := idx_some lv 0 i hi
    rw [Nat.sub_zero] at h2
    simp only [List.getD_eq_getElem?_getD, List.getElem?_map, h2, Option.map_some, Option.getD_some]
    exact R.regs t
  | none =>
    simp only
    by_cases hm : md.contains t = true
    · rw [if_pos hm]; exact .any _
    · rw [if_neg hm]; exact R.regs t
theorem loop_sound {S : Nat} {lv md : List Nat} {fr : Regs} {body : (List AV → Hp → Nat → Prop) → List AV → Hp → Nat → Prop} {c : Code} {W : (Act → World → Prop) → Exit → Act → World → Prop} {β : Nat → Option Nat} {s : List AV} {σ : Hp} {n : Nat} {a : Act} {w : World}
    (round : ∀ (K : List AV → Hp → Nat → Prop) (J : Act → World → Prop), (∀ β s' σ n' a w, T ≤ n' → n ≤ n' → a.tmps.size = S → s'.length = s.length → SRel N w0 M0 β0 ds β (emb fr lv md s') σ (Fn T U n') a w → K s' σ n' → J a w) → ∀ β s' σ n' a w, T ≤ n' → n ≤ n' → a.tmps.size = S → s'.length = s.length → SRel N w0 M0 β0 ds β (emb fr lv md s') σ (Fn T U n') a w → body K s' σ n' → c.wp P (W J) a w)
    (hT : T ≤ n) (hS : a.tmps.size = S) (R : SRel N w0 M0 β0 ds β (emb fr lv md s) σ (Fn T U n) a w) (h : LOOP body s σ n) :
    ∃ J : Nat → Act → World → Prop, (∃ m, J m a w) ∧ ∀ m a w, J m a w → c.wp P (W (fun a w => ∃ m', m' < m ∧ J m' a w)) a w := by
  obtain ⟨I, ⟨m0, s0, σ0, n0, hw, hn0, hs0, hI0⟩, hround⟩ := h
  refine ⟨fun m a w => ∃ β s' σ n', T ≤ n' ∧ n ≤ n' ∧ a.tmps.size = S ∧ s'.length = s.length ∧ SRel N w0 M0 β0 ds β (emb fr lv md s') σ (Fn T U n') a w ∧ I m s' σ n', ⟨m0, β, s0, σ0, n0, by omega, hn0, hS, hs0, hw.sound hT R, hI0⟩, ?_⟩
  rintro m a w ⟨β, s1, σ1, n1, hT1, hn1, hS1, hs1, R1, hI1⟩
  refine round _ _ ?_ β s1 σ1 n1 a w hT1 hn1 hS1 hs1 R1 (hround m s1 σ1 n1 hn1 hs1 hI1)
  rintro β s2 σ2 n2 a w hT2 hn2 hS2 hs2 R2 ⟨m', hm', s3, σ3, n3, hw3, hn3, hs3, hI3⟩
  exact ⟨m', hm', β, s3, σ3, n3, by omega, by omega, hS2, by omega, hw3.sound hT2 R2, hI3⟩
/-- names not used, from a later bound on -/
theorem fn_up {n n' : Nat} (hT : T ≤ n) (i : Nat) : Fn n (fun i => U i ∧ i < T) n' i ↔ Fn T U n' i :=
  ⟨fun h => h.imp (fun h => h) (fun h => h.1), fun h => h.imp (fun h => h) (fun h => ⟨h, Nat.lt_of_lt_of_le h.2 hT⟩)⟩
theorem swp_sound {S : Nat} {X : List Nat} : ∀ (c : Code) (sc : SCode), cmpC P S X c = some sc → ∀ (T : Nat) (U : Nat → Prop) (Q : Ks) (Q' : Exit → Act → World → Prop),
    (∀ e β fr σ n a w, T ≤ n → a.tmps.size = S → SRel N w0 M0 β0 ds β fr σ (Fn T U n) a w → Q e fr σ n → Q' e.conv a w) →
    ∀ (β : Nat → Option Nat) (fr : Regs) (σ : Hp) (n : Nat) (a : Act) (w : World), T ≤ n → a.tmps.size = S → SRel N w0 M0 β0 ds β fr σ (Fn T U n) a w → swp P sc Q fr σ n → c.wp P Q' a w
  | .skip, sc, hc, T, U, Q, Q', hQ, β, fr, σ, n, a, w, hT, hS, R, h => by
    cases hc
    exact wp_skip (hQ .normal _ _ _ _ _ _ hT hS R h)
  | .region id ops true, sc, hc, T, U, Q, Q', hQ, β, fr, σ, n, a, w, hT, hS, R, h => by
    obtain ⟨l, hl, rfl⟩ := Option.map_eq_some_iff.1 hc
    unfold cmpD at hl
    split at hl
    · rename_i sl hsl
      split at hl
      · rename_i hcd
        obtain ⟨h1, h2, h3⟩ := hcd
        cases hl
        obtain ⟨effs, Tr⟩ := trace_of (K := Q .normal) (Kp := fun v => Q (.pan v)) _ [] none rfl (Nat.zero_le _) (fun i o anc e _ h => by simp at h) (fun ⟨e, he, _⟩ => by cases he) (fun h => by cases h) h
        have hlen : (sl.zip (ancOf ops.toList)).length = ops.size := by
          have := (cmpL_get _ _ hsl).1
          have h4 : (ancOf ops.toList).length = ops.toList.length := by
            unfold ancOk at h1
            simp only [Bool.and_eq_true, decide_eq_true_eq] at h1
            exact h1.1
          simp [this, h4]
        refine wp_region_any h3 ?_
        refine dops_sound (T := T) (U := U) (ds := ds) (n := n) (fun β fr σ n a w hT hS R h => hQ .normal β fr σ n a w hT hS R h) (fun x β fr σ n a w hT hS R h => hQ (.pan x) β fr σ n a w hT hS R h) hT hsl h1 h2 Tr ops.size _ (n + 16 * ops.size) β a _ (Nat.le_refl _) (by simp) ?_ hS ?_ ?_ ?_
        · have := List.length_filter_le (fun i => !(Array.replicate ops.size false).getD i false) (List.range ops.size)
          simpa using this
        · intro i anc _ hl
          simp [Array.getD_eq_getD_getElem?, Array.getElem?_replicate] at hl
          split at hl <;> simp at hl
        · intro i e _ hl
          simp [Array.getD_eq_getD_getElem?, Array.getElem?_replicate] at hl
          split at hl <;> simp at hl
        · rw [stL_none 0 effs (fr, σ) (fun j _ _ => by simp [Array.getD_eq_getD_getElem?, Array.getElem?_replicate]; split <;> rfl)]
          have R' := drew_world R
          refine R'.free (fun j hj => ?_)
          rcases hj with ⟨h, _⟩ | h | h
          · exact .inl h
          · exact .inl (by omega)
          · exact .inr h
      · cases hl
    · cases hl
  | .region id ops false, sc, hc, T, U, Q, Q', hQ, β, fr, σ, n, a, w, hT, hS, R, h => by
    obtain ⟨sl, hsl, rfl⟩ := Option.map_eq_some_iff.1 hc
    exact wp_region_list (sops_sound (K := Q .normal) (Kp := fun v => Q (.pan v)) (fun β fr σ n a w hT hS R h => hQ .normal β fr σ n a w hT hS R h) (fun x β fr σ n a w hT hS R h => hQ (.pan x) β fr σ n a w hT hS R h) _ _ β fr σ n a w hsl hT hS R h)
  | .seq x y, sc, hc, T, U, Q, Q', hQ, β, fr, σ, n, a, w, hT, hS, R, h => by
    simp only [cmpC] at hc
    split at hc
    · rename_i sx sy h1 h2
      split at hc
      · cases hc
        simp only [swp] at h
        replace h := h.h
        try simp only at h
        have h' := swp_mono sx (thenK (fun fr' => swp P sy Q (emb fr (liveOf X sx) (modsOf sx) ((liveOf X sx).map fr'))) Q) (fun e => match e with | .pan v => Q (.pan v) | .normal => Keep (modsOf sx) fr (fun fr' => swp P sy Q (emb fr (liveOf X sx) (modsOf sx) ((liveOf X sx).map fr'))) | e => Q e) (modsOf sx) fr (modsW_of x sx h1) (fun v fr σ n h => h) (fun e fr1 σ n he hq ha => by
          cases e with
          | normal => exact ⟨hq, ha⟩
          | pan v => exact absurd rfl (he v)
          | exit id => exact hq
          | goto l => exact hq
          | ret => exact hq) fr σ n (fun t _ => rfl) h
        refine wp_seq (swp_sound x sx h1 T U _ _ ?_ β fr σ n a w hT hS R h')
        intro e β fr1 σ n a w hT hS R h
        cases e with
        | normal =>
          obtain ⟨h, hk⟩ := h
          refine swp_sound y sy h2 T U Q Q' hQ β _ σ n a w hT hS (emb_at' R (fun t ht => hk t ht)) h
        | exit id => exact hQ (.exit id) β fr1 σ n a w hT hS R h
        | goto l => exact hQ (.goto l) β fr1 σ n a w hT hS R h
        | ret => exact hQ .ret β fr1 σ n a w hT hS R h
        | pan v => exact hQ (.pan v) β fr1 σ n a w hT hS R h
      · cases hc
        refine wp_seq (swp_sound x sx h1 T U _ _ ?_ β fr σ n a w hT hS R h)
        intro e β fr σ n a w hT hS R h
        cases e with
        | normal => exact swp_sound y sy h2 T U Q Q' hQ β fr σ n a w hT hS R h
        | exit id => exact hQ (.exit id) β fr σ n a w hT hS R h
        | goto l => exact hQ (.goto l) β fr σ n a w hT hS R h
        | ret => exact hQ .ret β fr σ n a w hT hS R h
        | pan v => exact hQ (.pan v) β fr σ n a w hT hS R h
    · cases hc
  | .cond cc x y, sc, hc, T, U, Q, Q', hQ, β, fr, σ, n, a, w, hT, hS, R, h => by
    simp only [cmpC] at hc
    split at hc
    · rename_i sx sy h1 h2
      cases hc
      simp only [swp, COND] at h
      split at h
      · rename_i t ht
        have hr := rel_get R cc
        rw [ht] at hr
        refine wp_cond (rel_sc hr) ?_
        cases t
        · exact swp_sound y sy h2 T U Q Q' hQ β fr σ n a w hT hS R (h.2 rfl)
        · exact swp_sound x sx h1 T U Q Q' hQ β fr σ n a w hT hS R (h.1 rfl)
      · rename_i ht
        have hr := rel_get R cc
        rw [ht] at hr
        generalize hu : a.eval cc = u at hr
        cases hr with
        | bo t =>
          refine wp_cond hu ?_
          cases t
          · exact swp_sound y sy h2 T U Q Q' hQ β fr σ n a w hT hS R h.2
          · exact swp_sound x sx h1 T U Q Q' hQ β fr σ n a w hT hS R h.1
      · exact h.elim
    · cases hc
  | .block id x, sc, hc, T, U, Q, Q', hQ, β, fr, σ, n, a, w, hT, hS, R, h => by
    obtain ⟨sx, h1, rfl⟩ := Option.map_eq_some_iff.1 hc
    refine wp_block (swp_sound x sx h1 T U _ _ ?_ β fr σ n a w hT hS R h)
    intro e β fr σ n a w hT hS R h
    cases e with
    | normal => exact hQ .normal β fr σ n a w hT hS R h
    | exit id' =>
      simp only [blockK] at h
      simp only [SExit.conv, Exit.inBlock]
      split
      · rename_i e; rw [if_pos e] at h; exact hQ .normal β fr σ n a w hT hS R h
      · rename_i e; rw [if_neg e] at h; exact hQ (.exit id') β fr σ n a w hT hS R h
    | goto l => exact hQ (.goto l) β fr σ n a w hT hS R h
    | ret => exact hQ .ret β fr σ n a w hT hS R h
    | pan v => exact hQ (.pan v) β fr σ n a w hT hS R h
  | .loop x, sc, hc, T, U, Q, Q', hQ, β, fr, σ, n, a, w, hT, hS, R, h => by
    obtain ⟨sx, h1, rfl⟩ := Option.map_eq_some_iff.1 hc
    have R0 : SRel N w0 M0 β0 ds β (emb fr (liveOf X sx) (modsOf sx) ((liveOf X sx).map fr)) σ (Fn T U n) a w := emb_map R
    have round : ∀ (K : List AV → Hp → Nat → Prop) (J : Act → World → Prop), (∀ β s' σ n' a w, T ≤ n' → n ≤ n' → a.tmps.size = S → s'.length = ((liveOf X sx).map fr).length → SRel N w0 M0 β0 ds β (emb fr (liveOf X sx) (modsOf sx) s') σ (Fn T U n') a w → K s' σ n' → J a w) →
        ∀ β s' σ n' a w, T ≤ n' → n ≤ n' → a.tmps.size = S → s'.length = ((liveOf X sx).map fr).length → SRel N w0 M0 β0 ds β (emb fr (liveOf X sx) (modsOf sx) s') σ (Fn T U n') a w →
        swp P sx (thenK (fun fr' => K ((liveOf X sx).map fr')) Q) (emb fr (liveOf X sx) (modsOf sx) s') σ n' → x.wp P (Exit.then J Q') a w := by
      intro K J hKJ β s' σ n' a w hT' hn hS hs R h
      have h' := swp_mono sx (thenK (fun fr' => K ((liveOf X sx).map fr')) Q) (fun e => match e with | .pan v => Q (.pan v) | .normal => Keep (modsOf sx) (emb fr (liveOf X sx) (modsOf sx) s') (fun fr' => K ((liveOf X sx).map fr')) | e => Q e) (modsOf sx) (emb fr (liveOf X sx) (modsOf sx) s') (modsW_of x sx h1) (fun v fr σ n h => h) (fun e fr σ n he hq ha => by
        cases e with
        | normal => exact ⟨hq, ha⟩
        | pan v => exact absurd rfl (he v)
        | exit id => exact hq
        | goto l => exact hq
        | ret => exact hq) _ σ n' (fun t _ => rfl) h
      refine swp_sound x sx h1 n (fun i => U i ∧ i < T) _ (Exit.then J Q') ?_ β _ σ n' a w hn hS (R.free (fun i hi => (fn_up hT i).1 hi)) h'
      intro e β fr1 σ n1 a w hn1 hS R h
      have R := R.free (fun i hi => (fn_up hT i).2 hi)
      cases e with
      | normal => exact hKJ β _ σ n1 a w (by omega) hn1 hS (by simp) (emb_at R h.2) h.1
      | exit id => exact hQ (.exit id) β fr1 σ n1 a w (by omega) hS R h
      | goto l => exact hQ (.goto l) β fr1 σ n1 a w (by omega) hS R h
      | ret => exact hQ .ret β fr1 σ n1 a w (by omega) hS R h
      | pan v => exact hQ (.pan v) β fr1 σ n1 a w (by omega) hS R h
    obtain ⟨J, ⟨m0, hm0⟩, hJ⟩ := loop_sound (c := x) (W := fun J => Exit.then J Q') (S := S) round hT hS R0 h
    refine wp_loop (fun a w => ∃ m, J m a w) (fun a w => leastOf (fun m => J m a w)) ⟨m0, hm0⟩ ?_
    intro a w hjm
    refine wp_mono (hJ _ a w (leastOf_spec hjm).1) ?_
    intro e a' w' hq
    cases e <;> first
      | exact hq
      | (obtain ⟨m', hlt, hj⟩ := hq
         exact ⟨⟨m', hj⟩, Nat.lt_of_le_of_lt ((leastOf_spec ⟨m', hj⟩).2 m' hj) hlt⟩)
  | .scope (.seq (.label l) x), sc, hc, T, U, Q, Q', hQ, β, fr, σ, n, a, w, hT, hS, R, h => by
    obtain ⟨sx, h1, rfl⟩ := Option.map_eq_some_iff.1 hc
    have R0 : SRel N w0 M0 β0 ds β (emb fr (liveOf X sx) (modsOf sx) ((liveOf X sx).map fr)) σ (Fn T U n) a w := emb_map R
    have round : ∀ (K : List AV → Hp → Nat → Prop) (J : Act → World → Prop), (∀ β s' σ n' a w, T ≤ n' → n ≤ n' → a.tmps.size = S → s'.length = ((liveOf X sx).map fr).length → SRel N w0 M0 β0 ds β (emb fr (liveOf X sx) (modsOf sx) s') σ (Fn T U n') a w → K s' σ n' → J a w) →
        ∀ β s' σ n' a w, T ≤ n' → n ≤ n' → a.tmps.size = S → s'.length = ((liveOf X sx).map fr).length → SRel N w0 M0 β0 ds β (emb fr (liveOf X sx) (modsOf sx) s') σ (Fn T U n') a w →
        swp P sx (gotoK l (fun fr' => K ((liveOf X sx).map fr')) Q) (emb fr (liveOf X sx) (modsOf sx) s') σ n' → x.wp P (Exit.jump l J Q') a w := by
      intro K J hKJ β s' σ n' a w hT' hn hS hs R h
      have h' := swp_mono sx (gotoK l (fun fr' => K ((liveOf X sx).map fr')) Q) (fun e => match e with | .pan v => Q (.pan v) | .goto l' => if l' = l then Keep (modsOf sx) (emb fr (liveOf X sx) (modsOf sx) s') (fun fr' => K ((liveOf X sx).map fr')) else (fun _ _ _ => False) | e => Q e) (modsOf sx) (emb fr (liveOf X sx) (modsOf sx) s') (modsW_of x sx h1) (fun v fr σ n h => h) (fun e fr σ n he hq ha => by
        cases e with
        | normal => exact hq
        | pan v => exact absurd rfl (he v)
        | exit id => exact hq
        | goto l' =>
          simp only [gotoK] at hq ⊢
          split at hq
          · rename_i e; rw [if_pos e]; exact ⟨hq, ha⟩
          · exact hq.elim
        | ret => exact hq) _ σ n' (fun t _ => rfl) h
      refine swp_sound x sx h1 n (fun i => U i ∧ i < T) _ (Exit.jump l J Q') ?_ β _ σ n' a w hn hS (R.free (fun i hi => (fn_up hT i).1 hi)) h'
      intro e β fr1 σ n1 a w hn1 hS R hh
      clear h
      have R := R.free (fun i hi => (fn_up hT i).2 hi)
      cases e with
      | normal => exact hQ .normal β fr1 σ n1 a w (by omega) hS R hh
      | exit id => exact hQ (.exit id) β fr1 σ n1 a w (by omega) hS R hh
      | goto l' =>
        simp only at hh
        simp only [SExit.conv, Exit.jump]
        by_cases hl : l' = l
        · rw [if_pos hl] at hh
          subst hl
          exact ⟨rfl, hKJ β _ σ n1 a w (by omega) hn1 hS (by simp) (emb_at R hh.2) hh.1⟩
        · rw [if_neg hl] at hh
          exact hh.elim
      | ret => exact hQ .ret β fr1 σ n1 a w (by omega) hS R hh
      | pan v => exact hQ (.pan v) β fr1 σ n1 a w (by omega) hS R hh
    obtain ⟨J, ⟨m0, hm0⟩, hJ⟩ := loop_sound (c := x) (W := fun J => Exit.jump l J Q') (S := S) round hT hS R0 h
    exact wp_scope_label J m0 hm0 hJ
  | .exit id, sc, hc, T, U, Q, Q', hQ, β, fr, σ, n, a, w, hT, hS, R, h => by
    cases hc
    exact wp_exit (hQ (.exit id) _ _ _ _ _ _ hT hS R h)
  | .goto l, sc, hc, T, U, Q, Q', hQ, β, fr, σ, n, a, w, hT, hS, R, h => by
    cases hc
    exact wp_goto (hQ (.goto l) _ _ _ _ _ _ hT hS R h)
  | .ret, sc, hc, T, U, Q, Q', hQ, β, fr, σ, n, a, w, hT, hS, R, h => by
    cases hc
    exact wp_ret (hQ .ret _ _ _ _ _ _ hT hS R h)
end
end Go.Proofs.Ytlhnncmflnjinaa.Am
