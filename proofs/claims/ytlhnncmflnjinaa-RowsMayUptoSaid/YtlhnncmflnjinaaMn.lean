/- The abstract machine: code is sound. -/
import Derived.Test.YtlhnncmflnjinaaMm
set_option linter.unusedSimpArgs false
set_option linter.unusedVariables false
namespace Go.Proofs.Ytlhnncmflnjinaa.Am
open Go Go.RowKit

section
variable {P : Program}
theorem bindP_mono {o : Option AV} {K K' : AV → Prop} (h : bindP o K) (hk : ∀ v, K v → K' v) : bindP o K' := by
  unfold bindP at h ⊢
  split at h
  · exact hk _ h
  · exact h.elim
theorem bindH_mono {o : Option (AV × Wr)} {K K' : AV → Wr → Prop} (h : bindH o K) (hk : ∀ v w, K v w → K' v w) : bindH o K' := by
  unfold bindH at h ⊢
  split at h
  · exact hk _ _ h
  · exact h.elim
theorem callC_mono {f : AV} {args : List AV} {σ : Hp} {K K' : AEnd → Wr → List Nat → Prop} (h : callC P f args σ K) (hk : ∀ r wr rd, K r wr rd → K' r wr rd) : callC P f args σ K' := by
  unfold callC at h ⊢
  split at h
  · obtain ⟨cs, I, r, h1, h2, h3⟩ := h; exact ⟨cs, I, r, h1, h2, hk _ _ _ h3⟩
  · exact h.elim
theorem callW_mono {f : AV} {args : List AV} {σ : Hp} {id : Nat} {K K' : AEnd → Wr → List Nat → Prop} (h : callW P f args σ id K) (hk : ∀ r wr rd, K r wr rd → K' r wr rd) : callW P f args σ id K' := by
  unfold callW at h ⊢
  split at h
  · obtain ⟨pre, r, wr, h1, h2, h3⟩ := h; exact ⟨pre, r, wr, h1, h2, hk _ _ _ h3⟩
  · exact h.elim
theorem callH_mono {f : AV} {args : List AV} {σ : Hp} {n : Nat} {K K' : AEnd → Hp → Nat → Prop} (h : callH P f args σ n K) (hk : ∀ r σ n, K r σ n → K' r σ n) : callH P f args σ n K' := by
  unfold callH at h ⊢
  split at h
  · obtain ⟨R, h1, h2⟩ := h; exact ⟨R, h1, fun r σ' n' a b => hk _ _ _ (h2 r σ' n' a b)⟩
  · exact h.elim
theorem CALL_mono {f : AV} {args : List AV} {σ : Hp} {n : Nat} {K K' : AEnd → Hp → Nat → Prop} (h : CALL P f args σ n K) (hk : ∀ r σ n, K r σ n → K' r σ n) : CALL P f args σ n K' := by
  rcases h with h | h | h
  · exact .c (callC_mono h fun _ _ _ h => hk _ _ _ h)
  · exact .w (callW_mono h fun _ _ _ h n' hn => hk _ _ _ (h n' hn))
  · exact .h (callH_mono h hk)
theorem PAN_mono {x : AV} {K K' : Value → Prop} (h : PAN x K) (hk : ∀ v, K v → K' v) : PAN x K' := by
  unfold PAN at h ⊢
  split at h
  · exact hk _ h
  · exact h.elim
theorem step_mono {op : SOp} {fr : Regs} {σ : Hp} {n : Nat} {Kp Kp' : Value → Kn} {K K' : AV → Hp → Nat → Prop} (h : step P op fr σ n Kp K) (hk : ∀ v σ n, K v σ n → K' v σ n) (hp : ∀ v fr σ n, Kp v fr σ n → Kp' v fr σ n) : step P op fr σ n Kp' K' := by
  have plain : (if quiet op = true then bindP (semR σ (Opd.get fr) op) (fun v => K v σ n) else bindS (semH σ n (Opd.get fr) op) σ n K) →
      (if quiet op = true then bindP (semR σ (Opd.get fr) op) (fun v => K' v σ n) else bindS (semH σ n (Opd.get fr) op) σ n K') := by
    intro h
    split at h
    · rename_i hq; rw [if_pos hq]; exact bindP_mono h (fun v => hk _ _ _)
    · rename_i hq; rw [if_neg hq]; exact bindH_mono h (fun v w => hk _ _ _)
  cases op with
  | call f args =>
    simp only [step] at h ⊢
    refine CALL_mono h (fun r σ n hr => ?_)
    cases r with
    | ret v => exact hk _ _ _ hr
    | pan x => exact hp _ _ _ _ hr
  | pan x => simp only [step] at h ⊢; exact PAN_mono h (fun v => hp _ _ _ _)
  | len s x => simp only [step] at h ⊢; exact bindP_mono h (fun v h hb => hk _ _ _ (h hb))
  | _ => simp only [step] at h plain ⊢; exact plain h
theorem guardP_mono {g : AV} {want : Bool} {o : Option AV} {K K' : AV → Prop} (h : guardP g want o K) (hk : ∀ v, K v → K' v) : guardP g want o K' := by
  refine ⟨?_⟩
  replace h := h.h
  unfold guardP' at h ⊢
  split at h
  · obtain ⟨v, h1, h2⟩ := h; exact ⟨v, h1, hk _ h2⟩
  · exact hk _ h
  · exact h.elim
theorem guardK_mono {g : AV} {want : Bool} {e e' : (AV → Hp → Nat → Prop) → Prop} {σ : Hp} {n : Nat} {K K' : AV → Hp → Nat → Prop} (h : guardK g want e σ n K) (hk : ∀ v σ n, K v σ n → K' v σ n) (he : e K → e' K') : guardK g want e' σ n K' := by
  refine ⟨?_⟩
  replace h := h.h
  unfold guardK' at h ⊢
  split at h
  · split at h
    · rename_i hb; rw [if_pos hb]; exact he h
    · rename_i hb; rw [if_neg hb]; exact hk _ _ _ h
  · exact hk _ _ _ h
  · exact h.elim
theorem sops_mono {K K' : Kn} {Kp Kp' : Value → Kn} (hp : ∀ v fr σ n, Kp v fr σ n → Kp' v fr σ n) (M : List Nat) (fr0 : Regs) (hk : ∀ fr σ n, K fr σ n → (∀ t, t ∉ M → fr t = fr0 t) → K' fr σ n) : ∀ (l : List SOper) (fr : Regs) (σ : Hp) (n : Nat), (∀ o ∈ l, ∀ d, o.dst = some d → d ∈ M) → (∀ t, t ∉ M → fr t = fr0 t) → sops P K Kp l fr σ n → sops P K' Kp' l fr σ n
  | [], fr, σ, n, _, ha, h => hk fr σ n h ha
  | o :: l, fr, σ, n, hl, ha, h => by
    have hput : ∀ v, ∀ t, t ∉ M → put fr o.dst v t = fr0 t := by
      intro v t ht
      cases hd : o.dst with
      | none => exact ha t ht
      | some d =>
        simp only [put]
        rw [if_neg (fun (e : t = d) => ht (e ▸ hl o (by simp) d hd))]
        exact ha t ht
    have hrest : ∀ v σ n, sops P K Kp l (put fr o.dst v) σ n → sops P K' Kp' l (put fr o.dst v) σ n := fun v σ n h =>
      sops_mono hp M fr0 hk l _ σ n (fun o ho => hl o (List.mem_cons_of_mem _ ho)) (hput v) h
    unfold sops at h ⊢
    split at h
    · exact step_mono h hrest hp
    · split at h
      · rename_i hq; rw [if_pos hq]; exact guardP_mono h (fun v => hrest v σ n)
      · rename_i hq; rw [if_neg hq]; exact guardK_mono h hrest (fun h => step_mono h hrest hp)
theorem side1_mono {anc w r : List Nat} {X Y : Prop} (hxy : X → Y) : ∀ (i : Nat) (l : List (SOper × List Nat)) (es : List Eff), side1 anc w r i l es X → side1 anc w r i l es Y
  | i, [], es, h => hxy h
  | i, (o, a) :: l, [], h => hxy h
  | i, (o, a) :: l, e :: es, h => by
    simp only [side1] at h ⊢
    cases hb : (inert o.op || anc.contains i) with
    | true => rw [hb, cond_true] at h; rw [cond_true]; exact side1_mono hxy _ l es h
    | false => rw [hb, cond_false] at h; rw [cond_false]; exact ⟨h.1, side1_mono hxy _ l es h.2⟩
theorem sideL_mono {l0 : List (SOper × List Nat)} {effs : List Eff} {X Y : Prop} (hxy : X → Y) : ∀ (j : Nat) (l : List (SOper × List Nat)) (es : List Eff), sideL l0 effs j l es X → sideL l0 effs j l es Y
  | j, [], es, h => hxy h
  | j, (o, a) :: l, [], h => hxy h
  | j, (o, a) :: l, e :: es, h => by
    simp only [sideL] at h ⊢
    cases hb : inert o.op with
    | true => rw [hb, cond_true] at h; rw [cond_true]; exact sideL_mono hxy _ l es h
    | false => rw [hb, cond_false] at h; rw [cond_false]; exact side1_mono (fun h => sideL_mono hxy _ l es h) _ _ _ h
theorem callD_mono' {f : AV} {args : List AV} {σ : Hp} {id : Nat} {K K' : AEnd → Wr → List Nat → Prop} (h : callD P f args σ id K) (hk : ∀ r wr rd, K r wr rd → K' r wr rd) : callD P f args σ id K' := callD_mono h hk
theorem dstep_mono {op : SOp} {fr : Regs} {σ : Hp} {id : Nat} {Kp Kp' : Value → List Nat → Prop} {K K' : AV → Wr → List Nat → Prop} (h : dstep P op fr σ id Kp K) (hk : ∀ v w r, K v w r → K' v w r) (hp : ∀ v r, Kp v r → Kp' v r) : dstep P op fr σ id Kp' K' := by
  have plain : (if quiet op = true then bindP (semR σ (Opd.get fr) op) (fun v => K v [] (rdR (Opd.get fr) op)) else bindH (semH σ id (Opd.get fr) op) (fun v wr => K v wr (rdH (Opd.get fr) op wr))) →
      (if quiet op = true then bindP (semR σ (Opd.get fr) op) (fun v => K' v [] (rdR (Opd.get fr) op)) else bindH (semH σ id (Opd.get fr) op) (fun v wr => K' v wr (rdH (Opd.get fr) op wr))) := by
    intro h
    split at h
    · rename_i hq; rw [if_pos hq]; exact bindP_mono h (fun v => hk _ _ _)
    · rename_i hq; rw [if_neg hq]; exact bindH_mono h (fun v w => hk _ _ _)
  cases op with
  | call f args =>
    simp only [dstep] at h ⊢
    refine callD_mono h (fun r wr rd hr => ?_)
    cases r with
    | ret v => exact hk _ _ _ hr
    | pan x => exact hp _ _ hr
  | pan x => simp only [dstep] at h ⊢; exact PAN_mono h (fun v => hp _ _)
  | _ => simp only [dstep] at h plain ⊢; exact plain h
theorem guardD_mono {g : AV} {want : Bool} {e e' : (AV → Wr → List Nat → Prop) → Prop} {K K' : AV → Wr → List Nat → Prop} (h : guardD g want e K) (hk : ∀ v w r, K v w r → K' v w r) (he : e K → e' K') : guardD g want e' K' := by
  refine ⟨?_⟩
  replace h := h.h
  unfold guardD' at h ⊢
  split at h
  · split at h
    · rename_i hb; rw [if_pos hb]; exact he h
    · rename_i hb; rw [if_neg hb]; exact hk _ _ _ h
  · exact hk _ _ _ h
  · exact h.elim
theorem stL_keep {M : List Nat} {L : Nat → Bool} : ∀ (i : Nat) (es : List Eff) (st : St), (∀ e ∈ es, ∀ d, e.dst = some d → d ∈ M) → ∀ t, t ∉ M → (stL L i es st).1 t = st.1 t
  | i, [], st, _, t, _ => rfl
  | i, e :: es, st, h, t, ht => by
    simp only [stL]
    rw [stL_keep (i + 1) es _ (fun e he => h e (List.mem_cons_of_mem _ he)) t ht]
    cases L i with
    | false => rfl
    | true =>
      simp only [cond_true, effApp]
      cases hd : e.dst with
      | none => rfl
      | some d => simp only [put]; rw [if_neg (fun (hh : t = d) => ht (hh ▸ h e (by simp) d hd))]
theorem dops_mono {K K' : Kn} {Kp Kp' : Value → Kn} {l0 : List (SOper × List Nat)} {st0 : St} {n : Nat} (hp : ∀ v fr σ n, Kp v fr σ n → Kp' v fr σ n) (M : List Nat) (hk : ∀ fr σ n, K fr σ n → (∀ t, t ∉ M → fr t = st0.1 t) → K' fr σ n) :
    ∀ (l : List (SOper × List Nat)) (effs : List Eff) (pn : Option Value), (∀ p ∈ l, ∀ d, p.1.dst = some d → d ∈ M) → (∀ e ∈ effs, ∀ d, e.dst = some d → d ∈ M) → dops P K Kp l0 st0 n l effs pn → dops P K' Kp' l0 st0 n l effs pn
  | [], effs, none, _, he, h => by simp only [dops] at h ⊢; exact sideL_mono (fun h n' hn => hk _ _ _ (h n' hn) (fun t ht => stL_keep 0 effs st0 he t ht)) _ _ _ h
  | [], effs, some x, _, _, h => by simp only [dops] at h ⊢; exact sideL_mono (fun h fr σ n => hp _ _ _ _ (h fr σ n)) _ _ _ h
  | (o, anc) :: l, effs, pn, hl, he, h => by
    have hrest : ∀ (e : Eff) pn, e.dst = o.dst → dops P K Kp l0 st0 n l (effs ++ [e]) pn → dops P K' Kp' l0 st0 n l (effs ++ [e]) pn := fun e pn hed h =>
      dops_mono hp M hk l _ pn (fun p hp => hl p (List.mem_cons_of_mem _ hp)) (fun f hf => by
        rcases List.mem_append.1 hf with hf | hf
        · exact he f hf
        · simp only [List.mem_singleton] at hf; subst hf; intro d hd; exact hl (o, anc) (by simp) d (by rw [← hed]; exact hd)) h
    unfold dops at h ⊢
    cases hb : anc.any (fun i => (effs[i]?).any (·.dead)) with
    | true => rw [hb, cond_true] at h; rw [cond_true]; exact hrest _ _ rfl h
    | false =>
      rw [hb, cond_false] at h
      rw [cond_false]
      split at h
      · exact dstep_mono h (fun v w r => hrest _ _ rfl) (fun v r h => once_iff.2 ((once_iff.1 h).imp id (hrest _ _ rfl)))
      · split at h
        · rename_i hq; rw [if_pos hq]; exact guardP_mono h (fun v => hrest _ _ rfl)
        · rename_i hq; rw [if_neg hq]; exact guardD_mono h (fun v w r => hrest _ _ rfl) (fun h => dstep_mono h (fun v w r => hrest _ _ rfl) (fun v r h => once_iff.2 ((once_iff.1 h).imp id (hrest _ _ rfl))))
/-- the slots that a piece may tell, its loops' own among them -/
def modsW : SCode → List Nat
  | .reg ops => ops.filterMap (·.dst)
  | .regD ops => ops.filterMap (·.1.dst)
  | .seq a b => modsW a ++ modsW b
  | .seqJ live mods a b => live ++ mods ++ modsW a ++ modsW b
  | .cond _ a b => modsW a ++ modsW b
  | .block _ c => modsW c
  | .loop live mods c => live ++ mods ++ modsW c
  | .scope _ live mods c => live ++ mods ++ modsW c
  | _ => []
theorem emb_keep {fr : Regs} {live mods : List Nat} {s : List AV} {t : Nat} (h1 : t ∉ live) (h2 : t ∉ mods) : emb fr live mods s t = fr t := by
  have : ∀ (l : List Nat) (i : Nat), t ∉ l → idx t l i = none := by
    intro l
    induction l with
    | nil => intro i _; rfl
    | cons x l ih => intro i h; simp only [List.mem_cons, not_or] at h; simp only [idx]; rw [if_neg (Ne.symm h.1)]; exact ih _ h.2
  unfold emb
  rw [this live 0 h1]
  simp only
  rw [if_neg (by simpa using h2)]
theorem swp_mono : ∀ (c : SCode) (Q Q' : Ks) (M : List Nat) (fr0 : Regs), (∀ t ∈ modsW c, t ∈ M) → (∀ v fr σ n, Q (.pan v) fr σ n → Q' (.pan v) fr σ n) → (∀ e fr σ n, (∀ v, e ≠ .pan v) → Q e fr σ n → (∀ t, t ∉ M → fr t = fr0 t) → Q' e fr σ n) →
    ∀ (fr : Regs) (σ : Hp) (n : Nat), (∀ t, t ∉ M → fr t = fr0 t) → swp P c Q fr σ n → swp P c Q' fr σ n := by
  intro c
  induction c with
  | skip => intro Q Q' M fr0 hM hp hk fr σ n ha h; exact hk .normal fr σ n (fun v h => by cases h) h ha
  | reg ops =>
    intro Q Q' M fr0 hM hp hk fr σ n ha h
    exact sops_mono hp M fr0 (fun fr σ n h ha => hk .normal fr σ n (fun v h => by cases h) h ha) ops fr σ n (fun o ho d hd => hM d (List.mem_filterMap.2 ⟨o, ho, hd⟩)) ha h
  | regD ops =>
    intro Q Q' M fr0 hM hp hk fr σ n ha h
    exact dops_mono hp M (fun fr' σ n h ha' => hk .normal fr' σ n (fun v h => by cases h) h (fun t ht => (ha' t ht).trans (ha t ht))) ops [] none (fun p hp d hd => hM d (List.mem_filterMap.2 ⟨p, hp, hd⟩)) (fun e he => by cases he) h
  | seq a b iha ihb =>
    intro Q Q' M fr0 hM hp hk fr σ n ha h
    refine iha (thenK (swp P b Q) Q) (thenK (swp P b Q') Q') M fr0 (fun t ht => hM t (List.mem_append_left _ ht)) hp (fun e fr σ n he hq ha => ?_) fr σ n ha h
    cases e with
    | normal => exact ihb Q Q' M fr0 (fun t ht => hM t (List.mem_append_right _ ht)) hp hk fr σ n ha hq
    | pan v => exact absurd rfl (he v)
    | exit id => exact hk (.exit id) _ _ _ he hq ha
    | goto l => exact hk (.goto l) _ _ _ he hq ha
    | ret => exact hk .ret _ _ _ he hq ha
  | seqJ live mods a b iha ihb =>
    intro Q Q' M fr0 hM hp hk fr σ n ha h
    simp only [swp] at h ⊢
    refine ⟨?_⟩
    replace h := h.h
    try simp only at h ⊢
    have hM0 : ∀ t ∈ live ++ mods, t ∈ M := fun t ht => hM t (List.mem_append_left _ (List.mem_append_left _ ht))
    have hMa : ∀ t ∈ modsW a, t ∈ M := fun t ht => hM t (List.mem_append_left _ (List.mem_append_right _ ht))
    have hemb : ∀ s t, t ∉ M → emb fr live mods s t = fr0 t := fun s t ht => (emb_keep (fun h => ht (hM0 t (List.mem_append_left _ h))) (fun h => ht (hM0 t (List.mem_append_right _ h)))).trans (ha t ht)
    refine iha (thenK (fun fr' => swp P b Q (emb fr live mods (live.map fr'))) Q) (thenK (fun fr' => swp P b Q' (emb fr live mods (live.map fr'))) Q') M fr0 hMa hp (fun e fr1 σ n he hq ha1 => ?_) fr σ n ha h
    cases e with
    | normal => exact ihb Q Q' M fr0 (fun t ht => hM t (List.mem_append_right _ ht)) hp hk _ σ n (hemb _) hq
    | pan v => exact absurd rfl (he v)
    | exit id => exact hk (.exit id) _ _ _ he hq ha1
    | goto l => exact hk (.goto l) _ _ _ he hq ha1
    | ret => exact hk .ret _ _ _ he hq ha1
  | cond c a b iha ihb =>
    intro Q Q' M fr0 hM hp hk fr σ n ha h
    simp only [swp, COND] at h ⊢
    split at h
    · exact ⟨fun ht => iha Q Q' M fr0 (fun t ht => hM t (List.mem_append_left _ ht)) hp hk fr σ n ha (h.1 ht), fun ht => ihb Q Q' M fr0 (fun t ht => hM t (List.mem_append_right _ ht)) hp hk fr σ n ha (h.2 ht)⟩
    · exact ⟨iha Q Q' M fr0 (fun t ht => hM t (List.mem_append_left _ ht)) hp hk fr σ n ha h.1, ihb Q Q' M fr0 (fun t ht => hM t (List.mem_append_right _ ht)) hp hk fr σ n ha h.2⟩
    · exact h.elim
  | block id c ih =>
    intro Q Q' M fr0 hM hp hk fr σ n ha h
    refine ih (blockK id Q) (blockK id Q') M fr0 hM hp (fun e fr σ n he hq ha => ?_) fr σ n ha h
    cases e with
    | normal => exact hk .normal _ _ _ he hq ha
    | pan v => exact absurd rfl (he v)
    | exit id' =>
      simp only [blockK] at hq ⊢
      split at hq
      · rename_i e; rw [if_pos e]; exact hk .normal _ _ _ (fun v h => by cases h) hq ha
      · rename_i e; rw [if_neg e]; exact hk (.exit id') _ _ _ he hq ha
    | goto l => exact hk (.goto l) _ _ _ he hq ha
    | ret => exact hk .ret _ _ _ he hq ha
  | loop live mods c ih =>
    intro Q Q' M fr0 hM hp hk fr σ n ha h
    obtain ⟨I, h0, hr⟩ := h
    refine ⟨I, h0, fun m s σ n hn hs hI => ?_⟩
    have hM1 : ∀ t ∈ modsW c, t ∈ M := fun t ht => hM t (List.mem_append_right _ ht)
    have hemb : ∀ t, t ∉ M → emb fr live mods s t = fr0 t := fun t ht => (emb_keep (fun h => ht (hM t (List.mem_append_left _ (List.mem_append_left _ h)))) (fun h => ht (hM t (List.mem_append_left _ (List.mem_append_right _ h))))).trans (ha t ht)
    refine ih (thenK (fun fr' σ n => ∃ m', m' < m ∧ Weak (I m') (live.map fr') σ n) Q) (thenK (fun fr' σ n => ∃ m', m' < m ∧ Weak (I m') (live.map fr') σ n) Q') M fr0 hM1 hp (fun e fr1 σ n he hq ha => ?_) _ σ n hemb (hr m s σ n hn hs hI)
    cases e with
    | normal => exact hq
    | pan v => exact absurd rfl (he v)
    | exit id => exact hk (.exit id) _ _ _ he hq ha
    | goto l => exact hk (.goto l) _ _ _ he hq ha
    | ret => exact hk .ret _ _ _ he hq ha
  | scope l live mods c ih =>
    intro Q Q' M fr0 hM hp hk fr σ n ha h
    obtain ⟨I, h0, hr⟩ := h
    refine ⟨I, h0, fun m s σ n hn hs hI => ?_⟩
    have hM1 : ∀ t ∈ modsW c, t ∈ M := fun t ht => hM t (List.mem_append_right _ ht)
    have hemb : ∀ t, t ∉ M → emb fr live mods s t = fr0 t := fun t ht => (emb_keep (fun h => ht (hM t (List.mem_append_left _ (List.mem_append_left _ h)))) (fun h => ht (hM t (List.mem_append_left _ (List.mem_append_right _ h))))).trans (ha t ht)
    refine ih (gotoK l (fun fr' σ n => ∃ m', m' < m ∧ Weak (I m') (live.map fr') σ n) Q) (gotoK l (fun fr' σ n => ∃ m', m' < m ∧ Weak (I m') (live.map fr') σ n) Q') M fr0 hM1 hp (fun e fr1 σ n he hq ha => ?_) _ σ n hemb (hr m s σ n hn hs hI)
    cases e with
    | normal => exact hk .normal _ _ _ he hq ha
    | pan v => exact absurd rfl (he v)
    | exit id => exact hk (.exit id) _ _ _ he hq ha
    | goto l' =>
      simp only [gotoK] at hq ⊢
      split at hq
      · rename_i e; rw [if_pos e]; exact hq
      · exact hq.elim
    | ret => exact hk .ret _ _ _ he hq ha
  | exit id => intro Q Q' M fr0 hM hp hk fr σ n ha h; exact hk (.exit id) fr σ n (fun v h => by cases h) h ha
  | goto l => intro Q Q' M fr0 hM hp hk fr σ n ha h; exact hk (.goto l) fr σ n (fun v h => by cases h) h ha
  | ret => intro Q Q' M fr0 hM hp hk fr σ n ha h; exact hk .ret fr σ n (fun v h => by cases h) h ha
theorem mem_dedup {t : Nat} : ∀ {l : List Nat}, t ∈ dedup l → t ∈ l
  | x :: l, h => by
    simp only [dedup, List.foldr_cons] at h
    split at h
    · exact List.mem_cons_of_mem _ (mem_dedup h)
    · rcases List.mem_cons.1 h with rfl | h
      · exact List.mem_cons_self
      · exact List.mem_cons_of_mem _ (mem_dedup h)
theorem live_mods (X : List Nat) (sc : SCode) : ∀ t ∈ liveOf X sc, t ∈ modsOf sc := fun t ht => mem_dedup (List.mem_filter.1 ht).1
theorem modsW_of {S : Nat} {X : List Nat} : ∀ (c : Code) (sc : SCode), cmpC P S X c = some sc → ∀ t ∈ modsW sc, t ∈ modsOf sc
  | .region id ops true, sc, h, t, ht => by obtain ⟨_, _, rfl⟩ := Option.map_eq_some_iff.1 h; exact ht
  | .region id ops false, sc, h, t, ht => by obtain ⟨_, _, rfl⟩ := Option.map_eq_some_iff.1 h; exact ht
  | .seq a b, sc, h, t, ht => by
    simp only [cmpC] at h
    split at h
    · rename_i x y h1 h2
      split at h
      · cases h
        rcases List.mem_append.1 ht with ht | ht
        · rcases List.mem_append.1 ht with ht | ht
          · rcases List.mem_append.1 ht with ht | ht
            · exact List.mem_append_left _ (live_mods X x t ht)
            · exact List.mem_append_left _ ht
          · exact List.mem_append_left _ (modsW_of a x h1 t ht)
        · exact List.mem_append_right _ (modsW_of b y h2 t ht)
      · cases h
        rcases List.mem_append.1 ht with ht | ht
        · exact List.mem_append_left _ (modsW_of a x h1 t ht)
        · exact List.mem_append_right _ (modsW_of b y h2 t ht)
    · cases h
  | .cond c a b, sc, h, t, ht => by
    simp only [cmpC] at h
    split at h
    · rename_i x y h1 h2; cases h
      rcases List.mem_append.1 ht with ht | ht
      · exact List.mem_append_left _ (modsW_of a x h1 t ht)
      · exact List.mem_append_right _ (modsW_of b y h2 t ht)
    · cases h
  | .block id c, sc, h, t, ht => by obtain ⟨x, h1, rfl⟩ := Option.map_eq_some_iff.1 h; exact modsW_of c x h1 t ht
  | .loop c, sc, h, t, ht => by
    obtain ⟨x, h1, rfl⟩ := Option.map_eq_some_iff.1 h
    rcases List.mem_append.1 ht with ht | ht
    · rcases List.mem_append.1 ht with ht | ht
      · exact live_mods X x t ht
      · exact ht
    · exact modsW_of c x h1 t ht
  | .scope (.seq (.label l) c), sc, h, t, ht => by
    obtain ⟨x, h1, rfl⟩ := Option.map_eq_some_iff.1 h
    rcases List.mem_append.1 ht with ht | ht
    · rcases List.mem_append.1 ht with ht | ht
      · exact live_mods X x t ht
      · exact ht
    · exact modsW_of c x h1 t ht
  | .skip, sc, h, t, ht => by cases h; cases ht
  | .exit id, sc, h, t, ht => by cases h; cases ht
  | .goto l, sc, h, t, ht => by cases h; cases ht
  | .ret, sc, h, t, ht => by cases h; cases ht
end
end Go.Proofs.Ytlhnncmflnjinaa.Am
