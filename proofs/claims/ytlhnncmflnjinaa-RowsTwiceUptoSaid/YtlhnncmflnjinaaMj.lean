/- The abstract machine: what an operation tells does not hang on what it does not look at. -/
import Derived.Test.YtlhnncmflnjinaaMi
set_option linter.unusedSimpArgs false
set_option linter.unusedVariables false
namespace Go.Proofs.Ytlhnncmflnjinaa.Am
open Go Go.RowKit

theorem brwL_frame' {σ σ' : Hp} {d : Nat} (hd : ∀ x c I, brw σ d x = some (c, I) → (∀ i ∈ I, σ i = σ' i) → brw σ' d x = some (c, I)) : ∀ (l cs : List AV) (I : List Nat), brwL σ d l = some (cs, I) → (∀ i ∈ I, σ i = σ' i) → brwL σ' d l = some (cs, I)
  | [], cs, I, h, _ => h
  | x :: l, cs, I, h, hI => by
    simp only [brwL, List.foldr_cons] at h ⊢
    split at h
    · rename_i c J cs' I' h1 h2
      simp only [Option.some.injEq, Prod.mk.injEq] at h
      obtain ⟨rfl, rfl⟩ := h
      have h3 := brwL_frame' hd l cs' I' h2 (fun i hi => hI i (List.mem_append_right _ hi))
      simp only [brwL] at h3
      rw [hd _ _ _ h1 (fun i hi => hI i (List.mem_append_left _ hi)), h3]
    · cases h
theorem brw_frame {σ σ' : Hp} : ∀ (d : Nat) (x c : AV) (I : List Nat), brw σ d x = some (c, I) → (∀ i ∈ I, σ i = σ' i) → brw σ' d x = some (c, I) := by
  intro d
  induction d with
  | zero => intro x c I h hI; cases x <;> exact h
  | succ d ih =>
    intro x c I h hI
    cases x with
    | fn f l =>
      change (brwL σ d l).map (fun p => (AV.fn f p.1, p.2)) = some (c, I) at h
      change (brwL σ' d l).map (fun p => (AV.fn f p.1, p.2)) = some (c, I)
      obtain ⟨q, h1, h2⟩ := Option.map_eq_some_iff.1 h
      cases h2
      rw [brwL_frame' ih l q.1 q.2 h1 hI]; rfl
    | ag l =>
      change (brwL σ d l).map (fun p => (AV.ag p.1, p.2)) = some (c, I) at h
      change (brwL σ' d l).map (fun p => (AV.ag p.1, p.2)) = some (c, I)
      obtain ⟨q, h1, h2⟩ := Option.map_eq_some_iff.1 h
      cases h2
      rw [brwL_frame' ih l q.1 q.2 h1 hI]; rfl
    | tp l =>
      change (brwL σ d l).map (fun p => (AV.tp p.1, p.2)) = some (c, I) at h
      change (brwL σ' d l).map (fun p => (AV.tp p.1, p.2)) = some (c, I)
      obtain ⟨q, h1, h2⟩ := Option.map_eq_some_iff.1 h
      cases h2
      rw [brwL_frame' ih l q.1 q.2 h1 hI]; rfl
    | ow i k off len =>
      simp only [brw] at h ⊢
      split at h
      · rename_i x hσ
        split at h
        · rename_i hc
          simp only [Option.some.injEq, Prod.mk.injEq] at h
          obtain ⟨rfl, rfl⟩ := h
          rw [← hI i (by simp), hσ]
          simp only
          rw [if_pos hc]
        · cases h
      · cases h
    | rf i k rr cc =>
      change (match σ i with
        | some (.c x) => if x.k = k then (match x.rows[rr]? with
          | some row => if cc < row.length then ((brwL σ d (row.drop cc)).map fun p => (AV.fp p.1, i :: p.2)) else none
          | none => none) else none
        | _ => none) = some (c, I) at h
      change (match σ' i with
        | some (.c x) => if x.k = k then (match x.rows[rr]? with
          | some row => if cc < row.length then ((brwL σ' d (row.drop cc)).map fun p => (AV.fp p.1, i :: p.2)) else none
          | none => none) else none
        | _ => none) = some (c, I)
      split at h
      · rename_i x hσ
        split at h
        · rename_i hk
          cases hrow : x.rows[rr]? with
          | none => simp [hrow] at h
          | some row =>
            simp only [hrow] at h
            split at h
            · rename_i hc
              obtain ⟨q, h1, h2⟩ := Option.map_eq_some_iff.1 h
              cases h2
              rw [← hI i (by simp), hσ]
              simp only
              rw [if_pos hk, hrow]
              simp only
              rw [if_pos hc, brwL_frame' ih _ q.1 q.2 h1 (fun j hj => hI j (by simp [hj]))]; rfl
            · cases h
        · cases h
      · cases h
    | _ => exact h
theorem brwL_frame {σ σ' : Hp} {d : Nat} {l cs : List AV} {I : List Nat} (h : brwL σ d l = some (cs, I)) (hI : ∀ i ∈ I, σ i = σ' i) : brwL σ' d l = some (cs, I) := brwL_frame' (brw_frame d) l cs I h hI
theorem frz_frame {σ σ' : Hp} : ∀ (I : List Nat), (∀ i ∈ I, σ i = σ' i) → frz σ I = frz σ' I
  | [], _ => rfl
  | i :: I, h => by
    simp only [frz]
    rw [frz_frame I (fun j hj => h j (List.mem_cons_of_mem _ hj)), h i List.mem_cons_self]
theorem frz_names (σ : Hp) : ∀ I : List Nat, names (frz σ I) = I
  | [] => rfl
  | i :: I => by simp only [frz, names, List.map_cons]; exact congrArg (i :: ·) (frz_names σ I)
theorem fillR_mem {σ : Hp} {k : Nat} : ∀ (ps : List (Nat × AV)) (l rows : List (List AV)) (I I' : List Nat), fillR σ k ps l I = some (rows, I') → ∀ i ∈ I, i ∈ I'
  | [], l, rows, I, I', h, i, hi => by simp only [fillR, Option.some.injEq, Prod.mk.injEq] at h; rw [← h.2]; exact hi
  | (j, x) :: ps, l, rows, I, I', h, i, hi => by
    simp only [fillR] at h
    split at h
    · split at h
      · split at h
        · exact fillR_mem ps _ _ _ _ h i (List.mem_append_right _ hi)
        · cases h
      · cases h
    · cases h
theorem fillR_frame {σ σ' : Hp} {k : Nat} : ∀ (ps : List (Nat × AV)) (l rows : List (List AV)) (I I' : List Nat), fillR σ k ps l I = some (rows, I') → (∀ i ∈ I', σ i = σ' i) → fillR σ' k ps l I = some (rows, I')
  | [], l, rows, I, I', h, _ => h
  | (j, x) :: ps, l, rows, I, I', h, hI => by
    simp only [fillR] at h ⊢
    split at h
    · rename_i c J hb
      split at h
      · rename_i cs hc
        split at h
        · rename_i hk
          rw [brw_frame 3 x c J hb (fun i hi => hI i (fillR_mem ps _ _ _ _ h i (List.mem_append_left _ hi)))]
          simp only [hc]
          rw [if_pos hk]
          exact fillR_frame ps _ _ _ _ h hI
        · cases h
      · cases h
    · cases h
section
variable {P : Program}
theorem get_congr {g g' : Opd → AV} : ∀ {l : List Opd}, (∀ x ∈ l, g x = g' x) → l.map g = l.map g' := fun h => List.map_congr_left h
theorem semR_frame {σ σ' : Hp} {g g' : Opd → AV} {op : SOp} (hg : ∀ x ∈ opds op, g x = g' x) (hs : ∀ i ∈ rdR g op, σ i = σ' i) : semR σ g op = semR σ' g' op := by
  cases op <;> simp only [opds, List.mem_cons, List.not_mem_nil, or_false, forall_eq_or_imp, forall_eq, List.mem_append, Option.mem_toList] at hg <;> try (simp only [semR, hg]; done)
  case build zs ps =>
    simp only [semR]
    congr 1
    apply List.map_congr_left
    intro p hp
    rw [hg p.2.2 (List.mem_map.2 ⟨p, hp, rfl⟩)]
  case ld m x =>
    simp only [semR]
    rw [← hg]
    simp only [rdR, rdA] at hs
    unfold aLd
    split
    · rename_i i k r c hx
      rw [hx] at hs
      rw [hs i (by simp)]
    · rfl
    · rfl
  case lkp z ok x k =>
    simp only [semR]
    rw [← hg.1, ← hg.2]
    simp only [rdR] at hs
    unfold aLkp
    split
    · rename_i i l hx hk
      rw [hx] at hs
      rw [hs i (by simp [rdM])]
    · rfl
  case cvb x =>
    simp only [semR]
    rw [← hg]
    simp only [rdR] at hs
    unfold aCvb
    have hy : rowsOf σ 1 (g x) = rowsOf σ' 1 (g x) := by
      unfold rowsOf
      split
      · rfl
      · rfl
      · rename_i i k' off len hyv
        rw [hs i (by simp [rdY, hyv])]
      · rfl
    rw [hy]
  case slc k x lo hi mx =>
    obtain ⟨h1, h2⟩ := hg
    have e1 : lo.map g = lo.map g' := by cases lo <;> simp_all
    have e2 : hi.map g = hi.map g' := by cases hi <;> simp_all
    have e3 : mx.map g = mx.map g' := by cases mx <;> simp_all
    simp only [semR, h1, e1, e2, e3]
  case sstr x lo hi =>
    obtain ⟨h1, h2⟩ := hg
    have e1 : lo.map g = lo.map g' := by cases lo <;> simp_all
    have e2 : hi.map g = hi.map g' := by cases hi <;> simp_all
    simp only [semR, h1, e1, e2]
  case mkf f caps => simp only [semR]; rw [get_congr hg]
theorem semH_frame {σ σ' : Hp} {id : Nat} {g g' : Opd → AV} {op : SOp} {v : AV} {wr : Wr} (h : semH σ id g op = some (v, wr)) (hg : ∀ x ∈ opds op, g x = g' x) (hs : ∀ i ∈ rdH g op wr, σ i = σ' i) : semH σ' id g' op = some (v, wr) := by
  cases op <;> simp only [semH, reduceCtorEq] at h <;> simp only [opds, List.mem_cons, List.not_mem_nil, or_false, forall_eq_or_imp, forall_eq] at hg
  case alloc zs => exact h
  case mkm => exact h
  case mup x k u =>
    simp only [semH]
    rw [← hg.1, ← hg.2.1, ← hg.2.2]
    unfold hMup at h ⊢
    split at h
    · rename_i i l uu hx hk hu
      split at h
      · rename_i es hσ
        have hi : σ i = σ' i := hs i (by
          split at h
          · cases h; simp [rdH, names]
          · cases h; simp [rdH, names]
          · cases h)
        rw [← hi, hσ]; exact h
      · cases h
    · cases h
  case clm x =>
    simp only [semH]
    rw [← hg]
    unfold hClm at h ⊢
    split at h
    · rename_i i hx
      split at h
      · rename_i es hσ
        cases h
        have hi : σ i = σ' i := hs i (by simp [rdH, names])
        rw [← hi, hσ]
      · cases h
    · cases h
  case box x => simp only [semH]; rw [← hg]; exact h
  case bsl k zs len ps =>
    have e : ps.map (fun p => (p.1, g p.2)) = ps.map (fun p => (p.1, g' p.2)) := by
      apply List.map_congr_left
      intro p hp
      rw [hg p.2 (List.mem_map.2 ⟨p, hp, rfl⟩)]
    simp only [semH]
    rw [← e]
    unfold hBsl at h ⊢
    split at h
    · rename_i rows I hf
      simp only [Option.some.injEq, Prod.mk.injEq] at h
      obtain ⟨rfl, rfl⟩ := h
      have hI : ∀ i ∈ I, σ i = σ' i := fun i hi => hs i (by
        simp only [rdH, names, List.map_append, List.mem_append]
        exact .inl (by rw [show (frz σ I).map (·.1) = I from frz_names σ I]; exact hi))
      rw [fillR_frame _ _ _ _ _ hf hI, frz_frame I hI]
    · cases h
  case st m x y =>
    simp only [semH]
    rw [← hg.1, ← hg.2]
    unfold hSt at h ⊢
    split at h
    · rename_i i k r c hx
      split at h
      · rename_i b hσ
        split at h
        · rename_i hk
          split at h
          · rename_i row l h1 h2
            split at h
            · rename_i hc
              simp only [Option.some.injEq, Prod.mk.injEq] at h
              obtain ⟨rfl, rfl⟩ := h
              rw [← hs i (by simp [rdH, names]), hσ]
              simp only
              rw [if_pos hk, h1, h2]
              simp only
              rw [if_pos hc]
            · cases h
          · cases h
        · cases h
      · cases h
    · cases h
  case app k b x y =>
    simp only [semH]
    rw [← hg.1, ← hg.2]
    have hy : ∀ news, rowsOf σ k (g y) = some news → rowsOf σ' k (g y) = some news := by
      intro news hn
      unfold rowsOf at hn ⊢
      split at hn
      · exact hn
      · exact hn
      · rename_i i k' off len hyv
        rw [← hs i (by simp [rdH, rdY, hyv])]
        exact hn
      · cases hn
    unfold hApp at h ⊢
    split at h
    · rename_i news hn
      rw [hy news hn]
      simp only
      split at h
      · rename_i hl
        rw [if_pos hl]
        split at h
        · exact h
        · rename_i i k' len hxv
          rw [← hs i (by simp [rdH, rdY, hxv])]
          exact h
        · cases h
      · cases h
    · cases h
theorem callD_frame {f : AV} {args : List AV} {σ σ' : Hp} {id : Nat} {Q : AEnd → Prop} {wr : Wr} {rd : List Nat} (h : callD P f args σ id (fun r w d => Q r ∧ w = wr ∧ d = rd)) (hs : ∀ i ∈ rd, σ i = σ' i) : callD P f args σ' id (fun r w d => Q r ∧ w = wr ∧ d = rd) := by
  rcases h with h | h
  · unfold callC at h
    split at h
    · obtain ⟨cs, I, r, h1, h2, h3, h4, rfl⟩ := h
      exact .c ⟨cs, I, r, brwL_frame h1 hs, h2, h3, by rw [← h4, frz_frame I hs], rfl⟩
    · exact h.elim
  · unfold callW at h
    split at h
    · obtain ⟨pre, r, w, h1, h2, h3, h4, rfl⟩ := h
      exact .w ⟨pre, r, w, fun p hp => by rw [← hs p.1 (List.mem_map.2 ⟨p, hp, rfl⟩)]; exact h1 p hp, h2, h3, h4, rfl⟩
    · exact h.elim
theorem opds_of {fr fr' : Regs} {o : SOper} (h : ∀ t ∈ optmps o, fr t = fr' t) : ∀ x ∈ opds o.op, Opd.get fr x = Opd.get fr' x := by
  intro x hx
  cases x with
  | t i => exact h i (by unfold optmps; exact List.mem_append_left _ (List.mem_filterMap.2 ⟨.t i, hx, rfl⟩))
  | c a => rfl
theorem rdR_congr {g g' : Opd → AV} {op : SOp} (hg : ∀ x ∈ opds op, g x = g' x) : rdR g op = rdR g' op := by
  cases op <;> try rfl
  case ld m x => simp only [rdR]; rw [hg x (by simp [opds])]
  case cvb x => simp only [rdR]; rw [hg x (by simp [opds])]
  case lkp z ok x k => simp only [rdR]; rw [hg x (by simp [opds])]
theorem rdH_congr {g g' : Opd → AV} {op : SOp} {wr : Wr} (hg : ∀ x ∈ opds op, g x = g' x) : rdH g op wr = rdH g' op wr := by
  cases op <;> try rfl
  case app k b x y => simp only [rdH]; rw [hg x (by simp [opds]), hg y (by simp [opds])]
theorem Runs.frame {st st' : St} {o : SOper} {id : Nat} {v : AV} {wr : Wr} {rd : List Nat} (h : Runs P o.op st id v wr rd) (hr : ∀ t ∈ optmps o, st.1 t = st'.1 t) (hs : ∀ i ∈ rd, st.2 i = st'.2 i) : Runs P o.op st' id v wr rd := by
  have hg := opds_of hr
  rcases h with ⟨h1, h2, h3, h4⟩ | ⟨h1, h2⟩ | ⟨f, args, h1, h2⟩
  · exact .inl ⟨h1, by rw [← semR_frame hg (by rw [← h4]; exact hs)]; exact h2, h3, by rw [← rdR_congr hg]; exact h4⟩
  · exact .inr (.inl ⟨semH_frame h1 hg (by rw [← h2]; exact hs), by rw [← rdH_congr hg]; exact h2⟩)
  · rw [h1] at hg
    simp only [opds, List.mem_cons, forall_eq_or_imp] at hg
    refine .inr (.inr ⟨f, args, h1, ?_⟩)
    rw [← hg.1, ← get_congr hg.2]
    exact callD_frame (Q := fun r => r = .ret v) h2 hs
theorem Pans.frame {st st' : St} {o : SOper} {id : Nat} {x : Value} {rd : List Nat} (h : Pans P o.op st id x rd) (hr : ∀ t ∈ optmps o, st.1 t = st'.1 t) (hs : ∀ i ∈ rd, st.2 i = st'.2 i) : Pans P o.op st' id x rd := by
  have hg := opds_of hr
  rcases h with ⟨f, args, h1, h2⟩ | ⟨y, h1, h2⟩
  · rw [h1] at hg
    simp only [opds, List.mem_cons, forall_eq_or_imp] at hg
    refine .inl ⟨f, args, h1, ?_⟩
    rw [← hg.1, ← get_congr hg.2]
    obtain ⟨r, w, d, h3, h4⟩ := callD_split h2
    obtain ⟨rfl, rfl⟩ := h4
    exact callD_mono (callD_frame (Q := fun r => r = .pan x) h3 hs) (fun _ _ _ h => ⟨h.1, h.2.2⟩)
  · rw [h1] at hg
    exact .inr ⟨y, h1, by rw [← hg y (by simp [opds])]; exact h2⟩
end
/-! states behind some of the operations -/
theorem stL_append (L : Nat → Bool) : ∀ (i : Nat) (es es' : List Eff) (st : St), stL L i (es ++ es') st = stL L (i + es.length) es' (stL L i es st)
  | i, [], es', st => by simp [stL]
  | i, e :: es, es', st => by
    simp only [List.cons_append, stL, List.length_cons]
    rw [stL_append L (i + 1) es es']
    congr 1; omega
theorem stL_congr {L L' : Nat → Bool} : ∀ (i : Nat) (es : List Eff) (st : St), (∀ j, i ≤ j → j < i + es.length → L j = L' j) → stL L i es st = stL L' i es st
  | i, [], st, h => rfl
  | i, e :: es, st, h => by
    simp only [stL]
    rw [h i (Nat.le_refl _) (by simp)]
    exact stL_congr (i + 1) es _ (fun j h1 h2 => h j (by omega) (by simp; omega))
theorem stL_none {L : Nat → Bool} : ∀ (i : Nat) (es : List Eff) (st : St), (∀ j, i ≤ j → j < i + es.length → L j = false) → stL L i es st = st
  | i, [], st, h => rfl
  | i, e :: es, st, h => by
    simp only [stL]
    rw [h i (Nat.le_refl _) (by simp)]
    simp only [cond_false]
    exact stL_none (i + 1) es _ (fun j h1 h2 => h j (by omega) (by simp; omega))
theorem applyW_get : ∀ (wr : Wr) (σ : Hp) (i : Nat), i ∉ names wr → applyW σ wr i = σ i
  | [], σ, i, h => rfl
  | (j, x) :: wr, σ, i, h => by
    simp only [names, List.map_cons, List.mem_cons, not_or] at h
    simp only [applyW]
    rw [applyW_get wr _ i h.2, upd_ne _ _ h.1]
theorem applyW_congr : ∀ (wr : Wr) (σ σ' : Hp) (i : Nat), σ i = σ' i → applyW σ wr i = applyW σ' wr i
  | [], σ, σ', i, h => h
  | (j, x) :: wr, σ, σ', i, h => by
    simp only [applyW]
    refine applyW_congr wr _ _ i ?_
    unfold upd
    split
    · rfl
    · exact h
theorem applyW_mem : ∀ (wr : Wr) (σ σ' : Hp) (i : Nat), i ∈ names wr → applyW σ wr i = applyW σ' wr i
  | [], σ, σ', i, h => by cases h
  | (j, x) :: wr, σ, σ', i, h => by
    simp only [applyW]
    by_cases hin : i ∈ names wr
    · exact applyW_mem wr _ _ i hin
    · have hj : i = j := by simp only [names, List.map_cons, List.mem_cons] at h; exact h.resolve_right hin
      subst hj
      rw [applyW_get wr _ i hin, applyW_get wr _ i hin, upd_same, upd_same]
theorem applyW_comm {wr wr' : Wr} (h : ∀ x ∈ names wr, x ∉ names wr') (σ : Hp) : applyW (applyW σ wr) wr' = applyW (applyW σ wr') wr := by
  funext i
  by_cases h1 : i ∈ names wr
  · rw [applyW_get wr' _ i (h i h1)]
    exact applyW_mem wr _ _ i h1
  · rw [applyW_get wr _ i h1]
    exact applyW_congr wr' _ _ i (applyW_get wr _ i h1)
theorem put_comm {fr : Regs} {d d' : Option Nat} {v v' : AV} (h : ∀ t, d = some t → d' ≠ some t) : Am.put (Am.put fr d v) d' v' = Am.put (Am.put fr d' v') d v := by
  cases d with
  | none => rfl
  | some d =>
    cases d' with
    | none => rfl
    | some d' =>
      have hne : d ≠ d' := fun e => h d rfl (by rw [e])
      funext t
      simp only [Am.put]
      by_cases e1 : t = d
      · subst e1; simp [hne]
      · by_cases e2 : t = d'
        · simp [e1, e2, Ne.symm hne]
        · simp [e1, e2]
theorem effApp_comm {e f : Eff} (h1 : ∀ t, e.dst = some t → f.dst ≠ some t) (h2 : ∀ x ∈ names e.wr, x ∉ names f.wr) (st : St) : effApp f (effApp e st) = effApp e (effApp f st) := by
  unfold effApp
  simp only
  rw [put_comm h1, applyW_comm h2]
/-- a state's slot: the listed operations that tell it -/
theorem stL_reg {t : Nat} {L L' : Nat → Bool} : ∀ (i : Nat) (es : List Eff) (st st' : St), st.1 t = st'.1 t → (∀ j e, es[j]? = some e → e.dst = some t → L (i + j) = L' (i + j)) → (stL L i es st).1 t = (stL L' i es st').1 t
  | i, [], st, st', h, _ => h
  | i, e :: es, st, st', h, hL => by
    simp only [stL]
    refine stL_reg (i + 1) es _ _ ?_ (fun j f hf hd => by have := hL (j + 1) f (by simpa using hf) hd; rwa [show i + (j + 1) = i + 1 + j by omega] at this)
    by_cases hd : e.dst = some t
    · have := hL 0 e rfl hd
      rw [Nat.add_zero] at this
      rw [this]
      cases L' i
      · exact h
      · simp [effApp, Am.put, hd]
    · have hp : ∀ st : St, (effApp e st).1 t = st.1 t := by
        intro st
        unfold effApp Am.put
        cases he : e.dst with
        | none => rfl
        | some d =>
          simp only
          rw [if_neg (fun hh => hd (by rw [he, hh]))]
      cases L i <;> cases L' i <;> simp only [cond_false, cond_true, hp, h]
theorem stL_mem {x : Nat} {L L' : Nat → Bool} : ∀ (i : Nat) (es : List Eff) (st st' : St), st.2 x = st'.2 x → (∀ j e, es[j]? = some e → x ∈ names e.wr → L (i + j) = L' (i + j)) → (stL L i es st).2 x = (stL L' i es st').2 x
  | i, [], st, st', h, _ => h
  | i, e :: es, st, st', h, hL => by
    simp only [stL]
    refine stL_mem (i + 1) es _ _ ?_ (fun j f hf hd => by have := hL (j + 1) f (by simpa using hf) hd; rwa [show i + (j + 1) = i + 1 + j by omega] at this)
    by_cases hd : x ∈ names e.wr
    · have := hL 0 e rfl hd
      rw [Nat.add_zero] at this
      rw [this]
      cases L' i
      · exact h
      · exact applyW_mem _ _ _ _ hd
    · have hp : ∀ st : St, (effApp e st).2 x = st.2 x := fun st => applyW_get _ _ _ hd
      cases L i <;> cases L' i <;> simp only [cond_false, cond_true, hp, h]
/-- one operation more is listed -/
theorem stL_insert {L : Nat → Bool} {k : Nat} : ∀ (i : Nat) (es : List Eff) (st : St) (e : Eff), es[k]? = some e → L (i + k) = false → (∀ j f, k < j → es[j]? = some f → L (i + j) = true → (∀ t, e.dst = some t → f.dst ≠ some t) ∧ ∀ x ∈ names e.wr, x ∉ names f.wr) →
    stL (fun j => L j || j == i + k) i es st = effApp e (stL L i es st) := by
  have push : ∀ (i : Nat) (es : List Eff) (st : St) (e : Eff), (∀ j f, es[j]? = some f → L (i + j) = true → (∀ t, e.dst = some t → f.dst ≠ some t) ∧ ∀ x ∈ names e.wr, x ∉ names f.wr) → stL L i es (effApp e st) = effApp e (stL L i es st) := by
    intro i es
    induction es generalizing i with
    | nil => intro st e _; rfl
    | cons f es ih =>
      intro st e h
      simp only [stL]
      cases hL : L i with
      | false => simp only [cond_false]; exact ih (i + 1) st e (fun j g hg hl => h (j + 1) g (by simpa using hg) (by rw [show i + (j + 1) = i + 1 + j by omega]; exact hl))
      | true =>
        simp only [cond_true]
        obtain ⟨h1, h2⟩ := h 0 f rfl hL
        rw [effApp_comm h1 h2]
        exact ih (i + 1) _ e (fun j g hg hl => h (j + 1) g (by simpa using hg) (by rw [show i + (j + 1) = i + 1 + j by omega]; exact hl))
  induction k with
  | zero =>
    intro i es st e he hL hc
    cases es with
    | nil => cases he
    | cons f es =>
      simp only [List.getElem?_cons_zero, Option.some.injEq] at he
      subst he
      rw [Nat.add_zero] at hL
      simp only [stL, Nat.add_zero, beq_self_eq_true, Bool.or_true, cond_true, hL, cond_false]
      rw [stL_congr (L := fun j => L j || j == i) (L' := L) (i + 1) es _ (fun j h1 _ => by simp [show ¬ j = i by omega])]
      exact push (i + 1) es st f (fun j g hg hl => hc (j + 1) g (by omega) (by simpa using hg) (by rw [show i + (j + 1) = i + 1 + j by omega]; exact hl))
  | succ k ih =>
    intro i es st e he hL hc
    cases es with
    | nil => cases he
    | cons f es =>
      simp only [List.getElem?_cons_succ] at he
      simp only [stL]
      have h0 : (i == i + (k + 1)) = false := by simp
      rw [h0, Bool.or_false]
      have := ih (i + 1) es (bif L i then effApp f st else st) e he (by rw [show i + 1 + k = i + (k + 1) by omega]; exact hL) (fun j g hj hg hl => hc (j + 1) g (by omega) (by simpa using hg) (by rw [show i + (j + 1) = i + 1 + j by omega]; exact hl))
      rw [show i + 1 + k = i + (k + 1) by omega] at this
      exact this
end Go.Proofs.Ytlhnncmflnjinaa.Am
