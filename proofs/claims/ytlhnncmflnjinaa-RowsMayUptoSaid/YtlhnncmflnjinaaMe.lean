/- The abstract operations say what the machine's do: slices that are made, cells that are stored, append. -/
import Derived.Test.YtlhnncmflnjinaaMd
set_option linter.unusedSimpArgs false
set_option linter.unusedVariables false
namespace Go.Proofs.Ytlhnncmflnjinaa.Am
open Go Go.RowKit

section
variable {P : Program} {N : Nat → Prop} {w0 : World} {M0 : Nat → Prop} {β0 : Nat → Option Nat} {ds : List Deferred} {β : Nat → Option Nat} {fr : Regs} {σ : Hp} {F : Nat → Prop} {a : Act} {w : World}
/-- an object of the call's own is written -/
theorem SRel.setObj (h : SRel N w0 M0 β0 ds β fr σ F a w) {id : Nat} {x : Ob} {b : Nat} {w' : World} (hσ : σ id = some x) (hw : x.wr = true) (hb : β id = some b) (hos : w'.os = w.os) (htape : w'.tape = w.tape) (hout : w'.output = w.output) (hsz : w'.heap.size = w.heap.size)
    (hother : ∀ g, g ≠ b → w'.heap[g]? = w.heap[g]?) (hshape : ∀ s, w.shape? b = some s → w'.shape? b = some s) (y : Ob)
    (hc : ∀ z, y = .c z → ∃ cells e, w'.heap[b]? = some (.cells cells e (0, 0)) ∧ z.rows.length * z.k ≤ cells.size ∧ (∀ r ∈ z.rows, r.length = z.k) ∧ z.rows.length ≤ 4611686018427387904 ∧
      ∀ (p q : Nat) (r : List AV) (a : AV), z.rows[p]? = some r → r[q]? = some a → ∃ u, cells[p * z.k + q]? = some u ∧ Rel (live N β σ) w (z.nm β) u a)
    (hm : ∀ es wr, y = .m es wr → ∃ ms cl, w'.heap[b]? = some (.map ms cl) ∧ ms.size = es.length ∧ ∀ (p : Nat) (e : AV × AV) (m : MapEntry), es[p]? = some e → ms[p]? = some m → Rel (live N β σ) w nob m.key e.1 ∧ Rel (live N β σ) w nob m.val e.2) :
    SRel N w0 M0 β0 ds β fr (upd σ id (some y)) F a w' ∧ (∀ {β' v z}, Rel (live N β σ) w β' v z → Rel (live N β (upd σ id (some y))) w' β' v z) := by
  have hown : own β σ b := ⟨id, x, hσ, hw, hb⟩
  have hlive : live N β σ b := .inr hown
  have hl0 : ∀ g, own β (upd σ id (some y)) g → own β σ g := by
    rintro g ⟨i, z, h1, h2, h3⟩
    by_cases e : i = id
    · subst e; exact ⟨i, x, hσ, hw, h3⟩
    · rw [upd_ne _ _ e] at h1; exact ⟨i, z, h1, h2, h3⟩
  have hl : ∀ g, g < w.heap.size → live N β (upd σ id (some y)) g → live N β σ g := fun g _ h => h.imp (fun h => h) (hl0 g)
  have k3 : ∀ ad u, w.cell? ad = some u → ¬ live N β σ ad.block → w'.cell? ad = some u := by
    intro ad u hcell hm
    have hne : ad.block ≠ b := fun e => hm (e ▸ hlive)
    simpa only [World.cell?, hother _ hne] using hcell
  have k4 : ∀ g s, w.shape? g = some s → w'.shape? g = some s := by
    intro g s hs
    by_cases e : g = b
    · subst e; exact hshape s hs
    · simpa only [World.shape?, hother _ e] using hs
  have up : ∀ {β' v z}, Rel (live N β σ) w β' v z → Rel (live N β (upd σ id (some y))) w' β' v z := fun hr => Rel.step (fun _ _ h => h) hl k3 k4 hr
  refine ⟨⟨⟨?_, ?_, ?_, ?_, ?_⟩, fun t => up (h.regs t), ?_, fun g hg => h.old g (hl0 g hg), h.away, h.defers, h.ext⟩, up⟩
  · intro i hi
    have hne : i ≠ id := fun e => by subst e; rw [(h.heap.dom i hi).2] at hσ; cases hσ
    rw [upd_ne _ _ hne]; exact h.heap.dom i hi
  · intro i z g hz hg
    by_cases e : i = id
    · subst e; exact h.heap.off i x g hσ hg
    · rw [upd_ne _ _ e] at hz; exact h.heap.off i z g hz hg
  · intro i j g hi hj si sj
    have k : ∀ i, ((upd σ id (some y)) i).isSome → (σ i).isSome := by
      intro i hi
      by_cases e : i = id
      · subst e; simp [hσ]
      · rwa [upd_ne _ _ e] at hi
    exact h.heap.inj i j g hi hj (k i si) (k j sj)
  · intro i z hz
    by_cases e : i = id
    · subst e
      rw [upd_same] at hz; cases hz
      obtain ⟨cells, e, g1, g2, g3, g4, g5⟩ := hc z rfl
      exact .inr ⟨b, cells, e, hb, g1, g2, g3, g4, fun p q r a hp hq => let ⟨u, hu, hr⟩ := g5 p q r a hp hq; ⟨u, hu, up hr⟩⟩
    · rw [upd_ne _ _ e] at hz
      rcases h.heap.blk i z hz with h0 | ⟨g, cs, e', h1, h2⟩
      · exact .inl h0
      · have hne : g ≠ b := fun e2 => e (h.heap.inj i id b (e2 ▸ h1) hb (by simp [hz]) (by simp [hσ]))
        exact .inr ⟨g, cs, e', h1, h2.step (fun _ _ h => h) hl k3 k4 (hother g hne)⟩
  · intro i es wr hz
    by_cases e : i = id
    · subst e
      rw [upd_same] at hz; cases hz
      obtain ⟨ms, cl, g1, g2, g3⟩ := hm es wr rfl
      exact ⟨b, ms, cl, hb, g1, g2, fun p e m hp hm => ⟨up (g3 p e m hp hm).1, up (g3 p e m hp hm).2⟩⟩
    · rw [upd_ne _ _ e] at hz
      obtain ⟨g, ms, cl, h1, h2⟩ := h.heap.map i es wr hz
      have hne : g ≠ b := fun e2 => e (h.heap.inj i id b (e2 ▸ h1) hb (by simp [hz]) (by simp [hσ]))
      exact ⟨g, ms, cl, h1, h2.step hl k3 k4 (hother g hne)⟩
  · refine ⟨hos.trans h.frame.os, htape.trans h.frame.tape, hout.trans h.frame.output, by rw [hsz]; exact h.frame.size, fun g h1 h2 => ?_, fun g s hs => k4 g s (h.frame.shape g s hs)⟩
    have hne : g ≠ b := fun e => h2 (e ▸ h.old b hown (e ▸ h1))
    rw [hother g hne]; exact h.frame.block g h1 h2
/-- a block of the call's own is written -/
theorem SRel.set (h : SRel N w0 M0 β0 ds β fr σ F a w) {id : Nat} {x : Ob} {b : Nat} {cells : Array Value} {e : TypeId} (hσ : σ id = some x) (hw : x.wr = true) (hb : β id = some b) (hh : w.heap[b]? = some (.cells cells e (0, 0)))
    (cells' : Array Value) (hsz : cells'.size = cells.size) (y : Blk) (hn : y.rows.length * y.k ≤ cells'.size) (hr : ∀ r ∈ y.rows, r.length = y.k) (hB : y.rows.length ≤ 4611686018427387904)
    (hc : ∀ (p q : Nat) (r : List AV) (z : AV), y.rows[p]? = some r → r[q]? = some z → ∃ u, cells'[p * y.k + q]? = some u ∧ Rel (live N β σ) w (y.nm β) u z) :
    SRel N w0 M0 β0 ds β fr (upd σ id (some (.c y))) F a (w.setRow b cells') ∧ (∀ {β' v z}, Rel (live N β σ) w β' v z → Rel (live N β (upd σ id (some (.c y)))) (w.setRow b cells') β' v z) := by
  refine h.setObj (w' := w.setRow b cells') hσ hw hb rfl rfl rfl (by simp) (fun g hg => setRow_other w b g cells' hg) ?_ (.c y) (fun z hz => ?_) (fun es wr h => by cases h)
  · intro s hs
    simp only [World.shape?, hh] at hs
    simp only [World.shape?, setRow_heap w b cells cells' _ _ hh, hsz]
    exact hs
  · cases hz
    exact ⟨cells', _, setRow_heap w b cells cells' _ _ hh, hn, hr, hB, hc⟩
theorem clo_rel {β β' : Nat → Option Nat} {M : Nat → Prop} {v : Value} {x : AV} (h : Rel M w β v x) (hc : clo x = true) : Rel M w β' v x := by
  cases h <;> simp only [clo, Bool.false_eq_true] at hc
  · exact .any _
  · exact .sc _
  · exact .s _ _ (by assumption) (by assumption)
  · exact .em _
  · exact .tr _ _ _ _ _ (by assumption) (by assumption) (by assumption) (by assumption) (by assumption) (by assumption) (by assumption)
  · exact .fp _ _ _ (by assumption) (by assumption) (by assumption) (by assumption)
theorem applyW_append (σ : Hp) : ∀ (l1 l2 : Wr), applyW σ (l1 ++ l2) = applyW (applyW σ l1) l2 := by
  intro l1
  induction l1 generalizing σ with
  | nil => intro l2; rfl
  | cons p l1 ih => intro l2; obtain ⟨i, x⟩ := p; exact ih _ l2
theorem good_st (R : SRel N w0 M0 β0 ds β fr σ F a w) {o : Oper} {t : TypeId} {m : Nat} {x y : Operand} {id : Nat} {v : AV} {wr : Wr} (ho : o.op = .store t x y) (hm : szT P t = some m)
    (hs : hSt σ m ((cOpd x).get fr) ((cOpd y).get fr) = some (v, wr)) : Good P o N w0 M0 β0 ds β fr σ F id a w v wr := by
  have h := rel_get R x
  have hy := rel_get R y
  unfold hSt at hs
  unfold szT at hm
  obtain ⟨inf, hinf, hsz⟩ := Option.map_eq_some_iff.1 hm
  generalize (cOpd x).get fr = X at h hs
  generalize hu : a.eval x = u at h
  cases h <;> simp only [reduceCtorEq] at hs
  case rf i k r c b hb =>
    cases hσ : σ i with
    | none => simp [hσ] at hs
    | some q0 =>
    cases q0 with
    | m es wr => simp [hσ] at hs
    | c q =>
      simp only [hσ] at hs
      split at hs
      · rename_i hk
        obtain ⟨hk, hw⟩ := hk
        cases hrow : q.rows[r]? with
        | none => simp [hrow] at hs
        | some row =>
          cases hc : ((cOpd y).get fr).cells with
          | none => simp [hrow, hc] at hs
          | some l =>
            simp only [hrow, hc] at hs
            split at hs
            · rename_i hcond
              obtain ⟨hl, hcm, hleaf, hclo⟩ := hcond
              simp only [Option.some.injEq, Prod.mk.injEq] at hs
              obtain ⟨rfl, rfl⟩ := hs
              obtain ⟨cells, e, h2, h3, h4, h4', h5⟩ := R.heap.phys hσ hb
              have hrl : row.length = k := by rw [← hk]; exact h4 row (List.mem_of_getElem? hrow)
              have hlt := (List.getElem?_eq_some_iff.1 hrow).1
              have hcl := cells_rel hy hc
              have hbd : r * k + c + l.length ≤ cells.size := by
                have : (r + 1) * k ≤ q.rows.length * k := Nat.mul_le_mul_right _ hlt
                rw [hk] at h3
                rw [Nat.add_mul] at this
                omega
              have hone : ∀ u ∈ (a.eval y).cells.toList, u.oneCell' = true := by
                intro u hu
                obtain ⟨j, hj⟩ := List.mem_iff_getElem?.1 hu
                have hjl : j < l.length := by rw [← hcl.1]; simpa using (List.getElem?_eq_some_iff.1 hj).1
                exact leaf_one (hcl.2 j u l[j] (by simpa using hj) (List.getElem?_eq_getElem hjl)) (List.all_eq_true.1 hleaf _ (List.getElem_mem hjl))
              have hsl : (a.eval y).cells.toList.length = l.length := by simpa using hcl.1
              have hst := run_storeCells_at (P := P) b (r * k + c) e (a.eval y).cells.toList 0 cells w h2 (by rw [hsl]; omega) hone
              simp only [Nat.add_zero] at hst
              have hcells' : ∀ j, (cells.toList.take (r * k + c) ++ (a.eval y).cells.toList ++ cells.toList.drop (r * k + c + (a.eval y).cells.toList.length)).toArray[j]? = if r * k + c ≤ j ∧ j < r * k + c + l.length then (a.eval y).cells[j - (r * k + c)]? else cells[j]? := by
                intro j
                rw [List.getElem?_toArray, List.getElem?_append, List.getElem?_append]
                simp only [List.length_append, List.length_take, hsl, Array.length_toList]
                by_cases g1 : j < r * k + c
                · rw [if_pos (by omega), if_pos (by omega), if_neg (by omega), List.getElem?_take, if_pos g1]; simp
                · by_cases g2 : j < r * k + c + l.length
                  · rw [if_pos (by omega), if_neg (by omega), if_pos (by omega)]
                    rw [show j - min (r * k + c) cells.size = j - (r * k + c) by omega]; simp
                  · rw [if_neg (by omega), if_neg (by omega), List.getElem?_drop]
                    rw [show r * k + c + l.length + (j - (min (r * k + c) cells.size + l.length)) = j by omega]; simp
              have hsz' : (cells.toList.take (r * k + c) ++ (a.eval y).cells.toList ++ cells.toList.drop (r * k + c + (a.eval y).cells.toList.length)).toArray.size = cells.size := by
                simp only [List.size_toArray, List.length_append, List.length_take, List.length_drop, hsl, Array.length_toList]; omega
              have hsp := splice_length row c l (by omega)
              have hR : ∀ r' ∈ (q.rows.set r (splice row c l)), r'.length = k := by
                intro z hz
                rcases List.mem_or_eq_of_mem_set hz with hz | rfl
                · rw [← hk]; exact h4 z hz
                · exact hsp.trans hrl
              have hC : ∀ (p q' : Nat) (z : List AV) (v : AV), (q.rows.set r (splice row c l))[p]? = some z → z[q']? = some v → ∃ u, (cells.toList.take (r * k + c) ++ (a.eval y).cells.toList ++ cells.toList.drop (r * k + c + (a.eval y).cells.toList.length)).toArray[p * k + q']? = some u ∧ Rel (live N β σ) w (q.nm β) u v := by
                intro p q' z v hp hq
                simp only [List.getElem?_set] at hp
                simp only [hcells']
                by_cases ep : r = p
                · subst ep
                  simp only [if_true, hlt] at hp
                  cases hp
                  rw [splice_get _ _ _ (by omega)] at hq
                  by_cases g : c ≤ q' ∧ q' < c + l.length
                  · rw [if_pos g] at hq
                    rw [if_pos (by omega)]
                    have hjl : q' - c < (a.eval y).cells.size := by rw [hcl.1]; omega
                    have hrel := hcl.2 (q' - c) (a.eval y).cells[q' - c] v (by simp [hjl]) hq
                    refine ⟨(a.eval y).cells[q' - c], ?_, ?_⟩
                    rotate_left
                    · unfold Blk.nm
                      split
                      · rename_i hcq
                        exact clo_rel hrel (List.all_eq_true.1 (hclo hcq) _ (List.mem_of_getElem? hq))
                      · exact hrel
                    rw [show r * k + q' - (r * k + c) = q' - c by omega]; simp [hjl]
                  · rw [if_neg g] at hq
                    rw [if_neg (by omega)]
                    rw [← hk]; exact h5 r q' row v hrow hq
                · rw [if_neg ep] at hp
                  have hzl : z.length = k := by rw [← hk]; exact h4 z (List.mem_of_getElem? hp)
                  have hq'l : q' < k := by rw [← hzl]; exact (List.getElem?_eq_some_iff.1 hq).1
                  rw [if_neg ?_]
                  · rw [← hk]; exact h5 p q' z v hp hq
                  · rintro ⟨g1, g2⟩
                    rcases Nat.lt_or_ge p r with hlt' | hge
                    · have : (p + 1) * k ≤ r * k := Nat.mul_le_mul_right _ hlt'
                      rw [Nat.add_mul] at this; omega
                    · have : (r + 1) * k ≤ p * k := Nat.mul_le_mul_right _ (by omega)
                      rw [Nat.add_mul] at this; omega
              obtain ⟨g1, g2⟩ := R.set hσ hw hb h2 _ hsz' ⟨k, q.rows.set r (splice row c l), true, q.cl⟩ (by rw [hsz']; simpa [← hk] using h3) hR (by simpa using h4') hC
              refine ⟨undef, _, β, .inr ⟨?_, rfl⟩, fun _ _ h => h, g1.free (fun _ h => h.1), ?_⟩
              · have hcs : (a.eval y).cells.size = inf.size := by rw [hcl.1, hl, hsz]
                simp [execOp, ho, hu, Instr.storeAt, Instr.sureAddr, storeVar, sizeOf, typeInfo, hinf, hcs, hst]
              · exact .tp #[] [] rfl (fun i u z h _ => by simp at h)
            · cases hs
      · cases hs
/-- rows in cells -/
def RowsC (M : Nat → Prop) (w : World) (β : Nat → Option Nat) (k : Nat) (cs : Array Value) (rows : List (List AV)) : Prop :=
  cs.size = rows.length * k ∧ (∀ r ∈ rows, r.length = k) ∧ ∀ (p q : Nat) (r : List AV) (z : AV), rows[p]? = some r → r[q]? = some z → ∃ u, cs[p * k + q]? = some u ∧ Rel M w β u z
theorem fillR_rel (R : SRel N w0 M0 β0 ds β fr σ F a w) (k : Nat) : ∀ (parts : List (Nat × Operand)) (cs : Array Value) (l l' : List (List AV)) (I I' : List Nat), fillR σ k (parts.map fun p => (p.1, (cOpd p.2).get fr)) l I = some (l', I') → (∀ i ∈ I, (σ i).isSome) →
    (∀ i ∈ I, i ∈ I') ∧ (∀ i ∈ I', (σ i).isSome) ∧ ∀ (M' : Nat → Prop), (∀ b, M' b → live N β σ b) → (∀ i ∈ I', ∀ b, β i = some b → ¬ M' b) → RowsC M' w nob k cs l →
    ∃ cs', Instr.fill (fun i => some (i * k, k)) cs (parts.map fun (i, x) => (i, a.eval x)) = some cs' ∧ RowsC M' w nob k cs' l' ∧ l'.length = l.length
  | [], cs, l, l', I, I', h3, hI => by
    simp only [List.map_nil, fillR, Option.some.injEq, Prod.mk.injEq] at h3
    obtain ⟨rfl, rfl⟩ := h3
    exact ⟨fun _ h => h, hI, fun M' _ _ h2 => ⟨cs, rfl, h2, rfl⟩⟩
  | (i, x) :: rest, cs, l, l', I, I', h3, hI => by
    simp only [List.map_cons] at h3
    unfold fillR at h3
    cases hb : brw σ 3 ((cOpd x).get fr) with
    | none => simp [hb] at h3
    | some cJ =>
      obtain ⟨c, J⟩ := cJ
      simp only [hb] at h3
      cases hc : c.cells with
      | none => simp [hc] at h3
      | some xs =>
        simp only [hc] at h3
        split at h3
        · rename_i hcond
          obtain ⟨e1, e2⟩ := hcond
          obtain ⟨q1, q2, q3⟩ := fillR_rel R k rest ((a.eval x).cells.zipIdx.foldl (fun cs (p : Value × Nat) => cs.setIfInBounds (i * k + p.2) p.1) cs) (l.set i xs) l' (J ++ I) I' h3
            (fun j hj => by rcases List.mem_append.1 hj with hj | hj; exact brw_some σ 3 _ _ _ hb j hj; exact hI j hj)
          refine ⟨fun j hj => q1 j (List.mem_append_right _ hj), q2, fun M' hM hI' h2 => ?_⟩
          have hv := cells_rel (brw_rel R.heap hM 3 _ _ _ _ hb (rel_get R x) (fun j hj => hI' j (q1 j (List.mem_append_left _ hj)))) hc
          have hsz : (a.eval x).cells.size = k := by rw [hv.1, e1]
          have hbd : i * k + k ≤ cs.size := by
            rw [h2.1]
            have : (i + 1) * k ≤ l.length * k := Nat.mul_le_mul_right _ e2
            rwa [Nat.add_mul, Nat.one_mul] at this
          have hf := fun j => fold_get (i * k) (a.eval x).cells.toList 0 cs j (by simp; omega)
          have e : (a.eval x).cells.zipIdx.foldl (fun cs (p : Value × Nat) => cs.setIfInBounds (i * k + p.2) p.1) cs = ((a.eval x).cells.toList.zipIdx 0).foldl (fun cs (p : Value × Nat) => cs.setIfInBounds (i * k + p.2) p.1) cs := by
            rw [← Array.foldl_toList, Array.toList_zipIdx]
          have h2' : RowsC M' w nob k ((a.eval x).cells.zipIdx.foldl (fun cs (p : Value × Nat) => cs.setIfInBounds (i * k + p.2) p.1) cs) (l.set i xs) := by
            rw [e]
            refine ⟨by rw [(hf 0).1, h2.1]; simp, fun r hr => ?_, fun p q r z hp hq => ?_⟩
            · rcases List.mem_or_eq_of_mem_set hr with hr | rfl
              · exact h2.2.1 r hr
              · exact e1
            · rw [(hf _).2]
              simp only [Nat.add_zero, Array.length_toList, hsz, Array.getElem?_toList]
              simp only [List.getElem?_set] at hp
              by_cases ep : i = p
              · subst ep
                simp only [if_true, e2] at hp
                cases hp
                have hql := (List.getElem?_eq_some_iff.1 hq).1
                rw [if_pos (by omega)]
                have hjl : q < (a.eval x).cells.size := by omega
                exact ⟨(a.eval x).cells[q], by rw [show i * k + q - i * k = q by omega]; simp [hjl], hv.2 q _ z (by simp [hjl]) hq⟩
              · rw [if_neg ep] at hp
                have hzl := h2.2.1 r (List.mem_of_getElem? hp)
                have hql := (List.getElem?_eq_some_iff.1 hq).1
                rw [if_neg ?_]
                · exact h2.2.2 p q r z hp hq
                · rintro ⟨g1, g2⟩
                  rcases Nat.lt_or_ge p i with hlt' | hge
                  · have : (p + 1) * k ≤ i * k := Nat.mul_le_mul_right _ hlt'
                    rw [Nat.add_mul] at this; omega
                  · have : (i + 1) * k ≤ p * k := Nat.mul_le_mul_right _ (by omega)
                    rw [Nat.add_mul] at this; omega
          obtain ⟨cs', e3, e4, e5⟩ := q3 M' hM hI' h2'
          refine ⟨cs', ?_, e4, by rw [e5]; simp⟩
          simp only [List.map_cons, Instr.fill, hsz, ne_eq, not_true_eq_false, decide_false, Bool.false_or]
          rw [if_neg (by simpa using hbd)]
          exact e3
        · cases h3
theorem good_bsl (R : SRel N w0 M0 β0 ds β fr σ F a w) {o : Oper} {t e : TypeId} {len k : Nat} {parts : Array (Nat × Operand)} {zs : List Value} {id : Nat} {v : AV} {wr : Wr} (hid : F id) (ho : o.op = .buildSlice t len parts) (ht : P.underlying t = some (.slice e)) (hk : szT P e = some k) (hz : zsT P e = some zs)
    (hk0 : 0 < k) (hzk : zs.length = k) (hsmall : len * k ≤ 16777216) (hs : hBsl σ id k zs len (parts.toList.map fun p => (p.1, (cOpd p.2).get fr)) = some (v, wr)) : Good P o N w0 M0 β0 ds β fr σ F id a w v wr := by
  unfold hBsl at hs
  unfold szT at hk
  obtain ⟨inf, hinf, hsz⟩ := Option.map_eq_some_iff.1 hk
  unfold zsT at hz
  obtain ⟨z, hz1, rfl⟩ := Option.map_eq_some_iff.1 hz
  obtain ⟨it, hit, hz2⟩ := Option.bind_eq_some_iff.1 hz1
  rw [hinf] at hit; cases hit
  cases hf : fillR σ k (parts.toList.map fun p => (p.1, (cOpd p.2).get fr)) (List.replicate len (z.cells.toList.map ofC)) [] with
  | none => simp [hf] at hs
  | some rI =>
    obtain ⟨rows, I⟩ := rI
    simp only [hf, Option.some.injEq, Prod.mk.injEq] at hs
    obtain ⟨rfl, rfl⟩ := hs
    have hzs : z.cells.size = k := by simpa using hzk
    obtain ⟨_, hIs, hfill⟩ := fillR_rel R k parts.toList ((Array.range (len * k)).map (z.cells[· % z.cells.size]!)) _ rows [] I hf (fun i h => by cases h)
    obtain ⟨hl1, hl2⟩ := frz_off R.heap hIs
    obtain ⟨R1, up1⟩ := R.less (frz_less σ I)
    have h0 : RowsC (live N β (applyW σ (frz σ I))) w nob k ((Array.range (len * k)).map (z.cells[· % z.cells.size]!)) (List.replicate len (z.cells.toList.map ofC)) := by
      refine ⟨by simp, fun r hr => by rw [List.eq_of_mem_replicate hr]; simpa using hzs, fun p q r u hp hq => ?_⟩
      rw [List.getElem?_replicate] at hp
      split at hp
      · rename_i hpl
        cases hp
        have hql : q < k := by have := (List.getElem?_eq_some_iff.1 hq).1; simpa [hzs] using this
        have hlt : p * k + q < len * k := by
          have : (p + 1) * k ≤ len * k := Nat.mul_le_mul_right _ hpl
          rw [Nat.add_mul] at this; omega
        have hmod : (p * k + q) % z.cells.size = q := by rw [hzs, Nat.mul_comm, Nat.mul_add_mod, Nat.mod_eq_of_lt hql]
        refine ⟨z.cells[q]'(by omega), by simp [hlt, hmod, getElem!_pos z.cells q (by omega)], ?_⟩
        simp [show q < z.cells.size by omega] at hq
        subst hq; exact rel_ofC _ _ _ _
      · cases hp
    obtain ⟨cs, e1, e2, e3⟩ := hfill _ hl1 hl2 h0
    have e3' : rows.length = len := by simpa using e3
    have hrun : (execOp a.eval o).run P w = .ok (.value (.slice (some ⟨w.heap.size, 0, none⟩) len len)) (w.alloc (.cells cs e)) := by
      have e1' : Instr.fill (fun i => some (i * inf.size, inf.size)) ((Array.range (len * inf.size)).map (z.cells[· % z.cells.size]!)) (parts.map fun (i, x) => (i, a.eval x)).toList = some cs := by rw [hsz]; simpa using e1
      by_cases hl0 : len = 0
      · subst hl0
        have hr0 : rows = [] := List.eq_nil_of_length_eq_zero e3'
        have hp0 : parts.toList = [] := by
          cases hp : parts.toList with
          | nil => rfl
          | cons x rest =>
            obtain ⟨i, x⟩ := x
            rw [hp] at hf
            simp only [List.map_cons, List.replicate_zero] at hf
            unfold fillR at hf
            split at hf
            · split at hf
              · simp at hf
              · cases hf
            · cases hf
        have hp0' : parts = #[] := by apply Array.ext'; simpa using hp0
        subst hp0'
        have hcs : cs = #[] := by
          have := e2.1; rw [hr0] at this; simpa using this
        subst hcs
        simp [execOp, ho, Instr.buildSlice, run_underlying ht, sizeOf, typeInfo, hinf, Instr.fill, newRow]
        congr 2
        exact Array.eq_empty_of_size_eq_zero (by simp)
      · have := run_buildSlice w t e len (parts.map fun (i, x) => (i, a.eval x)) cs inf z ht hinf hz2 (by rw [hsz]; omega) (by rw [hsz]; intro h; rcases Nat.mul_eq_zero.1 h with h | h <;> omega) e1'
        simp [execOp, ho, this]
    have hgood := Good.new (P := P) (o := o) (u := .slice (some ⟨w.heap.size, 0, none⟩) len len) (v := .ow id k 0 len) R1 hid (cells := cs) (e := e) (x := ⟨k, rows, true, true⟩) (by simp [e2.1]) e2.2.1 (by rw [e3']; have : len * 1 ≤ len * k := Nat.mul_le_mul_left _ hk0; omega) e2.2.2 hrun (by
      have := Rel.ow (β := upd β id (some w.heap.size)) (M := live N (upd β id (some w.heap.size)) (upd (applyW σ (frz σ I)) id (some (.c ⟨k, rows, true, true⟩)))) (w := w.alloc (.cells cs e)) id k 0 len len w.heap.size e cs.size (by simp) (Nat.le_refl _)
        (by unfold World.shape?; rw [heap_alloc_new w (.cells cs e)]) (by rw [e2.1, e3', Nat.zero_add]; exact Nat.le_refl _)
      simpa using this)
    obtain ⟨u, w', β', g1, g2, g3, g4⟩ := hgood
    refine ⟨u, w', β', g1, g2, ?_, ?_⟩
    · rw [applyW_append]; exact g3
    · rw [applyW_append]; exact g4
theorem src_of {k n : Nat} (hk : 0 < k) {tx e' : TypeId} (htx : P.underlying tx = some (.slice e')) {ad : Addr} {c : Nat} {f : Nat → Nat → Value} {rows : List (List AV)} (hn : rows.length = n) (hr : ∀ r ∈ rows, r.length = k)
    (hleaf : rows.all (fun r => r.all leafok) = true) (hcell : ∀ p q, p < n → q < k → w.cell? (ad.add (p * k + q)) = some (f p q))
    (hrel : ∀ (p q : Nat) (r : List AV) (z : AV), rows[p]? = some r → r[q]? = some z → Rel (live N β σ) w nob (f p q) z) :
    ∃ us : List Value, Src P k tx (.slice (some ad) n c) n us w ∧ ∀ (p q : Nat) (r : List AV) (z : AV), rows[p]? = some r → r[q]? = some z → ∃ u, us[p * k + q]? = some u ∧ Rel (live N β σ) w nob u z := by
  have hlt : ∀ p q, p < n → q < k → p * k + q < n * k := fun p q h1 h2 => by
    have : (p + 1) * k ≤ n * k := Nat.mul_le_mul_right _ h1
    rw [Nat.add_mul] at this; omega
  have hdm : ∀ p q, q < k → (p * k + q) / k = p ∧ (p * k + q) % k = q := fun p q h => by
    constructor
    · rw [Nat.mul_comm, Nat.mul_add_div hk, Nat.div_eq_of_lt h, Nat.add_zero]
    · rw [Nat.mul_comm, Nat.mul_add_mod, Nat.mod_eq_of_lt h]
  have hback : ∀ j, j < n * k → j / k < n ∧ j % k < k ∧ j / k * k + j % k = j := fun j h => by
    refine ⟨Nat.div_lt_of_lt_mul (by rwa [Nat.mul_comm]), Nat.mod_lt _ hk, ?_⟩
    rw [Nat.mul_comm]; exact Nat.div_add_mod j k
  refine ⟨(List.range (n * k)).map (fun j => f (j / k) (j % k)), Src.ofSlice w htx ad n c _ (by simp) ?_ ?_, ?_⟩
  · intro j u hu
    have hj : j < n * k := by
      have := (List.getElem?_eq_some_iff.1 hu).1; simpa using this
    rw [List.getElem?_map, List.getElem?_range hj] at hu
    cases hu
    obtain ⟨h1, h2, h3⟩ := hback j hj
    have := hcell _ _ h1 h2
    rwa [h3] at this
  · intro u hu
    obtain ⟨j, hj, rfl⟩ := List.mem_map.1 hu
    have hj' : j < n * k := by simpa using hj
    obtain ⟨h1, h2, h3⟩ := hback j hj'
    have hp : rows[j / k]? = some rows[j / k] := List.getElem?_eq_getElem (by omega)
    have hmem := List.getElem_mem (l := rows) (n := j / k) (by omega)
    have hl := hr _ hmem
    have hq : rows[j / k][j % k]? = some rows[j / k][j % k] := List.getElem?_eq_getElem (by omega)
    exact leaf_one (hrel _ _ _ _ hp hq) (List.all_eq_true.1 (List.all_eq_true.1 hleaf _ hmem) _ (List.getElem_mem _))
  · intro p q r z hp hq
    have hpl := (List.getElem?_eq_some_iff.1 hp).1
    have hql := (List.getElem?_eq_some_iff.1 hq).1
    rw [hr r (List.mem_of_getElem? hp)] at hql
    refine ⟨f p q, ?_, hrel p q r z hp hq⟩
    rw [List.getElem?_map, List.getElem?_range (hlt p q (by omega) hql), Option.map_some, (hdm p q hql).1, (hdm p q hql).2]
theorem rel_ow {β : Nat → Option Nat} {M : Nat → Prop} {v : Value} {x : AV} (h : Rel M w β v x) {id k off len : Nat} (e : x = .ow id k off len) : (off = 0 ∧ len = 0 ∧ ∃ A, v = .slice A 0 0) ∨ ∃ cap b e n, v = .slice (some ⟨b, off * k, none⟩) len cap ∧ β id = some b ∧ len ≤ cap ∧ w.shape? b = some (e, n) ∧ (off + cap) * k ≤ n := by
  cases h with
  | ow id' k' off' len' cap b ee n hb hl hs hn => cases e; exact .inr ⟨cap, b, ee, n, rfl, hb, hl, hs, hn⟩
  | ow0 A => cases e; exact .inl ⟨rfl, rfl, A, rfl⟩
  | _ => cases e
theorem src_nil {k : Nat} {tx e' : TypeId} (htx : P.underlying tx = some (.slice e')) (A : Option Addr) (c : Nat) : ∃ us : List Value, Src P k tx (.slice A 0 c) 0 us w ∧ us = [] := by
  cases A with
  | none => exact ⟨[], Src.ofNil w htx _, rfl⟩
  | some ad => exact ⟨[], Src.ofSlice w htx ad 0 c [] (by simp) (fun j u h => by simp at h) (fun u h => by cases h), rfl⟩
theorem rows_src (R : SRel N w0 M0 β0 ds β fr σ F a w) (y : Operand) {k : Nat} (hk : 0 < k) {news : List (List AV)} (hy : rowsOf σ k ((cOpd y).get fr) = some news) (hleaf : news.all (fun r => r.all leafok) = true) {tx e' : TypeId} (htx : P.underlying tx = some (.slice e')) :
    ∃ us : List Value, Src P k tx (a.eval y) news.length us w ∧ (∀ r ∈ news, r.length = k) ∧ ∀ (p q : Nat) (r : List AV) (z : AV), news[p]? = some r → r[q]? = some z → ∃ u, us[p * k + q]? = some u ∧ Rel (live N β σ) w nob u z := by
  have h := rel_get R y
  generalize (cOpd y).get fr = Y at h hy
  generalize hu : a.eval y = u at h
  unfold rowsOf at hy
  split at hy
  · cases hy
    cases h with
    | em A =>
      obtain ⟨us, h1, rfl⟩ := src_nil (P := P) (w := w) (k := k) htx A 0
      exact ⟨[], h1, (fun r h => by cases h), fun p q r z hp => by simp at hp⟩
  · rename_i rows
    split at hy
    · rename_i hall
      cases hy
      have hr0 := all_len hall
      cases h with
      | tr A c k' rows us hk0 hc hB hr hA hcell hrel =>
      by_cases hne : news = []
      · subst hne
        obtain ⟨us, h1, rfl⟩ := src_nil (P := P) (w := w) (k := k) htx A c
        exact ⟨[], h1, hr0, fun p q r z hp => by simp at hp⟩
      · obtain ⟨ad, rfl, hm⟩ := hA hne
        have hkk : k' = k := by
          cases news with
          | nil => exact absurd rfl hne
          | cons r0 news => rw [← hr r0 (by simp)]; exact hr0 r0 (by simp)
        subst hkk
        obtain ⟨us', h1, h2⟩ := src_of (P := P) hk htx (c := c) rfl hr hleaf (fun p q hp hq => hcell ad p q rfl hp hq) hrel
        exact ⟨us', h1, hr, h2⟩
    · cases hy
  · rename_i i k' off len
    split at hy
    · rename_i e; subst e
      split at hy
      · rename_i x hσ
        split at hy
        · rename_i hcond
          obtain ⟨e1, ecl, e2⟩ := hcond
          cases hy
          rcases rel_ow h rfl with ⟨rfl, rfl, A, rfl⟩ | ⟨cap, b, e, n, rfl, hb, hl, hs, hn⟩
          · obtain ⟨us, h1, rfl⟩ := src_nil (P := P) (w := w) (k := k') htx A 0
            have hl0 : ((x.rows.drop 0).take 0).length = 0 := by simp
            exact ⟨[], by simpa using h1, (fun r h => by simp at h), fun p q r z hp => by simp at hp⟩
          · obtain ⟨cells, e3, h2, h3, h4, h4', h5⟩ := R.heap.phys hσ hb
            have hlen : ((x.rows.drop off).take len).length = len := by simp; omega
            have hrows : ∀ r ∈ (x.rows.drop off).take len, r.length = k' := fun r hr => by rw [← e1]; exact h4 r (List.mem_of_mem_drop (List.mem_of_mem_take hr))
            have hget : ∀ (p : Nat) (r : List AV), ((x.rows.drop off).take len)[p]? = some r → x.rows[off + p]? = some r := fun p r hp => by
              rw [List.getElem?_take] at hp
              split at hp
              · rwa [List.getElem?_drop] at hp
              · cases hp
            have hC1 : ∀ p q, p < len → q < k' → w.cell? ((⟨b, off * k', none⟩ : Addr).add (p * k' + q)) = some ((fun p q => cells.getD ((off + p) * k' + q) undef) p q) := by
              intro p q hp hq
              have hp' : x.rows[off + p]? = some x.rows[off + p] := List.getElem?_eq_getElem (by omega)
              have hl' : x.rows[off + p].length = k' := by rw [← e1]; exact h4 _ (List.getElem_mem _)
              obtain ⟨u, hu, _⟩ := h5 (off + p) q _ (x.rows[off + p][q]'(by omega)) hp' (List.getElem?_eq_getElem (by omega))
              rw [e1] at hu
              rw [add_none, show off * k' + (p * k' + q) = (off + p) * k' + q by rw [Nat.add_mul]; omega, blk_cell h2 hu]
              simp [Array.getD_eq_getD_getElem?, hu]
            have hC2 : ∀ (p q : Nat) (r : List AV) (z : AV), ((x.rows.drop off).take len)[p]? = some r → r[q]? = some z → Rel (live N β σ) w nob ((fun p q => cells.getD ((off + p) * k' + q) undef) p q) z := by
              intro p q r z hp hq
              obtain ⟨u, hu, hr⟩ := h5 (off + p) q r z (hget p r hp) hq
              rw [e1] at hu
              have hr' : Rel (live N β σ) w nob u z := by unfold Blk.nm at hr; rw [if_pos ecl] at hr; exact hr
              simpa [Array.getD_eq_getD_getElem?, hu] using hr'
            obtain ⟨us', g1, g2⟩ := src_of (P := P) (β := β) (σ := σ) (w := w) (ad := ⟨b, off * k', none⟩) (c := cap) (f := fun p q => cells.getD ((off + p) * k' + q) undef) hk htx hlen hrows hleaf hC1 hC2
            rw [hlen]
            exact ⟨us', g1, hrows, g2⟩
        · cases hy
      · cases hy
    · cases hy
  · cases hy
theorem slice_of_rows {M : Nat → Prop} {β : Nat → Option Nat} {σ : Hp} {k : Nat} {u : Value} {Y : AV} {rows : List (List AV)} (h : Rel M w β u Y) (hy : rowsOf σ k Y = some rows) : ∃ A c, u = .slice A rows.length c := by
  unfold rowsOf at hy
  split at hy
  · cases hy
    cases h with
    | em A => exact ⟨A, 0, rfl⟩
  · rename_i rows'
    split at hy
    · cases hy
      cases h with
      | tr A c k' rows us hk0 hc hB hr hA hcell hrel => exact ⟨A, c, rfl⟩
    · cases hy
  · rename_i i k' off len
    split at hy
    · split at hy
      · rename_i x hσ
        split at hy
        · rename_i hcond
          cases hy
          rcases rel_ow h rfl with ⟨rfl, rfl, A, rfl⟩ | ⟨cap, b, e, n, rfl, hb, hl, hs, hn⟩
          · exact ⟨A, 0, by simp⟩
          · refine ⟨some ⟨b, off * k', none⟩, cap, ?_⟩
            have hlen : ((x.rows.drop off).take len).length = len := by simp; omega
            rw [hlen]
        · cases hy
      · cases hy
    · cases hy
  · cases hy
theorem bytesOf_at : ∀ {rows : List (List AV)} {ns : List Int}, bytesOf rows = some ns → rows = ns.map fun n => [.sc (.int .u8 n)]
  | [], ns, h => by cases h; rfl
  | r :: rs, ns, h => by
    simp only [bytesOf] at h
    split at h
    · obtain ⟨ms, h1, rfl⟩ := Option.map_eq_some_iff.1 h
      rw [bytesOf_at h1]; rfl
    · cases h
theorem push_bytes : ∀ (ns : List Int) (s : ByteArray), (ns.foldl (fun r n => r.push (UInt8.ofNat n.toNat)) s).data.toList = s.data.toList ++ ns.map fun n => UInt8.ofNat n.toNat
  | [], s => by simp
  | n :: ns, s => by
    rw [List.foldl_cons, push_bytes ns]
    simp [ByteArray.push]
theorem good_cvb (R : SRel N w0 M0 β0 ds β fr σ F a w) {o : Oper} {x : Operand} {s d e : TypeId} {v : AV} (ho : o.op = .convert s d x) (h1 : P.underlying s = some (.slice e)) (he : P.underlying e = some (.int .u8)) (h2 : P.underlying d = some .string)
    (hs : aCvb σ ((cOpd x).get fr) = some v) : GoodR P o N β σ a w v := by
  unfold aCvb at hs
  split at hs
  · rename_i rows hrows
    split at hs
    · rename_i hlen
      obtain ⟨ns, hns, rfl⟩ := Option.map_eq_some_iff.1 hs
      have hrw := bytesOf_at hns
      subst hrw
      obtain ⟨us, hsrc, hnr, hnc⟩ := rows_src (P := P) R x (by omega : 0 < 1) hrows (by simp [leafok]) h1
      obtain ⟨A, c, hu⟩ := slice_of_rows (rel_get R x) hrows
      simp only [List.length_map] at hu hsrc hlen
      have hus : us = ns.map (Value.int .u8) := by
        refine List.ext_getElem? fun i => ?_
        by_cases hi : i < ns.length
        · obtain ⟨u, g1, g2⟩ := hnc i 0 [.sc (.int .u8 ns[i])] (.sc (.int .u8 ns[i])) (by simp [hi]) rfl
          rw [Nat.mul_one, Nat.add_zero] at g1
          cases g2
          rw [g1]; simp [hi]
        · rw [List.getElem?_eq_none (by rw [hsrc.newsLen]; omega), List.getElem?_eq_none (by simp; omega)]
      subst hus
      have hrun : (execOp a.eval o).run P w = .ok (.value (.string (ns.foldl (fun r n => r.push (UInt8.ofNat n.toNat)) ByteArray.empty))) w := by
        have hc := hsrc.cells
        rw [hu] at hc
        have hconv : (convert s d (.slice A ns.length c)).run P w = .ok (.string (ns.foldl (fun r n => r.push (UInt8.ofNat n.toNat)) ByteArray.empty)) w := by
          rw [run_convert_bytes_string w s d e A ns.length c h1 he h2]
          cases A with
          | none =>
            simp only [Builtin.firstCells, Sem.run_pure] at hc
            injection hc with hc _
            have hn : ns = [] := by
              have : (ns.map (Value.int .u8)).length = 0 := by
                have := congrArg Array.size hc
                simpa using this.symm
              simpa using this
            subst hn
            rfl
          | some ad =>
            simp only [Builtin.firstCells, Nat.mul_one] at hc
            exact run_bytesToString w ad ns.length c ns hc
        simp [execOp, ho, hu, hconv]
      refine ⟨_, hrun, .s _ _ ?_ (by simpa using hlen)⟩
      rw [push_bytes]; simp
    · cases hs
  · cases hs
theorem drew_world (R : SRel N w0 M0 β0 ds β fr σ F a w) : SRel N w0 M0 β0 ds β fr σ F a w.drew := R.world rfl rfl rfl (Nat.le_refl _) (fun _ _ => rfl)
theorem rel_drew {M : Nat → Prop} {v : Value} {z : AV} (h : Rel M w β v z) : Rel M w.drew β v z := Rel.step (w := w) (w' := w.drew) (fun _ _ h => h) (fun _ _ h => h) (fun _ _ h _ => h) (fun _ _ h => h) h
/-- the cells of rows that stand behind others -/
theorem rows_append {M : Nat → Prop} {k : Nat} {old news : List (List AV)} {us us' : List Value} {tail : Array Value} (hl : us.length = old.length * k)
    (h1 : ∀ (p q : Nat) (r : List AV) (z : AV), old[p]? = some r → r[q]? = some z → ∃ u, us[p * k + q]? = some u ∧ Rel M w β u z) (_hrow : ∀ r ∈ old, r.length = k)
    (h2 : ∀ (p q : Nat) (r : List AV) (z : AV), news[p]? = some r → r[q]? = some z → ∃ u, us'[p * k + q]? = some u ∧ Rel M w β u z) :
    ∀ (p q : Nat) (r : List AV) (z : AV), (old ++ news)[p]? = some r → r[q]? = some z → ∃ u, ((us ++ us').toArray ++ tail)[p * k + q]? = some u ∧ Rel M w β u z := by
  intro p q r z hp hq
  have key : ∃ u, (us ++ us')[p * k + q]? = some u ∧ Rel M w β u z := by
    rw [List.getElem?_append] at hp
    split at hp
    · rename_i hpl
      obtain ⟨u, hu, hr⟩ := h1 p q r z hp hq
      have hlt := (List.getElem?_eq_some_iff.1 hu).1
      exact ⟨u, by rw [List.getElem?_append_left hlt]; exact hu, hr⟩
    · rename_i hpl
      obtain ⟨u, hu, hr⟩ := h2 _ q r z hp hq
      refine ⟨u, ?_, hr⟩
      have : old.length * k ≤ p * k := Nat.mul_le_mul_right _ (by omega)
      rw [List.getElem?_append_right (by omega), hl, show p * k + q - old.length * k = (p - old.length) * k + q by rw [Nat.sub_mul]; omega]
      exact hu
  obtain ⟨u, hu, hr⟩ := key
  have hlt := (List.getElem?_eq_some_iff.1 hu).1
  exact ⟨u, by rw [Array.getElem?_append_left (by simpa using hlt)]; simpa using hu, hr⟩
theorem grown_ge (w : World) (n c : Nat) (e : TypeId) : n ≤ grownCap w n c e := by
  unfold grownCap
  simp only [Question.cut]
  omega
/-- a new block is made, behind a draw or not -/
theorem Good.new' {o : Oper} {id : Nat} {v : AV} {u : Value} {w1 : World} (R : SRel N w0 M0 β0 ds β fr σ F a w1) (hid : F id) {cells : Array Value} {e : TypeId} {x : Blk} (hn : x.rows.length * x.k ≤ cells.size) (hr : ∀ r ∈ x.rows, r.length = x.k) (hB : x.rows.length ≤ 4611686018427387904)
    (hc : ∀ (p q : Nat) (r : List AV) (a : AV), x.rows[p]? = some r → r[q]? = some a → ∃ u, cells[p * x.k + q]? = some u ∧ Rel (live N β σ) w1 (x.nm β) u a)
    (hrun : (execOp a.eval o).run P w = .ok (.value u) (w1.alloc (.cells cells e)))
    (hv : Rel (live N (upd β id (some w1.heap.size)) (upd σ id (some (.c x)))) (w1.alloc (.cells cells e)) (upd β id (some w1.heap.size)) u v) : Good P o N w0 M0 β0 ds β fr σ F id a w v [(id, some (.c x))] := by
  obtain ⟨h1, h2⟩ := R.new id hid cells e x hn hr hB hc
  have hβ0 := (R.heap.dom id hid).1
  exact ⟨u, _, _, .inl hrun, fun i b hb => by rw [upd_ne _ _ (fun e => by subst e; rw [hβ0] at hb; cases hb)]; exact hb, h1, hv⟩
/-- a block gets another name -/
theorem SRel.move (h : SRel N w0 M0 β0 ds β fr σ F a w) {i id : Nat} {x : Ob} {b : Nat} (hx : σ i = some x) (hb : β i = some b) (hid : F id) (hne : i ≠ id) :
    SRel N w0 M0 β0 ds (upd β id (some b)) fr (upd (upd σ i none) id (some x)) (fun j => F j ∧ j ≠ id) a w ∧ (∀ {v z}, Rel (live N β σ) w β v z → Rel (live N (upd β id (some b)) (upd (upd σ i none) id (some x))) w (upd β id (some b)) v z) := by
  obtain ⟨hβ0, hσ0⟩ := h.heap.dom id hid
  have hl0 : ∀ g, own (upd β id (some b)) (upd (upd σ i none) id (some x)) g → own β σ g := by
    rintro g ⟨j, y, h1, h2, h3⟩
    by_cases ej : j = id
    · subst ej
      rw [upd_same] at h1 h3; cases h1; cases h3
      exact ⟨i, x, hx, h2, hb⟩
    · rw [upd_ne _ _ ej] at h1 h3
      by_cases ei : j = i
      · subst ei; simp at h1
      · rw [upd_ne _ _ ei] at h1; exact ⟨j, y, h1, h2, h3⟩
  have hl : ∀ g, g < w.heap.size → live N (upd β id (some b)) (upd (upd σ i none) id (some x)) g → live N β σ g := fun g _ h => h.imp (fun h => h) (hl0 g)
  have k1 : ∀ j g, β j = some g → upd β id (some b) j = some g := fun j g hj => by rw [upd_ne _ _ (fun e => by subst e; rw [hβ0] at hj; cases hj)]; exact hj
  have up : ∀ {v z}, Rel (live N β σ) w β v z → Rel (live N (upd β id (some b)) (upd (upd σ i none) id (some x))) w (upd β id (some b)) v z :=
    Rel.step k1 hl (fun _ _ h _ => h) (fun _ _ h => h)
  refine ⟨⟨⟨?_, ?_, ?_, ?_, ?_⟩, fun t => up (h.regs t), h.frame, fun g hg => h.old g (hl0 g hg), h.away, h.defers, fun i b hb => k1 i b (h.ext i b hb)⟩, up⟩
  · rintro j ⟨hj, hn⟩
    have hni : j ≠ i := fun e => by subst e; rw [(h.heap.dom j hj).2] at hx; cases hx
    rw [upd_ne _ _ hn, upd_ne _ _ hn, upd_ne _ _ hni]; exact h.heap.dom j hj
  · intro j y g hy hg
    by_cases ej : j = id
    · subst ej
      rw [upd_same] at hg; cases hg
      exact h.heap.off i x b hx hb
    · rw [upd_ne _ _ ej] at hy hg
      by_cases ei : j = i
      · subst ei; simp at hy
      · rw [upd_ne _ _ ei] at hy; exact h.heap.off j y g hy hg
  · have key : ∀ j g, upd β id (some b) j = some g → ((upd (upd σ i none) id (some x)) j).isSome → ∃ j', β j' = some g ∧ (σ j').isSome ∧ (j = id ↔ j' = i) ∧ (j ≠ id → j' = j) := by
      intro j g h1 h2
      by_cases ej : j = id
      · subst ej
        rw [upd_same] at h1; cases h1
        exact ⟨i, hb, by simp [hx], by simp, fun h => absurd rfl h⟩
      · rw [upd_ne _ _ ej] at h1 h2
        by_cases ei : j = i
        · subst ei; simp at h2
        · rw [upd_ne _ _ ei] at h2
          exact ⟨j, h1, h2, by simp [ej, ei], fun _ => rfl⟩
    intro j1 j2 g h1 h2 s1 s2
    obtain ⟨p1, a1, a2, a3, a4⟩ := key j1 g h1 s1
    obtain ⟨p2, b1, b2, b3, b4⟩ := key j2 g h2 s2
    have := h.heap.inj p1 p2 g a1 b1 a2 b2
    subst this
    by_cases e1 : j1 = id
    · rw [e1]; exact (b3.2 (a3.1 e1)).symm
    · by_cases e2 : j2 = id
      · exact absurd (a3.2 (b3.1 e2)) e1
      · rw [← a4 e1, ← b4 e2]
  · intro j y hy
    by_cases ej : j = id
    · subst ej
      rw [upd_same] at hy; cases hy
      obtain ⟨cells, e, h2⟩ := h.heap.phys hx hb
      exact .inr ⟨b, cells, e, by simp, h2.step k1 hl (fun _ _ h _ => h) (fun _ _ h => h) rfl⟩
    · rw [upd_ne _ _ ej] at hy
      by_cases ei : j = i
      · subst ei; simp at hy
      · rw [upd_ne _ _ ei] at hy
        rcases h.heap.blk j y hy with h0 | ⟨b', cells, e, h1, h2⟩
        · exact .inl (by rw [upd_ne _ _ ej]; exact h0)
        · exact .inr ⟨b', cells, e, by rw [upd_ne _ _ ej]; exact h1, h2.step k1 hl (fun _ _ h _ => h) (fun _ _ h => h) rfl⟩
  · intro j es wr hy
    by_cases ej : j = id
    · subst ej
      rw [upd_same] at hy; cases hy
      obtain ⟨b', ms, cl, h1, h2⟩ := h.heap.map i es wr hx
      rw [hb] at h1; cases h1
      exact ⟨b, ms, cl, by simp, h2.step hl (fun _ _ h _ => h) (fun _ _ h => h) rfl⟩
    · rw [upd_ne _ _ ej] at hy
      by_cases ei : j = i
      · subst ei; simp at hy
      · rw [upd_ne _ _ ei] at hy
        obtain ⟨b', ms, cl, h1, h2⟩ := h.heap.map j es wr hy
        exact ⟨b', ms, cl, by rw [upd_ne _ _ ej]; exact h1, h2.step hl (fun _ _ h _ => h) (fun _ _ h => h) rfl⟩
theorem nm_true (k : Nat) (rows : List (List AV)) (wr : Bool) (β : Nat → Option Nat) : Blk.nm ⟨k, rows, wr, true⟩ β = nob := rfl
theorem good_app (R : SRel N w0 M0 β0 ds β fr σ F a w) {o : Oper} {c : Call} {x y : Operand} {e e' : TypeId} {i : TypeInfo} {id : Nat} {v : AV} {wr : Wr} (hid : F id) (ho : o.op = .call c) (hc : c.callee = .builtin .append) (ha : c.args.toList = [x, y])
    (ht : (c.argTypes[0]?).bind P.underlying = some (.slice e)) (ht' : (c.argTypes[1]?).bind P.underlying = some (.slice e')) (hi : P.info? e = some i) (hk : 0 < i.size) (hb0 : 0 < i.bytes) (hz0 : i.zero.map (·.cells.size) = some i.size)
    (hs : hApp σ id i.size i.bytes ((cOpd x).get fr) ((cOpd y).get fr) = some (v, wr)) : Good P o N w0 M0 β0 ds β fr σ F id a w v wr := by
  obtain ⟨t1, ht1, ht2⟩ := Option.bind_eq_some_iff.1 ht
  obtain ⟨t3, ht3, ht4⟩ := Option.bind_eq_some_iff.1 ht'
  obtain ⟨z, hz, hzs⟩ := Option.map_eq_some_iff.1 hz0
  have ha' : c.args = #[x, y] := by apply Array.ext'; simpa using ha
  have hats : ∀ (s v : Value) (ats : Array TypeId), ats[0]? = some t1 → ats[1]? = some t3 → Builtin.append_ ats o.type #[s, v] = Builtin.append_ #[t1, t3] o.type #[s, v] := by
    intro s v ats h1 h2
    unfold Builtin.append_
    simp [h1, h2]
  have hrun0 : ∀ s u W, a.eval x = s → (Builtin.append_ #[t1, t3] o.type #[s, a.eval y]).run P w = .ok u W → (execOp a.eval o).run P w = .ok (.value u) W := by
    intro s u W hsx hr
    rw [← hats _ _ _ ht1 ht3, ← hsx] at hr
    simp [execOp, ho, resolve, hc, ha', invoke, Go.builtin, hr]
  have h := rel_get R x
  unfold hApp at hs
  cases hrows : rowsOf σ i.size ((cOpd y).get fr) with
  | none => simp [hrows] at hs
  | some news =>
    simp only [hrows] at hs
    split at hs
    · rename_i hleaf
      obtain ⟨us, hsrc, hnr, hnc⟩ := rows_src R y hk hrows hleaf ht4
      have husl : us.length = news.length * i.size := hsrc.newsLen
      have hfresh : ∀ (A : Option Addr) (σ1 : Hp) (hσ1 : ∀ j x, σ1 j = some x → ∃ y, σ j = some y ∧ Ob.le x y) (hid1 : σ1 id = none), a.eval x = .slice A 0 0 → news ≠ [] → news.length * i.bytes ≤ 140737488355328 →
          ∃ u w' β', (execOp a.eval o).run P w = .ok (.value u) w' ∧ (∀ i b, β i = some b → β' i = some b) ∧ SRel N w0 M0 β0 ds β' fr (upd σ1 id (some (.c ⟨i.size, news, true, true⟩))) (fun j => F j ∧ j ≠ id) a w' ∧
            Rel (live N β' (upd σ1 id (some (.c ⟨i.size, news, true, true⟩)))) w' β' u (.ow id i.size 0 news.length) := by
        intro A σ1 hσ1 hid1 ex hne hfit
        have hold : (Builtin.firstCells i.size 0 (.slice A 0 0)).run P w.drew = .ok ([] : List Value).toArray w.drew := by
          cases A with
          | none => exact run_firstCells_none w.drew i.size 0 0 0
          | some ad => exact run_firstCells_some w.drew i.size 0 ad 0 0 [] (by simp) (fun j u h => by simp at h)
        have hpos : 0 < news.length := List.length_pos_iff.2 hne
        have hlen0 : ((0 + news.length : Nat) : Int) ≤ 9223372036854775807 := by
          have : news.length * 1 ≤ news.length * i.bytes := Nat.mul_le_mul_left _ hb0
          omega
        have hg := run_append_grow_src (P := P) w t1 t3 o.type e i z ht2 hi hz A 0 0 [] hold (a.eval y) _ us hsrc (by omega) hlen0
          (by rw [nextslicecap_zero (by omega)]; simp only [Nat.zero_add]; omega)
        simp only [Nat.zero_add, List.nil_append] at hg
        obtain ⟨R1, up1⟩ := (drew_world R).less hσ1
        have hge := grown_ge w news.length 0 e
        have hnew := Good.new' (P := P) (o := o) (w := w) (v := .ow id i.size 0 news.length) (w1 := w.drew) R1 hid (cells := us.toArray ++ Builtin.zeroCells z.cells (grownCap w news.length 0 e - news.length)) (e := e) (x := ⟨i.size, news, true, true⟩) (by simp only [Array.size_append, List.size_toArray, husl]; omega) hnr
          (by have : news.length * 1 ≤ news.length * i.bytes := Nat.mul_le_mul_left _ hb0
              show news.length ≤ _; omega) (by
            have := rows_append (β := nob) (M := live N β σ1) (w := w.drew) (k := i.size) (old := []) (us := []) (us' := us) (tail := Builtin.zeroCells z.cells (grownCap w news.length 0 e - news.length)) (news := news) (by simp) (fun p q r z h => by simp at h) (fun r h => by cases h)
              (fun p q r z' hp hq => by obtain ⟨u, hu, hr⟩ := hnc p q r z' hp hq; exact ⟨u, hu, up1 (rel_drew hr)⟩)
            simpa [nm_true] using this) (u := .slice (some ⟨w.heap.size, 0, none⟩) news.length (grownCap w news.length 0 e)) (hrun0 _ _ _ ex hg) (by
            have := Rel.ow (β := upd β id (some w.heap.size)) (M := live N (upd β id (some w.heap.size)) (upd σ1 id (some (.c ⟨i.size, news, true, true⟩)))) (w := w.drew.alloc (.cells (us.toArray ++ Builtin.zeroCells z.cells (grownCap w news.length 0 e - news.length)) e)) id i.size 0 news.length (grownCap w news.length 0 e) w.heap.size e _ (by simp) hge
              (by unfold World.shape?; rw [show w.heap.size = w.drew.heap.size from rfl, heap_alloc_new w.drew _]) (by
                simp only [Array.size_append, List.size_toArray, husl, Nat.zero_add, Builtin.zeroCells, Array.size_map, Array.size_range]
                rw [← hzs, ← Nat.add_mul, Nat.add_sub_cancel' hge]; exact Nat.le_refl _)
            simpa using this)
        obtain ⟨u, w', β', g1, g2, g3, g4⟩ := hnew
        rcases g1 with g1 | ⟨g1, _⟩
        · exact ⟨u, w', β', g1, g2, g3, g4⟩
        · rw [hrun0 _ _ _ ex hg] at g1; cases g1
      have hnone : ∀ A, a.eval x = .slice A 0 0 → news = [] → (execOp a.eval o).run P w = .ok (.value (.slice A 0 0)) w := by
        intro A ex hn
        subst hn
        have hus : us = [] := List.eq_nil_of_length_eq_zero (by simpa using husl)
        subst hus
        refine hrun0 _ _ _ ex ?_
        have hl := hsrc.len w
        have hcells := hsrc.cells
        simp only [List.length_nil] at hl hcells
        cases A with
        | none => simp [Builtin.append_, run_underlying ht2, run_underlying ht4, sizeOf, typeInfo, hi, hl, hcells]
        | some ad => simp [Builtin.append_, run_underlying ht2, run_underlying ht4, sizeOf, typeInfo, hi, hl, hcells, storeCells, Addr.add]; try rfl
      generalize (cOpd x).get fr = X at h hs
      split at hs
      · generalize hu : a.eval x = u at h
        cases h with
        | em A =>
        split at hs
        · rename_i hfit
          split at hs
          · simp only [Option.some.injEq, Prod.mk.injEq] at hs
            obtain ⟨rfl, rfl⟩ := hs
            exact .pure R (hnone A hu rfl) (.em _)
          · rename_i r0 rest
            simp only [Option.some.injEq, Prod.mk.injEq] at hs
            obtain ⟨rfl, rfl⟩ := hs
            obtain ⟨u, w', β', g1, g2, g3, g4⟩ := hfresh A σ (fun j x h => ⟨x, h, .refl x⟩) (R.heap.dom id hid).2 hu (by simp) hfit
            exact ⟨u, w', β', .inl g1, g2, g3, g4⟩
        · cases hs
      · rename_i id0 k' len
        cases hσ : σ id0 with
        | none => simp [hσ] at hs
        | some b00 =>
        cases b00 with
        | m es wr => simp [hσ] at hs
        | c b0 =>
          simp only [hσ] at hs
          split at hs
          · rename_i hcond
            obtain ⟨rfl, hbk, hbw, hbcl, hbl, hfit, hne⟩ := hcond
            simp only [Option.some.injEq, Prod.mk.injEq] at hs
            obtain ⟨rfl, rfl⟩ := hs
            generalize hu : a.eval x = u at h
            have hσ1 : ∀ j x, (upd σ id0 none) j = some x → ∃ y, σ j = some y ∧ Ob.le x y := by
              intro j x hj
              by_cases ej : j = id0
              · subst ej; simp at hj
              · rw [upd_ne _ _ ej] at hj; exact ⟨x, hj, .refl x⟩
            rcases rel_ow h rfl with ⟨_, rfl, A, rfl⟩ | ⟨cap, b, ee, nn, rfl, hb, hl, hsh, hnn⟩
            · have hb0n : b0.rows = [] := List.eq_nil_of_length_eq_zero hbl
              by_cases hnn : news = []
              · have hrun := hnone A hu hnn
                subst hnn
                obtain ⟨R1, up1⟩ := R.less hσ1
                obtain ⟨R2, up2⟩ := (R1.free (F' := F) (fun _ h => h)).imagine id hid i.size true
                exact ⟨_, w, β, .inl hrun, fun _ _ h => h, by simpa [applyW, hb0n] using R2, .ow0 _ _ _⟩
              · obtain ⟨u, w', β', g1, g2, g3, g4⟩ := hfresh A (upd σ id0 none) hσ1 (by rw [upd_ne _ _ (Ne.symm hne)]; exact (R.heap.dom id hid).2) hu hnn (by simpa using hfit)
                exact ⟨u, w', β', .inl g1, g2, by simpa [applyW, hb0n] using g3, by simpa [applyW, hb0n] using g4⟩
            obtain ⟨cells, e3, h2, h3, h4, h4', h5⟩ := R.heap.phys hσ hb
            have hnn' : cells.size = nn := by simp only [World.shape?, h2, Option.some.injEq, Prod.mk.injEq] at hsh; exact hsh.2
            subst hnn'
            simp only [Nat.zero_add] at hnn
            have hold : ∀ r ∈ b0.rows, r.length = i.size := fun r hr => by rw [← hbk]; exact h4 r hr
            rw [hbk] at h5 h3
            have enm : b0.nm β = nob := by unfold Blk.nm; rw [if_pos hbcl]; rfl
            rw [enm] at h5
            rw [hbl] at h3
            simp only [Nat.zero_mul] at hu
            by_cases hroom : len + news.length ≤ cap
            · have hbd : len * i.size + us.length ≤ cells.size := by
                rw [husl, ← Nat.add_mul]; exact Nat.le_trans (Nat.mul_le_mul_right _ hroom) hnn
              have hst := run_storeCells_at (P := P) b (len * i.size) e3 us 0 cells w h2 (by omega) hsrc.one
              simp only [Nat.add_zero] at hst
              have hsz' : (cells.toList.take (len * i.size) ++ us ++ cells.toList.drop (len * i.size + us.length)).toArray.size = cells.size := by
                simp only [List.size_toArray, List.length_append, List.length_take, List.length_drop, Array.length_toList]; omega
              have hC : ∀ (p q : Nat) (r : List AV) (v : AV), (b0.rows ++ news)[p]? = some r → r[q]? = some v → ∃ u, (cells.toList.take (len * i.size) ++ us ++ cells.toList.drop (len * i.size + us.length)).toArray[p * i.size + q]? = some u ∧ Rel (live N β σ) w nob u v := by
                have := rows_append (β := nob) (M := live N β σ) (w := w) (k := i.size) (old := b0.rows) (us := cells.toList.take (len * i.size)) (us' := us) (tail := (cells.toList.drop (len * i.size + us.length)).toArray) (news := news) (by simp [hbl]; omega)
                  (fun p q r v hp hq => by
                    obtain ⟨u, hu, hr⟩ := h5 p q r v hp hq
                    refine ⟨u, ?_, hr⟩
                    have hpl := (List.getElem?_eq_some_iff.1 hp).1
                    have hql := (List.getElem?_eq_some_iff.1 hq).1
                    rw [hold r (List.mem_of_getElem? hp)] at hql
                    have : (p + 1) * i.size ≤ len * i.size := Nat.mul_le_mul_right _ (by omega)
                    rw [Nat.add_mul] at this
                    rw [List.getElem?_take, if_pos (by omega)]; simpa using hu) hold hnc
                simpa using this
              obtain ⟨g1, g2⟩ := R.set hσ hbw hb h2 _ hsz' ⟨i.size, b0.rows ++ news, true, true⟩ (by rw [hsz']; simp only [List.length_append, hbl]; exact Nat.le_trans (Nat.mul_le_mul_right _ hroom) hnn)
                (fun r hr => by (rcases List.mem_append.1 hr with hr | hr <;> first | exact hold r hr | exact hnr r hr))
                (by have : (len + news.length) * 1 ≤ (len + news.length) * i.bytes := Nat.mul_le_mul_left _ hb0
                    simp only [List.length_append, hbl]; omega) hC
              obtain ⟨g3, g4⟩ := g1.move (i := id0) (id := id) (x := .c ⟨i.size, b0.rows ++ news, true, true⟩) (b := b) (by simp) hb hid hne
              have hσ' : upd (upd (upd σ id0 (some (.c ⟨i.size, b0.rows ++ news, true, true⟩))) id0 none) id (some (.c ⟨i.size, b0.rows ++ news, true, true⟩)) = upd (upd σ id0 none) id (some (.c ⟨i.size, b0.rows ++ news, true, true⟩)) := by
                funext j
                simp only [upd]
                by_cases e1 : j = id
                · simp [e1]
                · by_cases e2 : j = id0
                  · simp [e2]
                  · simp [e1, e2]
              rw [hσ'] at g3 g4
              refine ⟨.slice (some ⟨b, 0, none⟩) (len + news.length) cap, _, _, .inl ?_, ?_, g3, ?_⟩
              · refine hrun0 _ _ _ hu ?_
                simp [Builtin.append_, run_underlying ht2, run_underlying ht4, sizeOf, typeInfo, hi, hsrc.len, hroom, hsrc.cells, add_none, hst]
              · intro j g hj
                rw [upd_ne _ _ (fun e => by subst e; rw [(R.heap.dom _ hid).1] at hj; cases hj)]; exact hj
              · have := Rel.ow (β := upd β id (some b)) (M := live N (upd β id (some b)) (upd (upd σ id0 none) id (some (.c ⟨i.size, b0.rows ++ news, true, true⟩)))) (w := w.setRow b (cells.toList.take (len * i.size) ++ us ++ cells.toList.drop (len * i.size + us.length)).toArray) id i.size 0 (len + news.length) cap b e3 cells.size (by simp) hroom
                  (by unfold World.shape?; rw [setRow_heap w b cells _ _ _ h2]; simp only [hsz']) (by simpa using hnn)
                simpa [applyW] using this
            · have hfc : (Builtin.firstCells i.size len (.slice (some ⟨b, 0, none⟩) len cap)).run P w.drew = .ok (cells.toList.take (len * i.size)).toArray w.drew := by
                refine run_firstCells_some w.drew i.size len ⟨b, 0, none⟩ len cap _ (by simp; omega) (fun j u hu => ?_)
                rw [List.getElem?_take] at hu
                split at hu
                · rw [add_none, Nat.zero_add]; exact blk_cell (w := w.drew) h2 (by simpa using hu)
                · cases hu
              have hlen0 : ((len + news.length : Nat) : Int) ≤ 9223372036854775807 := by
                have : (len + news.length) * 1 ≤ (len + news.length) * i.bytes := Nat.mul_le_mul_left _ hb0
                omega
              have hg := run_append_grow_src (P := P) w t1 t3 o.type e i z ht2 hi hz (some ⟨b, 0, none⟩) len cap _ hfc (a.eval y) _ us hsrc (by omega) hlen0 (growslice_fits (by omega) (by omega))
              obtain ⟨g1, _⟩ := (drew_world R).less hσ1
              have g2 : ∀ {v z}, Rel (live N β σ) w nob v z → Rel (live N β (upd σ id0 none)) w.drew nob v z := fun hr => ((drew_world R).less hσ1).2 (rel_drew hr)
              have hge := grown_ge w (len + news.length) cap e
              have hnew := Good.new' (P := P) (o := o) (w := w) (w1 := w.drew) (u := .slice (some ⟨w.heap.size, 0, none⟩) (len + news.length) (grownCap w (len + news.length) cap e)) (v := .ow id i.size 0 (len + news.length)) g1 hid (cells := (cells.toList.take (len * i.size) ++ us).toArray ++ Builtin.zeroCells z.cells (grownCap w (len + news.length) cap e - (len + news.length))) (e := e) (x := ⟨i.size, b0.rows ++ news, true, true⟩)
                (by simp only [Array.size_append, List.size_toArray, List.length_append, List.length_take, Array.length_toList, husl, hbl]; rw [Nat.min_eq_left h3, Nat.add_mul]; omega)
                (fun r hr => by (rcases List.mem_append.1 hr with hr | hr <;> first | exact hold r hr | exact hnr r hr))
                (by have : (len + news.length) * 1 ≤ (len + news.length) * i.bytes := Nat.mul_le_mul_left _ hb0
                    simp only [List.length_append, hbl]; omega)
                (rows_append (β := nob) (w := w.drew) (k := i.size) (old := b0.rows) (us := cells.toList.take (len * i.size)) (us' := us) (by simp [hbl]; omega)
                  (fun p q r v hp hq => by
                    obtain ⟨u, hu, hr⟩ := h5 p q r v hp hq
                    refine ⟨u, ?_, g2 hr⟩
                    have hpl := (List.getElem?_eq_some_iff.1 hp).1
                    have hql := (List.getElem?_eq_some_iff.1 hq).1
                    rw [hold r (List.mem_of_getElem? hp)] at hql
                    have : (p + 1) * i.size ≤ len * i.size := Nat.mul_le_mul_right _ (by omega)
                    rw [Nat.add_mul] at this
                    rw [List.getElem?_take, if_pos (by omega)]; simpa using hu) hold
                  (fun p q r v hp hq => by obtain ⟨u, hu, hr⟩ := hnc p q r v hp hq; exact ⟨u, hu, g2 hr⟩))
                (hrun0 _ _ _ hu hg)
                (by
                  have := Rel.ow (β := upd β id (some w.heap.size)) (M := live N (upd β id (some w.heap.size)) (upd (upd σ id0 none) id (some (.c ⟨i.size, b0.rows ++ news, true, true⟩)))) (w := w.drew.alloc (.cells ((cells.toList.take (len * i.size) ++ us).toArray ++ Builtin.zeroCells z.cells (grownCap w (len + news.length) cap e - (len + news.length))) e)) id i.size 0 (len + news.length) (grownCap w (len + news.length) cap e) w.heap.size e _ (by simp) hge
                    (by unfold World.shape?; rw [show w.heap.size = w.drew.heap.size from rfl, heap_alloc_new w.drew _]) (by
                      simp only [Array.size_append, List.size_toArray, List.length_append, List.length_take, Array.length_toList, husl, Nat.zero_add, Builtin.zeroCells, Array.size_map, Array.size_range]
                      rw [Nat.min_eq_left h3, ← hzs, ← Nat.add_mul, ← Nat.add_mul, Nat.add_sub_cancel' hge]; exact Nat.le_refl _)
                  simpa using this)
              exact hnew
          · cases hs
      · cases hs
    · cases hs
end
end Go.Proofs.Ytlhnncmflnjinaa.Am
