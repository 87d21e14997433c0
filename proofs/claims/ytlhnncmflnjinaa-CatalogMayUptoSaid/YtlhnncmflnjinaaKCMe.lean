/- Packed by a program of this repo: Me Meb Mf Mg. -/
import Derived.Test.YtlhnncmflnjinaaKCBase
import Derived.MapKept
import Derived.Laws.StructEq
import Derived.Laws.Pointers
set_option linter.unusedSimpArgs false
set_option linter.unusedVariables false
namespace Go.Proofs.Ytlhnncmflnjinaa.Am
open Go Go.RowKit

section
variable {P : Program} {N : Nat → Prop} {w0 : World} {M0 : Nat → Prop} {β0 : Nat → Option Nat} {ds : List Deferred} {β : Nat → Option Nat} {fr : Regs} {σ : Hp} {F : Nat → Prop} {a : Act} {w : World}
/-- an object of the call's own is written -/
theorem SRel.setObj (h : SRel N w0 M0 β0 ds β fr σ F a w) {id : Nat} {x : Ob} {b : Nat} {w' : World} (hσ : σ id = some x) (hw : x.wr = true) (hb : β id = some b) (hos : w'.os = w.os) (htape : w'.tape = w.tape) (hout : w'.output = w.output) (hsz : w'.heap.size = w.heap.size)
    (hother : ∀ g, g ≠ b → w'.heap[g]? = w.heap[g]?) (hshape : ∀ s, w.shape? b = some s → w'.shape? b = some s) (y : Ob)
    (hyl : ∀ L gr S st pe wr, y = .lp L gr S st pe wr → ∃ tm D, w'.heap[b]? = some (.loop { state := st, pending := pe, fn := L.fn, tmps := tm, params := L.params, assign := L.assign, body := L.body, defers := D }) ∧ β L.d = some D ∧ tm.size = S ∧ ∀ t, Rel (live N β σ) w β (tm.getD t undef) (gr t)) (hyd : ∀ p wr, y = .df p wr → w'.heap[b]? = some (.deferred (if p = true then some [] else none)))
    (hc : ∀ z, y = .c z → ∃ cells e, w'.heap[b]? = some (.cells cells e (0, 0)) ∧ z.rows.length * z.k ≤ cells.size ∧ (∀ r ∈ z.rows, r.length = z.k) ∧ z.rows.length ≤ 4611686018427387904 ∧
      ∀ (p q : Nat) (r : List AV) (a : AV), z.rows[p]? = some r → r[q]? = some a → ∃ u, cells[p * z.k + q]? = some u ∧ Rel (live N β σ) w (z.nm β) u a)
    (hm : ∀ es wr, y = .m es wr → ∃ ms cl, w'.heap[b]? = some (.map ms cl) ∧ ms.size = es.length ∧ ∀ (p : Nat) (e : AV × AV) (m : MapEntry), es[p]? = some e → ms[p]? = some m → Rel (live N β σ) w nob m.key e.1 ∧ Rel (live N β σ) w nob m.val e.2) :
    SRel N w0 M0 β0 ds β fr (upd σ id (some y)) F a w' ∧ (∀ {β' v z}, Rel (live N β σ) w β' v z → Rel (live N β (upd σ id (some y))) w' β' v z) := by
  have hown : own β σ b := ⟨id, x, hσ, hw, hb⟩
  have hlive : live N β σ b := .inr hown
  have hl0 : ∀ g, own β (upd σ id (some y)) g → own β σ g := by
    rintro g ⟨i, z, h1, h2, h3⟩
    by_cases e : i = id
    · subst e; exact ⟨i, x, hσ, hw, h3⟩
    · rw [upd_ne _ _ e] at h1; exact ⟨i, z, h1, h2, h3⟩
  have hl : ∀ g, g < w.heap.size → live N β (upd σ id (some y)) g → live N β σ g := fun g _ h => h.imp (fun h => h) (hl0 g)
  have k3 : ∀ ad u, w.cell? ad = some u → ¬ live N β σ ad.block → w'.cell? ad = some u := by
    intro ad u hcell hm
    have hne : ad.block ≠ b := fun e => hm (e ▸ hlive)
    simpa only [World.cell?, hother _ hne] using hcell
  have k4 : ∀ g s, w.shape? g = some s → w'.shape? g = some s := by
    intro g s hs
    by_cases e : g = b
    · subst e; exact hshape s hs
    · simpa only [World.shape?, hother _ e] using hs
  have up : ∀ {β' v z}, Rel (live N β σ) w β' v z → Rel (live N β (upd σ id (some y))) w' β' v z := fun hr => Rel.step (fun _ _ h => h) hl k3 k4 hr
  have hlp' : ∀ i L fr S st pe wr, (upd σ id (some y)) i = some (.lp L fr S st pe wr) → ∃ b tm D, β i = some b ∧ LpAt (live N β (upd σ id (some y))) w' β L fr S st pe b tm D := by
    intro i L fr S st pe wr hz
    by_cases e : i = id
    · subst e; rw [upd_same] at hz; cases hz
      obtain ⟨tm, D, g1, g2, g3, g4⟩ := hyl _ _ _ _ _ _ rfl
      exact ⟨b, tm, D, hb, g1, g2, g3, fun t => up (g4 t)⟩
    · rw [upd_ne _ _ e] at hz
      obtain ⟨g, tm, D, h1, h2⟩ := h.heap.lp i L fr S st pe wr hz
      have hne : g ≠ b := fun e2 => e (h.heap.inj i id b (e2 ▸ h1) hb (by simp [hz]) (by simp [hσ]))
      exact ⟨g, tm, D, h1, h2.step (fun _ _ h => h) hl k3 k4 (hother g hne)⟩
  have hdf' : ∀ i p wr, (upd σ id (some y)) i = some (.df p wr) → ∃ b, β i = some b ∧ w'.heap[b]? = some (.deferred (if p = true then some [] else none)) := by
    intro i p wr hz
    by_cases e : i = id
    · subst e; rw [upd_same] at hz; cases hz
      exact ⟨b, hb, hyd _ _ rfl⟩
    · rw [upd_ne _ _ e] at hz
      obtain ⟨g, h1, h2⟩ := h.heap.df i p wr hz
      have hne : g ≠ b := fun e2 => e (h.heap.inj i id b (e2 ▸ h1) hb (by simp [hz]) (by simp [hσ]))
      exact ⟨g, h1, (hother g hne).trans h2⟩
  refine ⟨⟨⟨?_, ?_, ?_, ?_, ?_, hlp', hdf'⟩, fun t => up (h.regs t), ?_, fun g hg => h.old g (hl0 g hg), h.away, h.defers, h.ext⟩, up⟩
  · intro i hi
    have hne : i ≠ id := fun e => by subst e; rw [(h.heap.dom i hi).2] at hσ; cases hσ
    rw [upd_ne _ _ hne]; exact h.heap.dom i hi
  · intro i z g hz hg
    by_cases e : i = id
    · subst e; exact h.heap.off i x g hσ hg
    · rw [upd_ne _ _ e] at hz; exact h.heap.off i z g hz hg
  · intro i j g hi hj si sj
    have k : ∀ i, ((upd σ id (some y)) i).isSome → (σ i).isSome := by
      intro i hi
      by_cases e : i = id
      · subst e; simp [hσ]
      · rwa [upd_ne _ _ e] at hi
    exact h.heap.inj i j g hi hj (k i si) (k j sj)
  · intro i z hz
    by_cases e : i = id
    · subst e
      rw [upd_same] at hz; cases hz
      obtain ⟨cells, e, g1, g2, g3, g4, g5⟩ := hc z rfl
      exact .inr ⟨b, cells, e, hb, g1, g2, g3, g4, fun p q r a hp hq => let ⟨u, hu, hr⟩ := g5 p q r a hp hq; ⟨u, hu, up hr⟩⟩
    · rw [upd_ne _ _ e] at hz
      rcases h.heap.blk i z hz with h0 | ⟨g, cs, e', h1, h2⟩
      · exact .inl h0
      · have hne : g ≠ b := fun e2 => e (h.heap.inj i id b (e2 ▸ h1) hb (by simp [hz]) (by simp [hσ]))
        exact .inr ⟨g, cs, e', h1, h2.step (fun _ _ h => h) hl k3 k4 (hother g hne)⟩
  · intro i es wr hz
    by_cases e : i = id
    · subst e
      rw [upd_same] at hz; cases hz
      obtain ⟨ms, cl, g1, g2, g3⟩ := hm es wr rfl
      exact ⟨b, ms, cl, hb, g1, g2, fun p e m hp hm => ⟨up (g3 p e m hp hm).1, up (g3 p e m hp hm).2⟩⟩
    · rw [upd_ne _ _ e] at hz
      obtain ⟨g, ms, cl, h1, h2⟩ := h.heap.map i es wr hz
      have hne : g ≠ b := fun e2 => e (h.heap.inj i id b (e2 ▸ h1) hb (by simp [hz]) (by simp [hσ]))
      exact ⟨g, ms, cl, h1, h2.step hl k3 k4 (hother g hne)⟩
  · refine ⟨hos.trans h.frame.os, htape.trans h.frame.tape, hout.trans h.frame.output, by rw [hsz]; exact h.frame.size, fun g h1 h2 => ?_, fun g s hs => k4 g s (h.frame.shape g s hs)⟩
    have hne : g ≠ b := fun e => h2 (e ▸ h.old b hown (e ▸ h1))
    rw [hother g hne]; exact h.frame.block g h1 h2
/-- a block of the call's own is written -/
theorem SRel.set (h : SRel N w0 M0 β0 ds β fr σ F a w) {id : Nat} {x : Ob} {b : Nat} {cells : Array Value} {e : TypeId} (hσ : σ id = some x) (hw : x.wr = true) (hb : β id = some b) (hh : w.heap[b]? = some (.cells cells e (0, 0)))
    (cells' : Array Value) (hsz : cells'.size = cells.size) (y : Blk) (hn : y.rows.length * y.k ≤ cells'.size) (hr : ∀ r ∈ y.rows, r.length = y.k) (hB : y.rows.length ≤ 4611686018427387904)
    (hc : ∀ (p q : Nat) (r : List AV) (z : AV), y.rows[p]? = some r → r[q]? = some z → ∃ u, cells'[p * y.k + q]? = some u ∧ Rel (live N β σ) w (y.nm β) u z) :
    SRel N w0 M0 β0 ds β fr (upd σ id (some (.c y))) F a (w.setRow b cells') ∧ (∀ {β' v z}, Rel (live N β σ) w β' v z → Rel (live N β (upd σ id (some (.c y)))) (w.setRow b cells') β' v z) := by
  refine h.setObj (w' := w.setRow b cells') hσ hw hb rfl rfl rfl (by simp) (fun g hg => setRow_other w b g cells' hg) ?_ (.c y) (fun _ _ _ _ _ _ h => by cases h) (fun _ _ h => by cases h) (fun z hz => ?_) (fun es wr h => by cases h)
  · intro s hs
    simp only [World.shape?, hh] at hs
    simp only [World.shape?, setRow_heap w b cells cells' _ _ hh, hsz]
    exact hs
  · cases hz
    exact ⟨cells', _, setRow_heap w b cells cells' _ _ hh, hn, hr, hB, hc⟩
theorem clo_rel {β β' : Nat → Option Nat} {M : Nat → Prop} {v : Value} {x : AV} (h : Rel M w β v x) (hc : clo x = true) : Rel M w β' v x := by
  cases h <;> simp only [clo, Bool.false_eq_true] at hc
  · exact .any _
  · exact .sc _
  · exact .s _ _ (by assumption) (by assumption)
  · exact .em _
  · exact .tr _ _ _ _ _ (by assumption) (by assumption) (by assumption) (by assumption) (by assumption) (by assumption) (by assumption)
  · exact .fp _ _ _ (by assumption) (by assumption) (by assumption) (by assumption)
theorem applyW_append (σ : Hp) : ∀ (l1 l2 : Wr), applyW σ (l1 ++ l2) = applyW (applyW σ l1) l2 := by
  intro l1
  induction l1 generalizing σ with
  | nil => intro l2; rfl
  | cons p l1 ih => intro l2; obtain ⟨i, x⟩ := p; exact ih _ l2
theorem good_st (R : SRel N w0 M0 β0 ds β fr σ F a w) {o : Oper} {t : TypeId} {m : Nat} {x y : Operand} {id : Nat} {v : AV} {wr : Wr} (ho : o.op = .store t x y) (hm : szT P t = some m)
    (hs : hSt σ m ((cOpd x).get fr) ((cOpd y).get fr) = some (v, wr)) : Good P o N w0 M0 β0 ds β fr σ F id a w v wr := by
  have h := rel_get R x
  have hy := rel_get R y
  unfold hSt at hs
  unfold szT at hm
  obtain ⟨inf, hinf, hsz⟩ := Option.map_eq_some_iff.1 hm
  generalize (cOpd x).get fr = X at h hs
  generalize hu : a.eval x = u at h
  cases h <;> simp only [reduceCtorEq] at hs
  case rf i k r c b hb =>
    cases hσ : σ i with
    | none => simp [hσ] at hs
    | some q0 =>
    cases q0 with
    | m es wr => simp [hσ] at hs
    | lp L fr S st pe wr => simp [hσ] at hs
    | df o wr => simp [hσ] at hs
    | c q =>
      simp only [hσ] at hs
      split at hs
      · rename_i hk
        obtain ⟨hk, hw⟩ := hk
        cases hrow : q.rows[r]? with
        | none => simp [hrow] at hs
        | some row =>
          cases hc : ((cOpd y).get fr).cells with
          | none => simp [hrow, hc] at hs
          | some l =>
            simp only [hrow, hc] at hs
            split at hs
            · rename_i hcond
              obtain ⟨hl, hcm, hleaf⟩ := hcond
              simp only [Option.some.injEq, Prod.mk.injEq] at hs
              obtain ⟨rfl, rfl⟩ := hs
              obtain ⟨cells, e, h2, h3, h4, h4', h5⟩ := R.heap.phys hσ hb
              have hrl : row.length = k := by rw [← hk]; exact h4 row (List.mem_of_getElem? hrow)
              have hlt := (List.getElem?_eq_some_iff.1 hrow).1
              have hcl := cells_rel hy hc
              have hbd : r * k + c + l.length ≤ cells.size := by
                have : (r + 1) * k ≤ q.rows.length * k := Nat.mul_le_mul_right _ hlt
                rw [hk] at h3
                rw [Nat.add_mul] at this
                omega
              have hone : ∀ u ∈ (a.eval y).cells.toList, u.oneCell' = true := by
                intro u hu
                obtain ⟨j, hj⟩ := List.mem_iff_getElem?.1 hu
                have hjl : j < l.length := by rw [← hcl.1]; simpa using (List.getElem?_eq_some_iff.1 hj).1
                exact leaf_one (hcl.2 j u l[j] (by simpa using hj) (List.getElem?_eq_getElem hjl)) (List.all_eq_true.1 hleaf _ (List.getElem_mem hjl))
              have hsl : (a.eval y).cells.toList.length = l.length := by simpa using hcl.1
              have hst := run_storeCells_at (P := P) b (r * k + c) e (a.eval y).cells.toList 0 cells w h2 (by rw [hsl]; omega) hone
              simp only [Nat.add_zero] at hst
              have hcells' : ∀ j, (cells.toList.take (r * k + c) ++ (a.eval y).cells.toList ++ cells.toList.drop (r * k + c + (a.eval y).cells.toList.length)).toArray[j]? = if r * k + c ≤ j ∧ j < r * k + c + l.length then (a.eval y).cells[j - (r * k + c)]? else cells[j]? := by
                intro j
                rw [List.getElem?_toArray, List.getElem?_append, List.getElem?_append]
                simp only [List.length_append, List.length_take, hsl, Array.length_toList]
                by_cases g1 : j < r * k + c
                · rw [if_pos (by omega), if_pos (by omega), if_neg (by omega), List.getElem?_take, if_pos g1]; simp
                · by_cases g2 : j < r * k + c + l.length
                  · rw [if_pos (by omega), if_neg (by omega), if_pos (by omega)]
                    rw [show j - min (r * k + c) cells.size = j - (r * k + c) by omega]; simp
                  · rw [if_neg (by omega), if_neg (by omega), List.getElem?_drop]
                    rw [show r * k + c + l.length + (j - (min (r * k + c) cells.size + l.length)) = j by omega]; simp
              have hsz' : (cells.toList.take (r * k + c) ++ (a.eval y).cells.toList ++ cells.toList.drop (r * k + c + (a.eval y).cells.toList.length)).toArray.size = cells.size := by
                simp only [List.size_toArray, List.length_append, List.length_take, List.length_drop, hsl, Array.length_toList]; omega
              have hsp := splice_length row c l (by omega)
              have hR : ∀ r' ∈ (q.rows.set r (splice row c l)), r'.length = k := by
                intro z hz
                rcases List.mem_or_eq_of_mem_set hz with hz | rfl
                · rw [← hk]; exact h4 z hz
                · exact hsp.trans hrl
              have hC : ∀ (p q' : Nat) (z : List AV) (v : AV), (q.rows.set r (splice row c l))[p]? = some z → z[q']? = some v → ∃ u, (cells.toList.take (r * k + c) ++ (a.eval y).cells.toList ++ cells.toList.drop (r * k + c + (a.eval y).cells.toList.length)).toArray[p * k + q']? = some u ∧ Rel (live N β σ) w ((⟨k, q.rows.set r (splice row c l), true, q.cl && l.all clo⟩ : Blk).nm β) u v := by
                have hup : ∀ {u v}, Rel (live N β σ) w (q.nm β) u v → Rel (live N β σ) w ((⟨k, q.rows.set r (splice row c l), true, q.cl && l.all clo⟩ : Blk).nm β) u v := by
                  intro u v hr
                  unfold Blk.nm at hr ⊢
                  by_cases hq : q.cl = true
                  · rw [if_pos hq] at hr
                    exact Rel.step (fun _ _ h => by cases h) (fun _ _ h => h) (fun _ _ h _ => h) (fun _ _ h => h) hr
                  · rw [if_neg hq] at hr
                    rw [if_neg (by simp [hq])]; exact hr
                intro p q' z v hp hq
                simp only [List.getElem?_set] at hp
                simp only [hcells']
                by_cases ep : r = p
                · subst ep
                  simp only [if_true, hlt] at hp
                  cases hp
                  rw [splice_get _ _ _ (by omega)] at hq
                  by_cases g : c ≤ q' ∧ q' < c + l.length
                  · rw [if_pos g] at hq
                    rw [if_pos (by omega)]
                    have hjl : q' - c < (a.eval y).cells.size := by rw [hcl.1]; omega
                    have hrel := hcl.2 (q' - c) (a.eval y).cells[q' - c] v (by simp [hjl]) hq
                    refine ⟨(a.eval y).cells[q' - c], ?_, ?_⟩
                    rotate_left
                    · unfold Blk.nm
                      split
                      · rename_i hcq
                        have hcq' : (q.cl && l.all clo) = true := hcq
                        rw [Bool.and_eq_true] at hcq'
                        exact clo_rel hrel (List.all_eq_true.1 hcq'.2 _ (List.mem_of_getElem? hq))
                      · exact hrel
                    rw [show r * k + q' - (r * k + c) = q' - c by omega]; simp [hjl]
                  · rw [if_neg g] at hq
                    rw [if_neg (by omega)]
                    obtain ⟨u, hu, hr⟩ := h5 r q' row v hrow hq
                    exact ⟨u, by rw [← hk]; exact hu, hup hr⟩
                · rw [if_neg ep] at hp
                  have hzl : z.length = k := by rw [← hk]; exact h4 z (List.mem_of_getElem? hp)
                  have hq'l : q' < k := by rw [← hzl]; exact (List.getElem?_eq_some_iff.1 hq).1
                  rw [if_neg ?_]
                  · obtain ⟨u, hu, hr⟩ := h5 p q' z v hp hq
                    exact ⟨u, by rw [← hk]; exact hu, hup hr⟩
                  · rintro ⟨g1, g2⟩
                    rcases Nat.lt_or_ge p r with hlt' | hge
                    · have : (p + 1) * k ≤ r * k := Nat.mul_le_mul_right _ hlt'
                      rw [Nat.add_mul] at this; omega
                    · have : (r + 1) * k ≤ p * k := Nat.mul_le_mul_right _ (by omega)
                      rw [Nat.add_mul] at this; omega
              obtain ⟨g1, g2⟩ := R.set hσ hw hb h2 _ hsz' ⟨k, q.rows.set r (splice row c l), true, q.cl && l.all clo⟩ (by rw [hsz']; simpa [← hk] using h3) hR (by simpa using h4') hC
              refine ⟨undef, _, β, .inr ⟨?_, rfl⟩, fun _ _ h => h, g1.free (fun _ h => h.1), ?_⟩
              · have hcs : (a.eval y).cells.size = inf.size := by rw [hcl.1, hl, hsz]
                simp [execOp, ho, hu, Instr.storeAt, Instr.sureAddr, storeVar, sizeOf, typeInfo, hinf, hcs, hst]
              · exact .tp #[] [] rfl (fun i u z h _ => by simp at h)
            · cases hs
      · cases hs
/-- rows in cells -/
def RowsC (M : Nat → Prop) (w : World) (β : Nat → Option Nat) (k : Nat) (cs : Array Value) (rows : List (List AV)) : Prop :=
  cs.size = rows.length * k ∧ (∀ r ∈ rows, r.length = k) ∧ ∀ (p q : Nat) (r : List AV) (z : AV), rows[p]? = some r → r[q]? = some z → ∃ u, cs[p * k + q]? = some u ∧ Rel M w β u z
theorem fillR_rel (R : SRel N w0 M0 β0 ds β fr σ F a w) (k : Nat) : ∀ (parts : List (Nat × Operand)) (cs : Array Value) (l l' : List (List AV)) (I I' : List Nat), fillR σ k (parts.map fun p => (p.1, (cOpd p.2).get fr)) l I = some (l', I') → (∀ i ∈ I, (σ i).isSome) →
    (∀ i ∈ I, i ∈ I') ∧ (∀ i ∈ I', (σ i).isSome) ∧ ∀ (M' : Nat → Prop), (∀ b, M' b → live N β σ b) → (∀ i ∈ I', ∀ b, β i = some b → ¬ M' b) → RowsC M' w nob k cs l →
    ∃ cs', Instr.fill (fun i => some (i * k, k)) cs (parts.map fun (i, x) => (i, a.eval x)) = some cs' ∧ RowsC M' w nob k cs' l' ∧ l'.length = l.length
  | [], cs, l, l', I, I', h3, hI => by
    simp only [List.map_nil, fillR, Option.some.injEq, Prod.mk.injEq] at h3
    obtain ⟨rfl, rfl⟩ := h3
    exact ⟨fun _ h => h, hI, fun M' _ _ h2 => ⟨cs, rfl, h2, rfl⟩⟩
  | (i, x) :: rest, cs, l, l', I, I', h3, hI => by
    simp only [List.map_cons] at h3
    unfold fillR at h3
    cases hb : brw σ 6 ((cOpd x).get fr) with
    | none => simp [hb] at h3
    | some cJ =>
      obtain ⟨c, J⟩ := cJ
      simp only [hb] at h3
      cases hc : c.cells with
      | none => simp [hc] at h3
      | some xs =>
        simp only [hc] at h3
        split at h3
        · rename_i hcond
          obtain ⟨e1, e2⟩ := hcond
          obtain ⟨q1, q2, q3⟩ := fillR_rel R k rest ((a.eval x).cells.zipIdx.foldl (fun cs (p : Value × Nat) => cs.setIfInBounds (i * k + p.2) p.1) cs) (l.set i xs) l' (J ++ I) I' h3
            (fun j hj => by rcases List.mem_append.1 hj with hj | hj; exact brw_some σ 6 _ _ _ hb j hj; exact hI j hj)
          refine ⟨fun j hj => q1 j (List.mem_append_right _ hj), q2, fun M' hM hI' h2 => ?_⟩
          have hv := cells_rel (brw_rel R.heap hM 6 _ _ _ _ hb (rel_get R x) (fun j hj => hI' j (q1 j (List.mem_append_left _ hj)))) hc
          have hsz : (a.eval x).cells.size = k := by rw [hv.1, e1]
          have hbd : i * k + k ≤ cs.size := by
            rw [h2.1]
            have : (i + 1) * k ≤ l.length * k := Nat.mul_le_mul_right _ e2
            rwa [Nat.add_mul, Nat.one_mul] at this
          have hf := fun j => fold_get (i * k) (a.eval x).cells.toList 0 cs j (by simp; omega)
          have e : (a.eval x).cells.zipIdx.foldl (fun cs (p : Value × Nat) => cs.setIfInBounds (i * k + p.2) p.1) cs = ((a.eval x).cells.toList.zipIdx 0).foldl (fun cs (p : Value × Nat) => cs.setIfInBounds (i * k + p.2) p.1) cs := by
            rw [← Array.foldl_toList, Array.toList_zipIdx]
          have h2' : RowsC M' w nob k ((a.eval x).cells.zipIdx.foldl (fun cs (p : Value × Nat) => cs.setIfInBounds (i * k + p.2) p.1) cs) (l.set i xs) := by
            rw [e]
            refine ⟨by rw [(hf 0).1, h2.1]; simp, fun r hr => ?_, fun p q r z hp hq => ?_⟩
            · rcases List.mem_or_eq_of_mem_set hr with hr | rfl
              · exact h2.2.1 r hr
              · exact e1
            · rw [(hf _).2]
              simp only [Nat.add_zero, Array.length_toList, hsz, Array.getElem?_toList]
              simp only [List.getElem?_set] at hp
              by_cases ep : i = p
              · subst ep
                simp only [if_true, e2] at hp
                cases hp
                have hql := (List.getElem?_eq_some_iff.1 hq).1
                rw [if_pos (by omega)]
                have hjl : q < (a.eval x).cells.size := by omega
                exact ⟨(a.eval x).cells[q], by rw [show i * k + q - i * k = q by omega]; simp [hjl], hv.2 q _ z (by simp [hjl]) hq⟩
              · rw [if_neg ep] at hp
                have hzl := h2.2.1 r (List.mem_of_getElem? hp)
                have hql := (List.getElem?_eq_some_iff.1 hq).1
                rw [if_neg ?_]
                · exact h2.2.2 p q r z hp hq
                · rintro ⟨g1, g2⟩
                  rcases Nat.lt_or_ge p i with hlt' | hge
                  · have : (p + 1) * k ≤ i * k := Nat.mul_le_mul_right _ hlt'
                    rw [Nat.add_mul] at this; omega
                  · have : (i + 1) * k ≤ p * k := Nat.mul_le_mul_right _ (by omega)
                    rw [Nat.add_mul] at this; omega
          obtain ⟨cs', e3, e4, e5⟩ := q3 M' hM hI' h2'
          refine ⟨cs', ?_, e4, by rw [e5]; simp⟩
          simp only [List.map_cons, Instr.fill, hsz, ne_eq, not_true_eq_false, decide_false, Bool.false_or]
          rw [if_neg (by simpa using hbd)]
          exact e3
        · cases h3
theorem good_bsl (R : SRel N w0 M0 β0 ds β fr σ F a w) {o : Oper} {t e : TypeId} {len k : Nat} {parts : Array (Nat × Operand)} {zs : List Value} {id : Nat} {v : AV} {wr : Wr} (hid : F id) (ho : o.op = .buildSlice t len parts) (ht : P.underlying t = some (.slice e)) (hk : szT P e = some k) (hz : zsT P e = some zs)
    (hk0 : 0 < k) (hzk : zs.length = k) (hsmall : len * k ≤ 16777216) (hs : hBsl σ id k zs len (parts.toList.map fun p => (p.1, (cOpd p.2).get fr)) = some (v, wr)) : Good P o N w0 M0 β0 ds β fr σ F id a w v wr := by
  unfold hBsl at hs
  unfold szT at hk
  obtain ⟨inf, hinf, hsz⟩ := Option.map_eq_some_iff.1 hk
  unfold zsT at hz
  obtain ⟨z, hz1, rfl⟩ := Option.map_eq_some_iff.1 hz
  obtain ⟨it, hit, hz2⟩ := Option.bind_eq_some_iff.1 hz1
  rw [hinf] at hit; cases hit
  cases hf : fillR σ k (parts.toList.map fun p => (p.1, (cOpd p.2).get fr)) (List.replicate len (z.cells.toList.map ofC)) [] with
  | none => simp [hf] at hs
  | some rI =>
    obtain ⟨rows, I⟩ := rI
    simp only [hf, Option.some.injEq, Prod.mk.injEq] at hs
    obtain ⟨rfl, rfl⟩ := hs
    have hzs : z.cells.size = k := by simpa using hzk
    obtain ⟨_, hIs, hfill⟩ := fillR_rel R k parts.toList ((Array.range (len * k)).map (z.cells[· % z.cells.size]!)) _ rows [] I hf (fun i h => by cases h)
    obtain ⟨hl1, hl2⟩ := frz_off R.heap hIs
    obtain ⟨R1, up1⟩ := R.less (frz_less σ I)
    have h0 : RowsC (live N β (applyW σ (frz σ I))) w nob k ((Array.range (len * k)).map (z.cells[· % z.cells.size]!)) (List.replicate len (z.cells.toList.map ofC)) := by
      refine ⟨by simp, fun r hr => by rw [List.eq_of_mem_replicate hr]; simpa using hzs, fun p q r u hp hq => ?_⟩
      rw [List.getElem?_replicate] at hp
      split at hp
      · rename_i hpl
        cases hp
        have hql : q < k := by have := (List.getElem?_eq_some_iff.1 hq).1; simpa [hzs] using this
        have hlt : p * k + q < len * k := by
          have : (p + 1) * k ≤ len * k := Nat.mul_le_mul_right _ hpl
          rw [Nat.add_mul] at this; omega
        have hmod : (p * k + q) % z.cells.size = q := by rw [hzs, Nat.mul_comm, Nat.mul_add_mod, Nat.mod_eq_of_lt hql]
        refine ⟨z.cells[q]'(by omega), by simp [hlt, hmod, getElem!_pos z.cells q (by omega)], ?_⟩
        simp [show q < z.cells.size by omega] at hq
        subst hq; exact rel_ofC _ _ _ _
      · cases hp
    obtain ⟨cs, e1, e2, e3⟩ := hfill _ hl1 hl2 h0
    have e3' : rows.length = len := by simpa using e3
    have hrun : (execOp a.eval o).run P w = .ok (.value (.slice (some ⟨w.heap.size, 0, none⟩) len len)) (w.alloc (.cells cs e)) := by
      have e1' : Instr.fill (fun i => some (i * inf.size, inf.size)) ((Array.range (len * inf.size)).map (z.cells[· % z.cells.size]!)) (parts.map fun (i, x) => (i, a.eval x)).toList = some cs := by rw [hsz]; simpa using e1
      by_cases hl0 : len = 0
      · subst hl0
        have hr0 : rows = [] := List.eq_nil_of_length_eq_zero e3'
        have hp0 : parts.toList = [] := by
          cases hp : parts.toList with
          | nil => rfl
          | cons x rest =>
            obtain ⟨i, x⟩ := x
            rw [hp] at hf
            simp only [List.map_cons, List.replicate_zero] at hf
            unfold fillR at hf
            split at hf
            · split at hf
              · simp at hf
              · cases hf
            · cases hf
        have hp0' : parts = #[] := by apply Array.ext'; simpa using hp0
        subst hp0'
        have hcs : cs = #[] := by
          have := e2.1; rw [hr0] at this; simpa using this
        subst hcs
        simp [execOp, ho, Instr.buildSlice, run_underlying ht, sizeOf, typeInfo, hinf, Instr.fill, newRow]
        congr 2
        exact Array.eq_empty_of_size_eq_zero (by simp)
      · have := run_buildSlice w t e len (parts.map fun (i, x) => (i, a.eval x)) cs inf z ht hinf hz2 (by rw [hsz]; omega) (by rw [hsz]; intro h; rcases Nat.mul_eq_zero.1 h with h | h <;> omega) e1'
        simp [execOp, ho, this]
    have hgood := Good.new (P := P) (o := o) (u := .slice (some ⟨w.heap.size, 0, none⟩) len len) (v := .ow id k 0 len) R1 hid (cells := cs) (e := e) (x := ⟨k, rows, true, true⟩) (by simp [e2.1]) e2.2.1 (by rw [e3']; have : len * 1 ≤ len * k := Nat.mul_le_mul_left _ hk0; omega) e2.2.2 hrun (by
      have := Rel.ow (β := upd β id (some w.heap.size)) (M := live N (upd β id (some w.heap.size)) (upd (applyW σ (frz σ I)) id (some (.c ⟨k, rows, true, true⟩)))) (w := w.alloc (.cells cs e)) id k 0 len len w.heap.size e cs.size (by simp) (Nat.le_refl _)
        (by unfold World.shape?; rw [heap_alloc_new w (.cells cs e)]) (by rw [e2.1, e3', Nat.zero_add]; exact Nat.le_refl _)
      simpa using this)
    obtain ⟨u, w', β', g1, g2, g3, g4⟩ := hgood
    refine ⟨u, w', β', g1, g2, ?_, ?_⟩
    · rw [applyW_append]; exact g3
    · rw [applyW_append]; exact g4
theorem src_of {k n : Nat} (hk : 0 < k) {tx e' : TypeId} (htx : P.underlying tx = some (.slice e')) {ad : Addr} {c : Nat} {f : Nat → Nat → Value} {rows : List (List AV)} (hn : rows.length = n) (hr : ∀ r ∈ rows, r.length = k)
    (hleaf : rows.all (fun r => r.all leafok) = true) (hcell : ∀ p q, p < n → q < k → w.cell? (ad.add (p * k + q)) = some (f p q))
    (hrel : ∀ (p q : Nat) (r : List AV) (z : AV), rows[p]? = some r → r[q]? = some z → Rel (live N β σ) w nob (f p q) z) :
    ∃ us : List Value, Src P k tx (.slice (some ad) n c) n us w ∧ ∀ (p q : Nat) (r : List AV) (z : AV), rows[p]? = some r → r[q]? = some z → ∃ u, us[p * k + q]? = some u ∧ Rel (live N β σ) w nob u z := by
  have hlt : ∀ p q, p < n → q < k → p * k + q < n * k := fun p q h1 h2 => by
    have : (p + 1) * k ≤ n * k := Nat.mul_le_mul_right _ h1
    rw [Nat.add_mul] at this; omega
  have hdm : ∀ p q, q < k → (p * k + q) / k = p ∧ (p * k + q) % k = q := fun p q h => by
    constructor
    · rw [Nat.mul_comm, Nat.mul_add_div hk, Nat.div_eq_of_lt h, Nat.add_zero]
    · rw [Nat.mul_comm, Nat.mul_add_mod, Nat.mod_eq_of_lt h]
  have hback : ∀ j, j < n * k → j / k < n ∧ j % k < k ∧ j / k * k + j % k = j := fun j h => by
    refine ⟨Nat.div_lt_of_lt_mul (by rwa [Nat.mul_comm]), Nat.mod_lt _ hk, ?_⟩
    rw [Nat.mul_comm]; exact Nat.div_add_mod j k
  refine ⟨(List.range (n * k)).map (fun j => f (j / k) (j % k)), Src.ofSlice w htx ad n c _ (by simp) ?_ ?_, ?_⟩
  · intro j u hu
    have hj : j < n * k := by
      have := (List.getElem?_eq_some_iff.1 hu).1; simpa using this
    rw [List.getElem?_map, List.getElem?_range hj] at hu
    cases hu
    obtain ⟨h1, h2, h3⟩ := hback j hj
    have := hcell _ _ h1 h2
    rwa [h3] at this
  · intro u hu
    obtain ⟨j, hj, rfl⟩ := List.mem_map.1 hu
    have hj' : j < n * k := by simpa using hj
    obtain ⟨h1, h2, h3⟩ := hback j hj'
    have hp : rows[j / k]? = some rows[j / k] := List.getElem?_eq_getElem (by omega)
    have hmem := List.getElem_mem (l := rows) (n := j / k) (by omega)
    have hl := hr _ hmem
    have hq : rows[j / k][j % k]? = some rows[j / k][j % k] := List.getElem?_eq_getElem (by omega)
    exact leaf_one (hrel _ _ _ _ hp hq) (List.all_eq_true.1 (List.all_eq_true.1 hleaf _ hmem) _ (List.getElem_mem _))
  · intro p q r z hp hq
    have hpl := (List.getElem?_eq_some_iff.1 hp).1
    have hql := (List.getElem?_eq_some_iff.1 hq).1
    rw [hr r (List.mem_of_getElem? hp)] at hql
    refine ⟨f p q, ?_, hrel p q r z hp hq⟩
    rw [List.getElem?_map, List.getElem?_range (hlt p q (by omega) hql), Option.map_some, (hdm p q hql).1, (hdm p q hql).2]
theorem rel_ow {β : Nat → Option Nat} {M : Nat → Prop} {v : Value} {x : AV} (h : Rel M w β v x) {id k off len : Nat} (e : x = .ow id k off len) : (off = 0 ∧ len = 0 ∧ ∃ A, v = .slice A 0 0) ∨ ∃ cap b e n, v = .slice (some ⟨b, off * k, none⟩) len cap ∧ β id = some b ∧ len ≤ cap ∧ w.shape? b = some (e, n) ∧ (off + cap) * k ≤ n := by
  cases h with
  | ow id' k' off' len' cap b ee n hb hl hs hn => cases e; exact .inr ⟨cap, b, ee, n, rfl, hb, hl, hs, hn⟩
  | ow0 A => cases e; exact .inl ⟨rfl, rfl, A, rfl⟩
  | _ => cases e
theorem src_nil {k : Nat} {tx e' : TypeId} (htx : P.underlying tx = some (.slice e')) (A : Option Addr) (c : Nat) : ∃ us : List Value, Src P k tx (.slice A 0 c) 0 us w ∧ us = [] := by
  cases A with
  | none => exact ⟨[], Src.ofNil w htx _, rfl⟩
  | some ad => exact ⟨[], Src.ofSlice w htx ad 0 c [] (by simp) (fun j u h => by simp at h) (fun u h => by cases h), rfl⟩
theorem rows_src (R : SRel N w0 M0 β0 ds β fr σ F a w) (y : Operand) {k : Nat} (hk : 0 < k) {news : List (List AV)} (hy : rowsOf σ k ((cOpd y).get fr) = some news) (hleaf : news.all (fun r => r.all leafok) = true) {tx e' : TypeId} (htx : P.underlying tx = some (.slice e')) :
    ∃ us : List Value, Src P k tx (a.eval y) news.length us w ∧ (∀ r ∈ news, r.length = k) ∧ ∀ (p q : Nat) (r : List AV) (z : AV), news[p]? = some r → r[q]? = some z → ∃ u, us[p * k + q]? = some u ∧ Rel (live N β σ) w nob u z := by
  have h := rel_get R y
  generalize (cOpd y).get fr = Y at h hy
  generalize hu : a.eval y = u at h
  unfold rowsOf at hy
  split at hy
  · cases hy
    cases h with
    | em A =>
      obtain ⟨us, h1, rfl⟩ := src_nil (P := P) (w := w) (k := k) htx A 0
      exact ⟨[], h1, (fun r h => by cases h), fun p q r z hp => by simp at hp⟩
  · rename_i rows
    split at hy
    · rename_i hall
      cases hy
      have hr0 := all_len hall
      cases h with
      | tr A c k' rows us hk0 hc hB hr hA hcell hrel =>
      by_cases hne : news = []
      · subst hne
        obtain ⟨us, h1, rfl⟩ := src_nil (P := P) (w := w) (k := k) htx A c
        exact ⟨[], h1, hr0, fun p q r z hp => by simp at hp⟩
      · obtain ⟨ad, rfl, hm⟩ := hA hne
        have hkk : k' = k := by
          cases news with
          | nil => exact absurd rfl hne
          | cons r0 news => rw [← hr r0 (by simp)]; exact hr0 r0 (by simp)
        subst hkk
        obtain ⟨us', h1, h2⟩ := src_of (P := P) hk htx (c := c) rfl hr hleaf (fun p q hp hq => hcell ad p q rfl hp hq) hrel
        exact ⟨us', h1, hr, h2⟩
    · cases hy
  · rename_i i k' off len
    split at hy
    · rename_i e; subst e
      split at hy
      · rename_i x hσ
        split at hy
        · rename_i hcond
          obtain ⟨e1, ecl, e2⟩ := hcond
          cases hy
          rcases rel_ow h rfl with ⟨rfl, rfl, A, rfl⟩ | ⟨cap, b, e, n, rfl, hb, hl, hs, hn⟩
          · obtain ⟨us, h1, rfl⟩ := src_nil (P := P) (w := w) (k := k') htx A 0
            have hl0 : ((x.rows.drop 0).take 0).length = 0 := by simp
            exact ⟨[], by simpa using h1, (fun r h => by simp at h), fun p q r z hp => by simp at hp⟩
          · obtain ⟨cells, e3, h2, h3, h4, h4', h5⟩ := R.heap.phys hσ hb
            have hlen : ((x.rows.drop off).take len).length = len := by simp; omega
            have hrows : ∀ r ∈ (x.rows.drop off).take len, r.length = k' := fun r hr => by rw [← e1]; exact h4 r (List.mem_of_mem_drop (List.mem_of_mem_take hr))
            have hget : ∀ (p : Nat) (r : List AV), ((x.rows.drop off).take len)[p]? = some r → x.rows[off + p]? = some r := fun p r hp => by
              rw [List.getElem?_take] at hp
              split at hp
              · rwa [List.getElem?_drop] at hp
              · cases hp
            have hC1 : ∀ p q, p < len → q < k' → w.cell? ((⟨b, off * k', none⟩ : Addr).add (p * k' + q)) = some ((fun p q => cells.getD ((off + p) * k' + q) undef) p q) := by
              intro p q hp hq
              have hp' : x.rows[off + p]? = some x.rows[off + p] := List.getElem?_eq_getElem (by omega)
              have hl' : x.rows[off + p].length = k' := by rw [← e1]; exact h4 _ (List.getElem_mem _)
              obtain ⟨u, hu, _⟩ := h5 (off + p) q _ (x.rows[off + p][q]'(by omega)) hp' (List.getElem?_eq_getElem (by omega))
              rw [e1] at hu
              rw [add_none, show off * k' + (p * k' + q) = (off + p) * k' + q by rw [Nat.add_mul]; omega, blk_cell h2 hu]
              simp [Array.getD_eq_getD_getElem?, hu]
            have hC2 : ∀ (p q : Nat) (r : List AV) (z : AV), ((x.rows.drop off).take len)[p]? = some r → r[q]? = some z → Rel (live N β σ) w nob ((fun p q => cells.getD ((off + p) * k' + q) undef) p q) z := by
              intro p q r z hp hq
              obtain ⟨u, hu, hr⟩ := h5 (off + p) q r z (hget p r hp) hq
              rw [e1] at hu
              have hr' : Rel (live N β σ) w nob u z := by unfold Blk.nm at hr; rw [if_pos ecl] at hr; exact hr
              simpa [Array.getD_eq_getD_getElem?, hu] using hr'
            obtain ⟨us', g1, g2⟩ := src_of (P := P) (β := β) (σ := σ) (w := w) (ad := ⟨b, off * k', none⟩) (c := cap) (f := fun p q => cells.getD ((off + p) * k' + q) undef) hk htx hlen hrows hleaf hC1 hC2
            rw [hlen]
            exact ⟨us', g1, hrows, g2⟩
        · cases hy
      · cases hy
    · cases hy
  · cases hy
theorem slice_of_rows {M : Nat → Prop} {β : Nat → Option Nat} {σ : Hp} {k : Nat} {u : Value} {Y : AV} {rows : List (List AV)} (h : Rel M w β u Y) (hy : rowsOf σ k Y = some rows) : ∃ A c, u = .slice A rows.length c := by
  unfold rowsOf at hy
  split at hy
  · cases hy
    cases h with
    | em A => exact ⟨A, 0, rfl⟩
  · rename_i rows'
    split at hy
    · cases hy
      cases h with
      | tr A c k' rows us hk0 hc hB hr hA hcell hrel => exact ⟨A, c, rfl⟩
    · cases hy
  · rename_i i k' off len
    split at hy
    · split at hy
      · rename_i x hσ
        split at hy
        · rename_i hcond
          cases hy
          rcases rel_ow h rfl with ⟨rfl, rfl, A, rfl⟩ | ⟨cap, b, e, n, rfl, hb, hl, hs, hn⟩
          · exact ⟨A, 0, by simp⟩
          · refine ⟨some ⟨b, off * k', none⟩, cap, ?_⟩
            have hlen : ((x.rows.drop off).take len).length = len := by simp; omega
            rw [hlen]
        · cases hy
      · cases hy
    · cases hy
  · cases hy
theorem bytesOf_at : ∀ {rows : List (List AV)} {ns : List Int}, bytesOf rows = some ns → rows = ns.map fun n => [.sc (.int .u8 n)]
  | [], ns, h => by cases h; rfl
  | r :: rs, ns, h => by
    simp only [bytesOf] at h
    split at h
    · obtain ⟨ms, h1, rfl⟩ := Option.map_eq_some_iff.1 h
      rw [bytesOf_at h1]; rfl
    · cases h
theorem push_bytes : ∀ (ns : List Int) (s : ByteArray), (ns.foldl (fun r n => r.push (UInt8.ofNat n.toNat)) s).data.toList = s.data.toList ++ ns.map fun n => UInt8.ofNat n.toNat
  | [], s => by simp
  | n :: ns, s => by
    rw [List.foldl_cons, push_bytes ns]
    simp [ByteArray.push]
theorem good_cvb (R : SRel N w0 M0 β0 ds β fr σ F a w) {o : Oper} {x : Operand} {s d e : TypeId} {v : AV} (ho : o.op = .convert s d x) (h1 : P.underlying s = some (.slice e)) (he : P.underlying e = some (.int .u8)) (h2 : P.underlying d = some .string)
    (hs : aCvb σ ((cOpd x).get fr) = some v) : GoodR P o N β σ a w v := by
  unfold aCvb at hs
  split at hs
  · rename_i rows hrows
    split at hs
    · rename_i hlen
      obtain ⟨ns, hns, rfl⟩ := Option.map_eq_some_iff.1 hs
      have hrw := bytesOf_at hns
      subst hrw
      obtain ⟨us, hsrc, hnr, hnc⟩ := rows_src (P := P) R x (by omega : 0 < 1) hrows (by simp [leafok]) h1
      obtain ⟨A, c, hu⟩ := slice_of_rows (rel_get R x) hrows
      simp only [List.length_map] at hu hsrc hlen
      have hus : us = ns.map (Value.int .u8) := by
        refine List.ext_getElem? fun i => ?_
        by_cases hi : i < ns.length
        · obtain ⟨u, g1, g2⟩ := hnc i 0 [.sc (.int .u8 ns[i])] (.sc (.int .u8 ns[i])) (by simp [hi]) rfl
          rw [Nat.mul_one, Nat.add_zero] at g1
          cases g2
          rw [g1]; simp [hi]
        · rw [List.getElem?_eq_none (by rw [hsrc.newsLen]; omega), List.getElem?_eq_none (by simp; omega)]
      subst hus
      have hrun : (execOp a.eval o).run P w = .ok (.value (.string (ns.foldl (fun r n => r.push (UInt8.ofNat n.toNat)) ByteArray.empty))) w := by
        have hc := hsrc.cells
        rw [hu] at hc
        have hconv : (convert s d (.slice A ns.length c)).run P w = .ok (.string (ns.foldl (fun r n => r.push (UInt8.ofNat n.toNat)) ByteArray.empty)) w := by
          rw [run_convert_bytes_string w s d e A ns.length c h1 he h2]
          cases A with
          | none =>
            simp only [Builtin.firstCells, Sem.run_pure] at hc
            injection hc with hc _
            have hn : ns = [] := by
              have : (ns.map (Value.int .u8)).length = 0 := by
                have := congrArg Array.size hc
                simpa using this.symm
              simpa using this
            subst hn
            rfl
          | some ad =>
            simp only [Builtin.firstCells, Nat.mul_one] at hc
            exact run_bytesToString w ad ns.length c ns hc
        simp [execOp, ho, hu, hconv]
      refine ⟨_, hrun, .s _ _ ?_ (by simpa using hlen)⟩
      rw [push_bytes]; simp
    · cases hs
  · cases hs
theorem drew_world (R : SRel N w0 M0 β0 ds β fr σ F a w) : SRel N w0 M0 β0 ds β fr σ F a w.drew := R.world rfl rfl rfl (Nat.le_refl _) (fun _ _ => rfl)
theorem rel_drew {M : Nat → Prop} {v : Value} {z : AV} (h : Rel M w β v z) : Rel M w.drew β v z := Rel.step (w := w) (w' := w.drew) (fun _ _ h => h) (fun _ _ h => h) (fun _ _ h _ => h) (fun _ _ h => h) h
/-- the cells of rows that stand behind others -/
theorem rows_append {M : Nat → Prop} {k : Nat} {old news : List (List AV)} {us us' : List Value} {tail : Array Value} (hl : us.length = old.length * k)
    (h1 : ∀ (p q : Nat) (r : List AV) (z : AV), old[p]? = some r → r[q]? = some z → ∃ u, us[p * k + q]? = some u ∧ Rel M w β u z) (_hrow : ∀ r ∈ old, r.length = k)
    (h2 : ∀ (p q : Nat) (r : List AV) (z : AV), news[p]? = some r → r[q]? = some z → ∃ u, us'[p * k + q]? = some u ∧ Rel M w β u z) :
    ∀ (p q : Nat) (r : List AV) (z : AV), (old ++ news)[p]? = some r → r[q]? = some z → ∃ u, ((us ++ us').toArray ++ tail)[p * k + q]? = some u ∧ Rel M w β u z := by
  intro p q r z hp hq
  have key : ∃ u, (us ++ us')[p * k + q]? = some u ∧ Rel M w β u z := by
    rw [List.getElem?_append] at hp
    split at hp
    · rename_i hpl
      obtain ⟨u, hu, hr⟩ := h1 p q r z hp hq
      have hlt := (List.getElem?_eq_some_iff.1 hu).1
      exact ⟨u, by rw [List.getElem?_append_left hlt]; exact hu, hr⟩
    · rename_i hpl
      obtain ⟨u, hu, hr⟩ := h2 _ q r z hp hq
      refine ⟨u, ?_, hr⟩
      have : old.length * k ≤ p * k := Nat.mul_le_mul_right _ (by omega)
      rw [List.getElem?_append_right (by omega), hl, show p * k + q - old.length * k = (p - old.length) * k + q by rw [Nat.sub_mul]; omega]
      exact hu
  obtain ⟨u, hu, hr⟩ := key
  have hlt := (List.getElem?_eq_some_iff.1 hu).1
  exact ⟨u, by rw [Array.getElem?_append_left (by simpa using hlt)]; simpa using hu, hr⟩
theorem grown_ge (w : World) (n c : Nat) (e : TypeId) : n ≤ grownCap w n c e := by
  unfold grownCap
  simp only [Question.cut]
  omega
/-- a new block is made, behind a draw or not -/
theorem Good.new' {o : Oper} {id : Nat} {v : AV} {u : Value} {w1 : World} (R : SRel N w0 M0 β0 ds β fr σ F a w1) (hid : F id) {cells : Array Value} {e : TypeId} {x : Blk} (hn : x.rows.length * x.k ≤ cells.size) (hr : ∀ r ∈ x.rows, r.length = x.k) (hB : x.rows.length ≤ 4611686018427387904)
    (hc : ∀ (p q : Nat) (r : List AV) (a : AV), x.rows[p]? = some r → r[q]? = some a → ∃ u, cells[p * x.k + q]? = some u ∧ Rel (live N β σ) w1 (x.nm β) u a)
    (hrun : (execOp a.eval o).run P w = .ok (.value u) (w1.alloc (.cells cells e)))
    (hv : Rel (live N (upd β id (some w1.heap.size)) (upd σ id (some (.c x)))) (w1.alloc (.cells cells e)) (upd β id (some w1.heap.size)) u v) : Good P o N w0 M0 β0 ds β fr σ F id a w v [(id, some (.c x))] := by
  obtain ⟨h1, h2⟩ := R.new id hid cells e x hn hr hB hc
  have hβ0 := (R.heap.dom id hid).1
  exact ⟨u, _, _, .inl hrun, fun i b hb => by rw [upd_ne _ _ (fun e => by subst e; rw [hβ0] at hb; cases hb)]; exact hb, h1, hv⟩
/-- a block gets another name -/
theorem SRel.move (h : SRel N w0 M0 β0 ds β fr σ F a w) {i id : Nat} {x : Ob} {b : Nat} (hx : σ i = some x) (hb : β i = some b) (hid : F id) (hne : i ≠ id) :
    SRel N w0 M0 β0 ds (upd β id (some b)) fr (upd (upd σ i none) id (some x)) (fun j => F j ∧ j ≠ id) a w ∧ (∀ {v z}, Rel (live N β σ) w β v z → Rel (live N (upd β id (some b)) (upd (upd σ i none) id (some x))) w (upd β id (some b)) v z) := by
  obtain ⟨hβ0, hσ0⟩ := h.heap.dom id hid
  have hl0 : ∀ g, own (upd β id (some b)) (upd (upd σ i none) id (some x)) g → own β σ g := by
    rintro g ⟨j, y, h1, h2, h3⟩
    by_cases ej : j = id
    · subst ej
      rw [upd_same] at h1 h3; cases h1; cases h3
      exact ⟨i, x, hx, h2, hb⟩
    · rw [upd_ne _ _ ej] at h1 h3
      by_cases ei : j = i
      · subst ei; simp at h1
      · rw [upd_ne _ _ ei] at h1; exact ⟨j, y, h1, h2, h3⟩
  have hl : ∀ g, g < w.heap.size → live N (upd β id (some b)) (upd (upd σ i none) id (some x)) g → live N β σ g := fun g _ h => h.imp (fun h => h) (hl0 g)
  have k1 : ∀ j g, β j = some g → upd β id (some b) j = some g := fun j g hj => by rw [upd_ne _ _ (fun e => by subst e; rw [hβ0] at hj; cases hj)]; exact hj
  have up : ∀ {v z}, Rel (live N β σ) w β v z → Rel (live N (upd β id (some b)) (upd (upd σ i none) id (some x))) w (upd β id (some b)) v z :=
    Rel.step k1 hl (fun _ _ h _ => h) (fun _ _ h => h)
  have hob : ∀ {j : Nat} {y : Ob}, (upd (upd σ i none) id (some x)) j = some y → ∃ j', σ j' = some y ∧ ∀ g, β j' = some g → upd β id (some b) j = some g := by
    intro j y hy
    by_cases ej : j = id
    · subst ej
      rw [upd_same] at hy; cases hy
      exact ⟨i, hx, fun g hg => by rw [hb] at hg; cases hg; exact upd_same _ _ _⟩
    · rw [upd_ne _ _ ej] at hy
      by_cases ei : j = i
      · subst ei; simp at hy
      · rw [upd_ne _ _ ei] at hy
        exact ⟨j, hy, fun g hg => by rw [upd_ne _ _ ej]; exact hg⟩
  have hlp' : ∀ j L fr S st pe wr, (upd (upd σ i none) id (some x)) j = some (.lp L fr S st pe wr) → ∃ g tm D, upd β id (some b) j = some g ∧ LpAt (live N (upd β id (some b)) (upd (upd σ i none) id (some x))) w (upd β id (some b)) L fr S st pe g tm D := by
    intro j L fr S st pe wr hy
    obtain ⟨j', h1, h2⟩ := hob hy
    obtain ⟨g, tm, D, h3, h4⟩ := h.heap.lp j' L fr S st pe wr h1
    exact ⟨g, tm, D, h2 g h3, h4.step k1 hl (fun _ _ h _ => h) (fun _ _ h => h) rfl⟩
  have hdf' : ∀ j p wr, (upd (upd σ i none) id (some x)) j = some (.df p wr) → ∃ g, upd β id (some b) j = some g ∧ w.heap[g]? = some (.deferred (if p = true then some [] else none)) := by
    intro j p wr hy
    obtain ⟨j', h1, h2⟩ := hob hy
    obtain ⟨g, h3, h4⟩ := h.heap.df j' p wr h1
    exact ⟨g, h2 g h3, h4⟩
  refine ⟨⟨⟨?_, ?_, ?_, ?_, ?_, hlp', hdf'⟩, fun t => up (h.regs t), h.frame, fun g hg => h.old g (hl0 g hg), h.away, h.defers, fun i b hb => k1 i b (h.ext i b hb)⟩, up⟩
  · rintro j ⟨hj, hn⟩
    have hni : j ≠ i := fun e => by subst e; rw [(h.heap.dom j hj).2] at hx; cases hx
    rw [upd_ne _ _ hn, upd_ne _ _ hn, upd_ne _ _ hni]; exact h.heap.dom j hj
  · intro j y g hy hg
    by_cases ej : j = id
    · subst ej
      rw [upd_same] at hg; cases hg
      exact h.heap.off i x b hx hb
    · rw [upd_ne _ _ ej] at hy hg
      by_cases ei : j = i
      · subst ei; simp at hy
      · rw [upd_ne _ _ ei] at hy; exact h.heap.off j y g hy hg
  · have key : ∀ j g, upd β id (some b) j = some g → ((upd (upd σ i none) id (some x)) j).isSome → ∃ j', β j' = some g ∧ (σ j').isSome ∧ (j = id ↔ j' = i) ∧ (j ≠ id → j' = j) := by
      intro j g h1 h2
      by_cases ej : j = id
      · subst ej
        rw [upd_same] at h1; cases h1
        exact ⟨i, hb, by simp [hx], by simp, fun h => absurd rfl h⟩
      · rw [upd_ne _ _ ej] at h1 h2
        by_cases ei : j = i
        · subst ei; simp at h2
        · rw [upd_ne _ _ ei] at h2
          exact ⟨j, h1, h2, by simp [ej, ei], fun _ => rfl⟩
    intro j1 j2 g h1 h2 s1 s2
    obtain ⟨p1, a1, a2, a3, a4⟩ := key j1 g h1 s1
    obtain ⟨p2, b1, b2, b3, b4⟩ := key j2 g h2 s2
    have := h.heap.inj p1 p2 g a1 b1 a2 b2
    subst this
    by_cases e1 : j1 = id
    · rw [e1]; exact (b3.2 (a3.1 e1)).symm
    · by_cases e2 : j2 = id
      · exact absurd (a3.2 (b3.1 e2)) e1
      · rw [← a4 e1, ← b4 e2]
  · intro j y hy
    by_cases ej : j = id
    · subst ej
      rw [upd_same] at hy; cases hy
      obtain ⟨cells, e, h2⟩ := h.heap.phys hx hb
      exact .inr ⟨b, cells, e, by simp, h2.step k1 hl (fun _ _ h _ => h) (fun _ _ h => h) rfl⟩
    · rw [upd_ne _ _ ej] at hy
      by_cases ei : j = i
      · subst ei; simp at hy
      · rw [upd_ne _ _ ei] at hy
        rcases h.heap.blk j y hy with h0 | ⟨b', cells, e, h1, h2⟩
        · exact .inl (by rw [upd_ne _ _ ej]; exact h0)
        · exact .inr ⟨b', cells, e, by rw [upd_ne _ _ ej]; exact h1, h2.step k1 hl (fun _ _ h _ => h) (fun _ _ h => h) rfl⟩
  · intro j es wr hy
    by_cases ej : j = id
    · subst ej
      rw [upd_same] at hy; cases hy
      obtain ⟨b', ms, cl, h1, h2⟩ := h.heap.map i es wr hx
      rw [hb] at h1; cases h1
      exact ⟨b, ms, cl, by simp, h2.step hl (fun _ _ h _ => h) (fun _ _ h => h) rfl⟩
    · rw [upd_ne _ _ ej] at hy
      by_cases ei : j = i
      · subst ei; simp at hy
      · rw [upd_ne _ _ ei] at hy
        obtain ⟨b', ms, cl, h1, h2⟩ := h.heap.map j es wr hy
        exact ⟨b', ms, cl, by rw [upd_ne _ _ ej]; exact h1, h2.step hl (fun _ _ h _ => h) (fun _ _ h => h) rfl⟩
theorem nm_true (k : Nat) (rows : List (List AV)) (wr : Bool) (β : Nat → Option Nat) : Blk.nm ⟨k, rows, wr, true⟩ β = nob := rfl
theorem good_app (R : SRel N w0 M0 β0 ds β fr σ F a w) {o : Oper} {c : Call} {x y : Operand} {e e' : TypeId} {i : TypeInfo} {id : Nat} {v : AV} {wr : Wr} (hid : F id) (ho : o.op = .call c) (hc : c.callee = .builtin .append) (ha : c.args.toList = [x, y])
    (ht : (c.argTypes[0]?).bind P.underlying = some (.slice e)) (ht' : (c.argTypes[1]?).bind P.underlying = some (.slice e')) (hi : P.info? e = some i) (hk : 0 < i.size) (hb0 : 0 < i.bytes) (hz0 : i.zero.map (·.cells.size) = some i.size)
    (hs : hApp σ id i.size i.bytes ((cOpd x).get fr) ((cOpd y).get fr) = some (v, wr)) : Good P o N w0 M0 β0 ds β fr σ F id a w v wr := by
  obtain ⟨t1, ht1, ht2⟩ := Option.bind_eq_some_iff.1 ht
  obtain ⟨t3, ht3, ht4⟩ := Option.bind_eq_some_iff.1 ht'
  obtain ⟨z, hz, hzs⟩ := Option.map_eq_some_iff.1 hz0
  have ha' : c.args = #[x, y] := by apply Array.ext'; simpa using ha
  have hats : ∀ (s v : Value) (ats : Array TypeId), ats[0]? = some t1 → ats[1]? = some t3 → Builtin.append_ ats o.type #[s, v] = Builtin.append_ #[t1, t3] o.type #[s, v] := by
    intro s v ats h1 h2
    unfold Builtin.append_
    simp [h1, h2]
  have hrun0 : ∀ s u W, a.eval x = s → (Builtin.append_ #[t1, t3] o.type #[s, a.eval y]).run P w = .ok u W → (execOp a.eval o).run P w = .ok (.value u) W := by
    intro s u W hsx hr
    rw [← hats _ _ _ ht1 ht3, ← hsx] at hr
    simp [execOp, ho, resolve, hc, ha', invoke, Go.builtin, hr]
  have h := rel_get R x
  unfold hApp at hs
  cases hrows : rowsOf σ i.size ((cOpd y).get fr) with
  | none => simp [hrows] at hs
  | some news =>
    simp only [hrows] at hs
    split at hs
    · rename_i hleaf
      obtain ⟨us, hsrc, hnr, hnc⟩ := rows_src R y hk hrows hleaf ht4
      have husl : us.length = news.length * i.size := hsrc.newsLen
      have hfresh : ∀ (A : Option Addr) (σ1 : Hp) (hσ1 : ∀ j x, σ1 j = some x → ∃ y, σ j = some y ∧ Ob.le x y) (hid1 : σ1 id = none), a.eval x = .slice A 0 0 → news ≠ [] → news.length * i.bytes ≤ 140737488355328 →
          ∃ u w' β', (execOp a.eval o).run P w = .ok (.value u) w' ∧ (∀ i b, β i = some b → β' i = some b) ∧ SRel N w0 M0 β0 ds β' fr (upd σ1 id (some (.c ⟨i.size, news, true, true⟩))) (fun j => F j ∧ j ≠ id) a w' ∧
            Rel (live N β' (upd σ1 id (some (.c ⟨i.size, news, true, true⟩)))) w' β' u (.ow id i.size 0 news.length) := by
        intro A σ1 hσ1 hid1 ex hne hfit
        have hold : (Builtin.firstCells i.size 0 (.slice A 0 0)).run P w.drew = .ok ([] : List Value).toArray w.drew := by
          cases A with
          | none => exact run_firstCells_none w.drew i.size 0 0 0
          | some ad => exact run_firstCells_some w.drew i.size 0 ad 0 0 [] (by simp) (fun j u h => by simp at h)
        have hpos : 0 < news.length := List.length_pos_iff.2 hne
        have hlen0 : ((0 + news.length : Nat) : Int) ≤ 9223372036854775807 := by
          have : news.length * 1 ≤ news.length * i.bytes := Nat.mul_le_mul_left _ hb0
          omega
        have hg := run_append_grow_src (P := P) w t1 t3 o.type e i z ht2 hi hz A 0 0 [] hold (a.eval y) _ us hsrc (by omega) hlen0
          (by rw [nextslicecap_zero (by omega)]; simp only [Nat.zero_add]; omega)
        simp only [Nat.zero_add, List.nil_append] at hg
        obtain ⟨R1, up1⟩ := (drew_world R).less hσ1
        have hge := grown_ge w news.length 0 e
        have hnew := Good.new' (P := P) (o := o) (w := w) (v := .ow id i.size 0 news.length) (w1 := w.drew) R1 hid (cells := us.toArray ++ Builtin.zeroCells z.cells (grownCap w news.length 0 e - news.length)) (e := e) (x := ⟨i.size, news, true, true⟩) (by simp only [Array.size_append, List.size_toArray, husl]; omega) hnr
          (by have : news.length * 1 ≤ news.length * i.bytes := Nat.mul_le_mul_left _ hb0
              show news.length ≤ _; omega) (by
            have := rows_append (β := nob) (M := live N β σ1) (w := w.drew) (k := i.size) (old := []) (us := []) (us' := us) (tail := Builtin.zeroCells z.cells (grownCap w news.length 0 e - news.length)) (news := news) (by simp) (fun p q r z h => by simp at h) (fun r h => by cases h)
              (fun p q r z' hp hq => by obtain ⟨u, hu, hr⟩ := hnc p q r z' hp hq; exact ⟨u, hu, up1 (rel_drew hr)⟩)
            simpa [nm_true] using this) (u := .slice (some ⟨w.heap.size, 0, none⟩) news.length (grownCap w news.length 0 e)) (hrun0 _ _ _ ex hg) (by
            have := Rel.ow (β := upd β id (some w.heap.size)) (M := live N (upd β id (some w.heap.size)) (upd σ1 id (some (.c ⟨i.size, news, true, true⟩)))) (w := w.drew.alloc (.cells (us.toArray ++ Builtin.zeroCells z.cells (grownCap w news.length 0 e - news.length)) e)) id i.size 0 news.length (grownCap w news.length 0 e) w.heap.size e _ (by simp) hge
              (by unfold World.shape?; rw [show w.heap.size = w.drew.heap.size from rfl, heap_alloc_new w.drew _]) (by
                simp only [Array.size_append, List.size_toArray, husl, Nat.zero_add, Builtin.zeroCells, Array.size_map, Array.size_range]
                rw [← hzs, ← Nat.add_mul, Nat.add_sub_cancel' hge]; exact Nat.le_refl _)
            simpa using this)
        obtain ⟨u, w', β', g1, g2, g3, g4⟩ := hnew
        rcases g1 with g1 | ⟨g1, _⟩
        · exact ⟨u, w', β', g1, g2, g3, g4⟩
        · rw [hrun0 _ _ _ ex hg] at g1; cases g1
      have hnone : ∀ A, a.eval x = .slice A 0 0 → news = [] → (execOp a.eval o).run P w = .ok (.value (.slice A 0 0)) w := by
        intro A ex hn
        subst hn
        have hus : us = [] := List.eq_nil_of_length_eq_zero (by simpa using husl)
        subst hus
        refine hrun0 _ _ _ ex ?_
        have hl := hsrc.len w
        have hcells := hsrc.cells
        simp only [List.length_nil] at hl hcells
        cases A with
        | none => simp [Builtin.append_, run_underlying ht2, run_underlying ht4, sizeOf, typeInfo, hi, hl, hcells]
        | some ad => simp [Builtin.append_, run_underlying ht2, run_underlying ht4, sizeOf, typeInfo, hi, hl, hcells, storeCells, Addr.add]; try rfl
      generalize (cOpd x).get fr = X at h hs
      split at hs
      · generalize hu : a.eval x = u at h
        cases h with
        | em A =>
        split at hs
        · rename_i hfit
          split at hs
          · simp only [Option.some.injEq, Prod.mk.injEq] at hs
            obtain ⟨rfl, rfl⟩ := hs
            exact .pure R (hnone A hu rfl) (.em _)
          · rename_i r0 rest
            simp only [Option.some.injEq, Prod.mk.injEq] at hs
            obtain ⟨rfl, rfl⟩ := hs
            obtain ⟨u, w', β', g1, g2, g3, g4⟩ := hfresh A σ (fun j x h => ⟨x, h, .refl x⟩) (R.heap.dom id hid).2 hu (by simp) hfit
            exact ⟨u, w', β', .inl g1, g2, g3, g4⟩
        · cases hs
      · rename_i id0 k' len
        cases hσ : σ id0 with
        | none => simp [hσ] at hs
        | some b00 =>
        cases b00 with
        | m es wr => simp [hσ] at hs
        | lp L fr S st pe wr => simp [hσ] at hs
        | df o wr => simp [hσ] at hs
        | c b0 =>
          simp only [hσ] at hs
          split at hs
          · rename_i hcond
            obtain ⟨rfl, hbk, hbw, hbcl, hbl, hfit, hne⟩ := hcond
            simp only [Option.some.injEq, Prod.mk.injEq] at hs
            obtain ⟨rfl, rfl⟩ := hs
            generalize hu : a.eval x = u at h
            have hσ1 : ∀ j x, (upd σ id0 none) j = some x → ∃ y, σ j = some y ∧ Ob.le x y := by
              intro j x hj
              by_cases ej : j = id0
              · subst ej; simp at hj
              · rw [upd_ne _ _ ej] at hj; exact ⟨x, hj, .refl x⟩
            rcases rel_ow h rfl with ⟨_, rfl, A, rfl⟩ | ⟨cap, b, ee, nn, rfl, hb, hl, hsh, hnn⟩
            · have hb0n : b0.rows = [] := List.eq_nil_of_length_eq_zero hbl
              by_cases hnn : news = []
              · have hrun := hnone A hu hnn
                subst hnn
                obtain ⟨R1, up1⟩ := R.less hσ1
                obtain ⟨R2, up2⟩ := (R1.free (F' := F) (fun _ h => h)).imagine id hid i.size true
                exact ⟨_, w, β, .inl hrun, fun _ _ h => h, by simpa [applyW, hb0n] using R2, .ow0 _ _ _⟩
              · obtain ⟨u, w', β', g1, g2, g3, g4⟩ := hfresh A (upd σ id0 none) hσ1 (by rw [upd_ne _ _ (Ne.symm hne)]; exact (R.heap.dom id hid).2) hu hnn (by simpa using hfit)
                exact ⟨u, w', β', .inl g1, g2, by simpa [applyW, hb0n] using g3, by simpa [applyW, hb0n] using g4⟩
            obtain ⟨cells, e3, h2, h3, h4, h4', h5⟩ := R.heap.phys hσ hb
            have hnn' : cells.size = nn := by simp only [World.shape?, h2, Option.some.injEq, Prod.mk.injEq] at hsh; exact hsh.2
            subst hnn'
            simp only [Nat.zero_add] at hnn
            have hold : ∀ r ∈ b0.rows, r.length = i.size := fun r hr => by rw [← hbk]; exact h4 r hr
            rw [hbk] at h5 h3
            have enm : b0.nm β = nob := by unfold Blk.nm; rw [if_pos hbcl]; rfl
            rw [enm] at h5
            rw [hbl] at h3
            simp only [Nat.zero_mul] at hu
            by_cases hroom : len + news.length ≤ cap
            · have hbd : len * i.size + us.length ≤ cells.size := by
                rw [husl, ← Nat.add_mul]; exact Nat.le_trans (Nat.mul_le_mul_right _ hroom) hnn
              have hst := run_storeCells_at (P := P) b (len * i.size) e3 us 0 cells w h2 (by omega) hsrc.one
              simp only [Nat.add_zero] at hst
              have hsz' : (cells.toList.take (len * i.size) ++ us ++ cells.toList.drop (len * i.size + us.length)).toArray.size = cells.size := by
                simp only [List.size_toArray, List.length_append, List.length_take, List.length_drop, Array.length_toList]; omega
              have hC : ∀ (p q : Nat) (r : List AV) (v : AV), (b0.rows ++ news)[p]? = some r → r[q]? = some v → ∃ u, (cells.toList.take (len * i.size) ++ us ++ cells.toList.drop (len * i.size + us.length)).toArray[p * i.size + q]? = some u ∧ Rel (live N β σ) w nob u v := by
                have := rows_append (β := nob) (M := live N β σ) (w := w) (k := i.size) (old := b0.rows) (us := cells.toList.take (len * i.size)) (us' := us) (tail := (cells.toList.drop (len * i.size + us.length)).toArray) (news := news) (by simp [hbl]; omega)
                  (fun p q r v hp hq => by
                    obtain ⟨u, hu, hr⟩ := h5 p q r v hp hq
                    refine ⟨u, ?_, hr⟩
                    have hpl := (List.getElem?_eq_some_iff.1 hp).1
                    have hql := (List.getElem?_eq_some_iff.1 hq).1
                    rw [hold r (List.mem_of_getElem? hp)] at hql
                    have : (p + 1) * i.size ≤ len * i.size := Nat.mul_le_mul_right _ (by omega)
                    rw [Nat.add_mul] at this
                    rw [List.getElem?_take, if_pos (by omega)]; simpa using hu) hold hnc
                simpa using this
              obtain ⟨g1, g2⟩ := R.set hσ hbw hb h2 _ hsz' ⟨i.size, b0.rows ++ news, true, true⟩ (by rw [hsz']; simp only [List.length_append, hbl]; exact Nat.le_trans (Nat.mul_le_mul_right _ hroom) hnn)
                (fun r hr => by (rcases List.mem_append.1 hr with hr | hr <;> first | exact hold r hr | exact hnr r hr))
                (by have : (len + news.length) * 1 ≤ (len + news.length) * i.bytes := Nat.mul_le_mul_left _ hb0
                    simp only [List.length_append, hbl]; omega) hC
              obtain ⟨g3, g4⟩ := g1.move (i := id0) (id := id) (x := .c ⟨i.size, b0.rows ++ news, true, true⟩) (b := b) (by simp) hb hid hne
              have hσ' : upd (upd (upd σ id0 (some (.c ⟨i.size, b0.rows ++ news, true, true⟩))) id0 none) id (some (.c ⟨i.size, b0.rows ++ news, true, true⟩)) = upd (upd σ id0 none) id (some (.c ⟨i.size, b0.rows ++ news, true, true⟩)) := by
                funext j
                simp only [upd]
                by_cases e1 : j = id
                · simp [e1]
                · by_cases e2 : j = id0
                  · simp [e2]
                  · simp [e1, e2]
              rw [hσ'] at g3 g4
              refine ⟨.slice (some ⟨b, 0, none⟩) (len + news.length) cap, _, _, .inl ?_, ?_, g3, ?_⟩
              · refine hrun0 _ _ _ hu ?_
                simp [Builtin.append_, run_underlying ht2, run_underlying ht4, sizeOf, typeInfo, hi, hsrc.len, hroom, hsrc.cells, add_none, hst]
              · intro j g hj
                rw [upd_ne _ _ (fun e => by subst e; rw [(R.heap.dom _ hid).1] at hj; cases hj)]; exact hj
              · have := Rel.ow (β := upd β id (some b)) (M := live N (upd β id (some b)) (upd (upd σ id0 none) id (some (.c ⟨i.size, b0.rows ++ news, true, true⟩)))) (w := w.setRow b (cells.toList.take (len * i.size) ++ us ++ cells.toList.drop (len * i.size + us.length)).toArray) id i.size 0 (len + news.length) cap b e3 cells.size (by simp) hroom
                  (by unfold World.shape?; rw [setRow_heap w b cells _ _ _ h2]; simp only [hsz']) (by simpa using hnn)
                simpa [applyW] using this
            · have hfc : (Builtin.firstCells i.size len (.slice (some ⟨b, 0, none⟩) len cap)).run P w.drew = .ok (cells.toList.take (len * i.size)).toArray w.drew := by
                refine run_firstCells_some w.drew i.size len ⟨b, 0, none⟩ len cap _ (by simp; omega) (fun j u hu => ?_)
                rw [List.getElem?_take] at hu
                split at hu
                · rw [add_none, Nat.zero_add]; exact blk_cell (w := w.drew) h2 (by simpa using hu)
                · cases hu
              have hlen0 : ((len + news.length : Nat) : Int) ≤ 9223372036854775807 := by
                have : (len + news.length) * 1 ≤ (len + news.length) * i.bytes := Nat.mul_le_mul_left _ hb0
                omega
              have hg := run_append_grow_src (P := P) w t1 t3 o.type e i z ht2 hi hz (some ⟨b, 0, none⟩) len cap _ hfc (a.eval y) _ us hsrc (by omega) hlen0 (growslice_fits (by omega) (by omega))
              obtain ⟨g1, _⟩ := (drew_world R).less hσ1
              have g2 : ∀ {v z}, Rel (live N β σ) w nob v z → Rel (live N β (upd σ id0 none)) w.drew nob v z := fun hr => ((drew_world R).less hσ1).2 (rel_drew hr)
              have hge := grown_ge w (len + news.length) cap e
              have hnew := Good.new' (P := P) (o := o) (w := w) (w1 := w.drew) (u := .slice (some ⟨w.heap.size, 0, none⟩) (len + news.length) (grownCap w (len + news.length) cap e)) (v := .ow id i.size 0 (len + news.length)) g1 hid (cells := (cells.toList.take (len * i.size) ++ us).toArray ++ Builtin.zeroCells z.cells (grownCap w (len + news.length) cap e - (len + news.length))) (e := e) (x := ⟨i.size, b0.rows ++ news, true, true⟩)
                (by simp only [Array.size_append, List.size_toArray, List.length_append, List.length_take, Array.length_toList, husl, hbl]; rw [Nat.min_eq_left h3, Nat.add_mul]; omega)
                (fun r hr => by (rcases List.mem_append.1 hr with hr | hr <;> first | exact hold r hr | exact hnr r hr))
                (by have : (len + news.length) * 1 ≤ (len + news.length) * i.bytes := Nat.mul_le_mul_left _ hb0
                    simp only [List.length_append, hbl]; omega)
                (rows_append (β := nob) (w := w.drew) (k := i.size) (old := b0.rows) (us := cells.toList.take (len * i.size)) (us' := us) (by simp [hbl]; omega)
                  (fun p q r v hp hq => by
                    obtain ⟨u, hu, hr⟩ := h5 p q r v hp hq
                    refine ⟨u, ?_, g2 hr⟩
                    have hpl := (List.getElem?_eq_some_iff.1 hp).1
                    have hql := (List.getElem?_eq_some_iff.1 hq).1
                    rw [hold r (List.mem_of_getElem? hp)] at hql
                    have : (p + 1) * i.size ≤ len * i.size := Nat.mul_le_mul_right _ (by omega)
                    rw [Nat.add_mul] at this
                    rw [List.getElem?_take, if_pos (by omega)]; simpa using hu) hold
                  (fun p q r v hp hq => by obtain ⟨u, hu, hr⟩ := hnc p q r v hp hq; exact ⟨u, hu, g2 hr⟩))
                (hrun0 _ _ _ hu hg)
                (by
                  have := Rel.ow (β := upd β id (some w.heap.size)) (M := live N (upd β id (some w.heap.size)) (upd (upd σ id0 none) id (some (.c ⟨i.size, b0.rows ++ news, true, true⟩)))) (w := w.drew.alloc (.cells ((cells.toList.take (len * i.size) ++ us).toArray ++ Builtin.zeroCells z.cells (grownCap w (len + news.length) cap e - (len + news.length))) e)) id i.size 0 (len + news.length) (grownCap w (len + news.length) cap e) w.heap.size e _ (by simp) hge
                    (by unfold World.shape?; rw [show w.heap.size = w.drew.heap.size from rfl, heap_alloc_new w.drew _]) (by
                      simp only [Array.size_append, List.size_toArray, List.length_append, List.length_take, Array.length_toList, husl, Nat.zero_add, Builtin.zeroCells, Array.size_map, Array.size_range]
                      rw [Nat.min_eq_left h3, ← hzs, ← Nat.add_mul, ← Nat.add_mul, Nat.add_sub_cancel' hge]; exact Nat.le_refl _)
                  simpa using this)
              exact hnew
          · cases hs
      · cases hs
    · cases hs
end
end Go.Proofs.Ytlhnncmflnjinaa.Am

set_option linter.unusedSimpArgs false
set_option linter.unusedVariables false
namespace Go.Proofs.Ytlhnncmflnjinaa.Am
open Go Go.RowKit

section
variable {P : Program} {N : Nat → Prop} {w0 : World} {M0 : Nat → Prop} {β0 : Nat → Option Nat} {ds : List Deferred} {β : Nat → Option Nat} {fr : Regs} {σ : Hp} {F : Nat → Prop} {a : Act} {w : World}
theorem beq_bytes {s b : ByteArray} : (s == b) = decide (s.data.toList = b.data.toList) := by
  have key : s = b ↔ s.data.toList = b.data.toList := by
    constructor
    · rintro rfl; rfl
    · intro e
      cases s; cases b
      simp only at e
      congr 1
      exact Array.toList_inj.1 e
  cases hb : (s == b) with
  | true => rw [decide_eq_true (key.1 ((MapKept.bytes_beq _ _).1 hb))]
  | false =>
    rw [decide_eq_false]
    intro e
    rw [(MapKept.bytes_beq _ _).2 (key.2 e)] at hb
    cases hb
/-- what is found is what is said to be found -/
theorem findNow_keyAt {M : Nat → Prop} {s : ByteArray} {l : List UInt8} (hl : s.data.toList = l) : ∀ (es : List (AV × AV)) (ms : List MapEntry) (n : Nat) (r : Option Nat), ms.length = es.length →
    (∀ (p : Nat) (e : AV × AV) (m : MapEntry), es[p]? = some e → ms[p]? = some m → Rel M w nob m.key e.1 ∧ Rel M w nob m.val e.2) → keyAt l n es = some r →
    (r = none ∧ Instr.findNow .string (.string s) ms n = some none) ∨ ∃ (q : Nat) (m : MapEntry), r = some (n + q) ∧ ms[q]? = some m ∧ m.key = .string s ∧ Instr.findNow .string (.string s) ms n = some (some (n + q, m.val))
  | [], ms, n, r, hlen, _, h => by
    have : ms = [] := List.eq_nil_of_length_eq_zero hlen
    subst this
    simp only [keyAt, Option.some.injEq] at h
    exact .inl ⟨h.symm, rfl⟩
  | e :: es, ms, n, r, hlen, hr, h => by
    cases ms with
    | nil => simp at hlen
    | cons m ms =>
      simp only [keyAt] at h
      split at h
      · rename_i k v
        have hk := (hr 0 _ m rfl rfl).1
        have hkey : ∃ b : ByteArray, m.key = .string b ∧ b.data.toList = k := by
          generalize m.key = kk at hk
          cases hk with
          | s b _ hb _ => exact ⟨b, rfl, hb⟩
        obtain ⟨b, hb1, hb2⟩ := hkey
        have hsame : Instr.sameNow .string (.string s) m.key = some (decide (l = k)) := by
          rw [hb1]; simp only [Instr.sameNow, beq_bytes, hl, hb2]
        split at h
        · rename_i e1
          cases h
          refine .inr ⟨0, m, rfl, rfl, ?_, ?_⟩
          · rw [hb1]; congr 1
            cases s; cases b
            simp only at hl hb2
            congr 1
            exact Array.toList_inj.1 (by rw [hb2, hl, e1])
          · simp only [Instr.findNow, hsame, decide_eq_true e1.symm]; rfl
        · rename_i e1
          have hstep : Instr.findNow .string (.string s) (m :: ms) n = Instr.findNow .string (.string s) ms (n + 1) := by
            simp only [Instr.findNow, hsame, decide_eq_false (fun e => e1 e.symm : ¬ l = k)]
          rw [hstep]
          rcases findNow_keyAt hl es ms (n + 1) r (by simpa using hlen) (fun p e m hp hm => hr (p + 1) e m (by simpa using hp) (by simpa using hm)) h with ⟨g1, g2⟩ | ⟨q, m', g1, g2, g3, g4⟩
          · exact .inl ⟨g1, g2⟩
          · refine .inr ⟨q + 1, m', by rw [g1]; congr 1; omega, by simpa using g2, g3, by rw [g4]; congr 3; omega⟩
      · cases h
theorem good_mkm (R : SRel N w0 M0 β0 ds β fr σ F a w) {o : Oper} {t : TypeId} {id : Nat} {v : AV} {wr : Wr} (hid : F id) (ho : o.op = .makeMap t none) (hs : hMkm id = some (v, wr)) : Good P o N w0 M0 β0 ds β fr σ F id a w v wr := by
  simp only [hMkm, Option.some.injEq, Prod.mk.injEq] at hs
  obtain ⟨rfl, rfl⟩ := hs
  obtain ⟨h1, h2⟩ := R.newObj id hid (.map #[] 0) (.m [] true) (fun y h => by cases h) (fun es wr h => by cases h; exact ⟨#[], 0, rfl, rfl, fun p e m h => by simp at h⟩) (fun _ _ _ _ _ _ h => by cases h) (fun _ _ h => by cases h)
  have hβ0 := (R.heap.dom id hid).1
  refine ⟨.map (some w.heap.size), _, _, .inl ?_, fun i b hb => by rw [upd_ne _ _ (fun e => by subst e; rw [hβ0] at hb; cases hb)]; exact hb, h1, .mp _ _ (by simp)⟩
  simp [execOp, ho, Instr.makeMap] <;> rfl
theorem good_lkp (R : SRel N w0 M0 β0 ds β fr σ F a w) {o : Oper} {t kt e : TypeId} {z : Value} {ok : Bool} {x k : Operand} {v : AV} (ho : o.op = .lookup t x k ok) (ht : P.underlying t = some (.map kt e)) (hk : P.underlying kt = some .string) (hz : (P.info? e).bind (·.zero) = some z)
    (hs : aLkp σ z ok ((cOpd x).get fr) ((cOpd k).get fr) = some v) : GoodR P o N β σ a w v := by
  have h1 := rel_get R x
  have h2 := rel_get R k
  obtain ⟨it, hit, hz2⟩ := Option.bind_eq_some_iff.1 hz
  unfold aLkp at hs
  split at hs
  · rename_i i l g1 g2
    rw [g1] at h1; rw [g2] at h2
    generalize hu1 : a.eval x = u1 at h1
    generalize hu2 : a.eval k = u2 at h2
    cases h1 with
    | mp _ b hb =>
    cases h2 with
    | s s _ hl hbl =>
    split at hs
    · rename_i es wr hσ
      obtain ⟨b', ms, cl, hb', hh, hlen, hrel⟩ := R.heap.map i es wr hσ
      have eb : b' = b := by rw [hb] at hb'; cases hb'; rfl
      subst eb
      have hlen' : ms.toList.length = es.length := by simpa using hlen
      have hrel' : ∀ (p : Nat) (e : AV × AV) (m : MapEntry), es[p]? = some e → ms.toList[p]? = some m → Rel (live N β σ) w nob m.key e.1 ∧ Rel (live N β σ) w nob m.val e.2 := fun p e m hp hm => hrel p e m hp (by simpa using hm)
      have hd : MapKept.IsKey .string (.string s) := trivial
      split at hs
      · rename_i p hp
        rcases findNow_keyAt hl es ms.toList 0 _ hlen' hrel' hp with ⟨c, _⟩ | ⟨q, m, c1, c2, _, c3⟩
        · cases c
        · simp only [Nat.zero_add, Option.some.injEq] at c1 c3
          subst c1
          split at hs
          · rename_i kk vv hes
            have hv := (hrel' p _ m hes c2).2
            have hv := rel_sc hv
            have hrun : (Instr.lookup t (.map (some b')) (.string s) ok).run P w = .ok (if ok then .tuple #[m.val, .bool true] else m.val) w := by
              simp [Instr.lookup, run_underlying ht, MapKept.run_getObj_map hh, MapKept.run_checkKey hk hd, MapKept.run_findKey hk c3, Result.andThen]
            cases ok
            · cases hs
              exact ⟨_, by simp [execOp, ho, hu1, hu2, hrun] <;> rfl, by rw [hv]; exact .sc _⟩
            · cases hs
              refine ⟨_, by simp [execOp, ho, hu1, hu2, hrun] <;> rfl, ?_⟩
              rw [hv]
              refine .tp _ _ (by simp) (fun i u z hu hz => ?_)
              match i, hu, hz with
              | 0, hu, hz => cases hu; cases hz; exact .sc _
              | 1, hu, hz => cases hu; cases hz; exact .sc _
              | i + 2, hu, hz => cases hz
          · cases hs
      · rename_i hp
        rcases findNow_keyAt hl es ms.toList 0 _ hlen' hrel' hp with ⟨_, c3⟩ | ⟨q, m, c1, _⟩
        · have hrun : (Instr.lookup t (.map (some b')) (.string s) ok).run P w = .ok (if ok then .tuple #[z, .bool false] else z) w := by
            simp [Instr.lookup, run_underlying ht, MapKept.run_getObj_map hh, MapKept.run_checkKey hk hd, MapKept.run_findKey hk c3, Result.andThen, zeroValue, typeInfo, hit, hz2]
          cases ok
          · cases hs
            exact ⟨_, by simp [execOp, ho, hu1, hu2, hrun] <;> rfl, .sc _⟩
          · cases hs
            refine ⟨_, by simp [execOp, ho, hu1, hu2, hrun] <;> rfl, ?_⟩
            refine .tp _ _ (by simp) (fun i u z hu hz => ?_)
            match i, hu, hz with
            | 0, hu, hz => cases hu; cases hz; exact .sc _
            | 1, hu, hz => cases hu; cases hz; exact .sc _
            | i + 2, hu, hz => cases hz
        · cases c1
      · cases hs
    · cases hs
  · cases hs
/-- a map of the call's own is written -/
theorem SRel.setMap (R : SRel N w0 M0 β0 ds β fr σ F a w) {i b : Nat} {es es' : List (AV × AV)} {ms ms' : Array MapEntry} {cl cl' : Nat} (hσ : σ i = some (.m es true)) (hb : β i = some b) (hh : w.heap[b]? = some (.map ms cl)) (hlen : ms'.size = es'.length)
    (hrel : ∀ (p : Nat) (e : AV × AV) (m : MapEntry), es'[p]? = some e → ms'[p]? = some m → Rel (live N β σ) w nob m.key e.1 ∧ Rel (live N β σ) w nob m.val e.2) :
    SRel N w0 M0 β0 ds β fr (upd σ i (some (.m es' true))) F a { w with heap := w.heap.setIfInBounds b (.map ms' cl') } := by
  obtain ⟨g1, g2⟩ := MapKept.heap_set (o' := .map ms' cl') hh
  refine (R.setObj (w' := { w with heap := w.heap.setIfInBounds b (.map ms' cl') }) hσ rfl hb rfl rfl rfl (by simp) g2 ?_ (.m es' true) (fun _ _ _ _ _ _ h => by cases h) (fun _ _ h => by cases h) (fun z h => by cases h) (fun es wr h => by cases h; exact ⟨ms', cl', g1, hlen, hrel⟩)).1
  intro s hs
  simp only [World.shape?, hh] at hs
  cases hs
theorem good_mup (R : SRel N w0 M0 β0 ds β fr σ F a w) {o : Oper} {t kt e : TypeId} {x k y : Operand} {id : Nat} {v : AV} {wr : Wr} (ho : o.op = .mapUpdate t x k y) (ht : P.underlying t = some (.map kt e)) (hk : P.underlying kt = some .string)
    (hs : hMup σ ((cOpd x).get fr) ((cOpd k).get fr) ((cOpd y).get fr) = some (v, wr)) : Good P o N w0 M0 β0 ds β fr σ F id a w v wr := by
  have h1 := rel_get R x
  have h2 := rel_get R k
  have h3 := rel_get R y
  unfold hMup at hs
  split at hs
  · rename_i i l uu g1 g2 g3
    rw [g1] at h1; rw [g2] at h2; rw [g3] at h3
    have e3 := rel_sc h3
    generalize hu1 : a.eval x = u1 at h1
    generalize hu2 : a.eval k = u2 at h2
    cases h1 with
    | mp _ b hb =>
    cases h2 with
    | s s _ hl hbl =>
    split at hs
    · rename_i es hσ
      obtain ⟨b', ms, cl, hb', hh, hlen, hrel⟩ := R.heap.map i es true hσ
      have eb : b' = b := by rw [hb] at hb'; cases hb'; rfl
      subst eb
      have hlen' : ms.toList.length = es.length := by simpa using hlen
      have hrel' : ∀ (p : Nat) (e : AV × AV) (m : MapEntry), es[p]? = some e → ms.toList[p]? = some m → Rel (live N β σ) w nob m.key e.1 ∧ Rel (live N β σ) w nob m.val e.2 := fun p e m hp hm => hrel p e m hp (by simpa using hm)
      have hd : MapKept.IsKey .string (.string s) := trivial
      split at hs
      · rename_i p hp
        rcases findNow_keyAt hl es ms.toList 0 _ hlen' hrel' hp with ⟨c, _⟩ | ⟨q, m, c1, c2, c4, c3⟩
        · cases c
        · simp only [Nat.zero_add, Option.some.injEq] at c1 c3
          subst c1
          simp only [Option.some.injEq, Prod.mk.injEq] at hs
          obtain ⟨rfl, rfl⟩ := hs
          have hj : ms[p]? = some m := by simpa using c2
          have hrun : (Instr.mapUpdate t (.map (some b')) (.string s) uu).run P w = .ok () { w with heap := w.heap.setIfInBounds b' (.map (ms.modify p fun e => { e with key := .string s, val := uu }) cl) } := by
            simp [Instr.mapUpdate, run_underlying ht, MapKept.run_getObj_map hh, MapKept.run_checkKey hk hd, MapKept.run_findKey hk c3, hj, c4, MapKept.run_keyThatStays hd, MapKept.run_setObj_map _ hh, Result.andThen]
          refine ⟨undef, _, β, .inr ⟨by simp [execOp, ho, hu1, hu2, e3, hrun] <;> rfl, rfl⟩, fun _ _ h => h, (R.setMap (ms' := ms.modify p fun e => { e with key := .string s, val := uu }) (es' := es.set p (.s l, .sc uu)) (cl' := cl) hσ hb hh (by simp [hlen]) ?_).free (fun _ h => h.1), ?_⟩
          · intro p' e' m' hp' hm'
            rw [List.getElem?_set] at hp'
            rw [Array.getElem?_modify] at hm'
            by_cases ep : p = p'
            · subst ep
              rw [if_pos rfl] at hp' hm'
              split at hp'
              · cases hp'
                rw [hj] at hm'
                cases hm'
                exact ⟨.s s _ hl hbl, .sc _⟩
              · cases hp'
            · rw [if_neg ep] at hp' hm'
              exact hrel p' e' m' hp' hm'
          · exact .tp _ _ rfl (fun i u z hu hz => by simp at hz)
      · rename_i hp
        rcases findNow_keyAt hl es ms.toList 0 _ hlen' hrel' hp with ⟨_, c3⟩ | ⟨q, m, c1, _⟩
        · simp only [Option.some.injEq, Prod.mk.injEq] at hs
          obtain ⟨rfl, rfl⟩ := hs
          have hrun : (Instr.mapUpdate t (.map (some b')) (.string s) uu).run P w = .ok () { w with heap := w.heap.setIfInBounds b' (.map (ms.push { key := .string s, val := uu, born := cl }) (cl + 1)) } := by
            simp [Instr.mapUpdate, run_underlying ht, MapKept.run_getObj_map hh, MapKept.run_checkKey hk hd, MapKept.run_findKey hk c3, MapKept.run_setObj_map _ hh, Result.andThen]
          refine ⟨undef, _, β, .inr ⟨by simp [execOp, ho, hu1, hu2, e3, hrun] <;> rfl, rfl⟩, fun _ _ h => h, (R.setMap (ms' := ms.push { key := .string s, val := uu, born := cl }) (es' := es ++ [((AV.s l, AV.sc uu) : AV × AV)]) (cl' := cl + 1) hσ hb hh (by simp [hlen]) ?_).free (fun _ h => h.1), ?_⟩
          · intro p' e' m' hp' hm'
            by_cases ep : p' < es.length
            · rw [List.getElem?_append_left ep] at hp'
              rw [Array.getElem?_push, if_neg (by omega)] at hm'
              exact hrel p' e' m' hp' hm'
            · have hlt := (List.getElem?_eq_some_iff.1 hp').1
              simp only [List.length_append, List.length_cons, List.length_nil] at hlt
              have : p' = es.length := by omega
              subst this
              rw [List.getElem?_append_right (by omega)] at hp'
              simp only [Nat.sub_self, List.getElem?_cons_zero, Option.some.injEq] at hp'
              rw [Array.getElem?_push, if_pos (by omega)] at hm'
              cases hp'; cases hm'
              exact ⟨.s s _ hl hbl, .sc _⟩
          · exact .tp _ _ rfl (fun i u z hu hz => by simp at hz)
        · cases c1
      · cases hs
    · cases hs
  · cases hs
theorem good_clm (R : SRel N w0 M0 β0 ds β fr σ F a w) {o : Oper} {c : Call} {x : Operand} {kt e : TypeId} {id : Nat} {v : AV} {wr : Wr} (ho : o.op = .call c) (hc : c.callee = .builtin .clear) (ha : c.args.toList = [x]) (ht : (c.argTypes[0]?).bind P.underlying = some (.map kt e))
    (hs : hClm σ ((cOpd x).get fr) = some (v, wr)) : Good P o N w0 M0 β0 ds β fr σ F id a w v wr := by
  obtain ⟨t1, ht1, ht2⟩ := Option.bind_eq_some_iff.1 ht
  have ha' : c.args = #[x] := by apply Array.ext'; simpa using ha
  have h1 := rel_get R x
  unfold hClm at hs
  split at hs
  · rename_i i g1
    rw [g1] at h1
    generalize hu1 : a.eval x = u1 at h1
    cases h1 with
    | mp _ b hb =>
    split at hs
    · rename_i es hσ
      simp only [Option.some.injEq, Prod.mk.injEq] at hs
      obtain ⟨rfl, rfl⟩ := hs
      obtain ⟨b', ms, cl, hb', hh, hlen, hrel⟩ := R.heap.map i es true hσ
      have eb : b' = b := by rw [hb] at hb'; cases hb'; rfl
      subst eb
      have hrun : (Builtin.clear_ c.argTypes o.type #[.map (some b')]).run P w = .ok (.tuple #[]) { w with heap := w.heap.setIfInBounds b' (.map #[] cl) } := by
        simp [Builtin.clear_, ht1, run_underlying ht2, MapKept.run_getObj_map hh, MapKept.run_setObj_map _ hh, Result.andThen]
      refine ⟨.tuple #[], _, β, .inl ?_, fun _ _ h => h, (R.setMap (ms' := #[]) (es' := []) (cl' := cl) hσ hb hh rfl (fun p e m h => by simp at h)).free (fun _ h => h.1), .tp _ _ rfl (fun i u z hu hz => by simp at hz)⟩
      simp [execOp, ho, resolve, hc, ha', hu1, invoke, Go.builtin, hrun]
    · cases hs
  · cases hs
end
end Go.Proofs.Ytlhnncmflnjinaa.Am

set_option linter.unusedSimpArgs false
set_option linter.unusedVariables false
namespace Go.Proofs.Ytlhnncmflnjinaa.Am
open Go Go.RowKit

section
variable {P : Program} {N : Nat → Prop} {w0 : World} {M0 : Nat → Prop} {β0 : Nat → Option Nat} {ds : List Deferred} {β : Nat → Option Nat} {fr : Regs} {σ : Hp} {F : Nat → Prop} {a : Act} {w : World}

/-- the first of two lists -/
def One (k : Nat) (x y : AV) (p : Bool) : Prop :=
  (k = 0 ∧ ∃ kk a b, x = .sc (.int kk a) ∧ y = .sc (.int kk b) ∧ p = (a == b)) ∨ (k = 1 ∧ ∃ a b, x = .sc (.bool a) ∧ y = .sc (.bool b) ∧ p = (a == b)) ∨ (k = 2 ∧ ∃ a b, x = .s a ∧ y = .s b ∧ p = (a == b))
theorem eqK_nil {l m : List AV} {r : Bool} (h : eqK [] l m = some r) : l = [] ∧ m = [] ∧ r = true := by
  cases l <;> cases m <;> simp [eqK] at h
  exact ⟨rfl, rfl, h⟩
theorem eqK_cons {k : Nat} {ks : List Nat} {l m : List AV} {r : Bool} (h : eqK (k :: ks) l m = some r) : ∃ x l' y m' p q, l = x :: l' ∧ m = y :: m' ∧ eqK ks l' m' = some q ∧ r = (p && q) ∧ One k x y p := by
  generalize hK : k :: ks = K at h
  unfold eqK at h
  split at h
  · cases hK
  · cases hK
    split at h
    · rename_i hk; subst hk
      obtain ⟨q, h', rfl⟩ := Option.map_eq_some_iff.1 h
      exact ⟨_, _, _, _, _, q, rfl, rfl, h', rfl, .inl ⟨rfl, _, _, _, rfl, rfl, rfl⟩⟩
    · cases h
  · cases hK
    obtain ⟨q, h', rfl⟩ := Option.map_eq_some_iff.1 h
    exact ⟨_, _, _, _, _, q, rfl, rfl, h', rfl, .inr (.inl ⟨rfl, _, _, rfl, rfl, rfl⟩)⟩
  · cases hK
    obtain ⟨q, h', rfl⟩ := Option.map_eq_some_iff.1 h
    exact ⟨_, _, _, _, _, q, rfl, rfl, h', rfl, .inr (.inr ⟨rfl, _, _, rfl, rfl, rfl⟩)⟩
  · cases h
theorem eqK_mk {k : Nat} {ks : List Nat} {x y : AV} {l m : List AV} {p q : Bool} (h : One k x y p) (h' : eqK ks l m = some q) : eqK (k :: ks) (x :: l) (y :: m) = some (p && q) := by
  rcases h with ⟨rfl, kk, a, b, rfl, rfl, rfl⟩ | ⟨rfl, a, b, rfl, rfl, rfl⟩ | ⟨rfl, a, b, rfl, rfl, rfl⟩ <;> simp [eqK, h']
theorem eqK_append : ∀ (k1 k2 : List Nat) (l m : List AV) (r : Bool), eqK (k1 ++ k2) l m = some r → ∃ p q, eqK k1 (l.take k1.length) (m.take k1.length) = some p ∧ eqK k2 (l.drop k1.length) (m.drop k1.length) = some q ∧ r = (p && q) ∧ k1.length ≤ l.length ∧ k1.length ≤ m.length
  | [], k2, l, m, r, h => ⟨true, r, by simp [eqK], by simpa using h, by simp, by simp, by simp⟩
  | k :: k1, k2, l, m, r, h => by
    obtain ⟨x, l', y, m', p, q, rfl, rfl, h', rfl, ho⟩ := eqK_cons h
    obtain ⟨p', q', a1, a2, a3, a4, a5⟩ := eqK_append k1 k2 _ _ q h'
    exact ⟨p && p', q', by simpa using eqK_mk ho a1, by simpa using a2, by rw [a3, ← Bool.and_assoc], by simpa using a4, by simpa using a5⟩
theorem eqK_len : ∀ (ks : List Nat) (l m : List AV) (r : Bool), eqK ks l m = some r → l.length = ks.length ∧ m.length = ks.length
  | [], l, m, r, h => by obtain ⟨rfl, rfl, _⟩ := eqK_nil h; exact ⟨rfl, rfl⟩
  | k :: ks, l, m, r, h => by
    obtain ⟨x, l', y, m', p, q, rfl, rfl, h', rfl, ho⟩ := eqK_cons h
    simpa using eqK_len _ _ _ q h'
/-- cells that stand from a place on -/
def From (M : Nat → Prop) (w : World) (β : Nat → Option Nat) (xs : Array Value) (off : Nat) (l : List AV) : Prop := off + l.length ≤ xs.size ∧ ∀ (j : Nat) (z : AV), l[j]? = some z → Rel M w β (xs.getD (off + j) undef) z
theorem From.part {M : Nat → Prop} {xs : Array Value} {off : Nat} {l : List AV} (h : From M w β xs off l) (n m : Nat) (hnm : n + m ≤ l.length) : From M w β xs (off + n) ((l.drop n).take m) := by
  refine ⟨by have := h.1; simp; omega, fun j z hz => ?_⟩
  rw [List.getElem?_take] at hz
  split at hz
  · rw [List.getElem?_drop] at hz
    rw [Nat.add_assoc]; exact h.2 _ z hz
  · cases hz
theorem eq_flat (M : Nat → Prop) : ∀ (d : Nat) (t : TypeId) (ks : List Nat), flatT P d t = some ks → ∀ (n : Nat) (xs ys : Array Value) (off : Nat) (l m : List AV) (r : Bool), d ≤ n → From M w β xs off l → From M w β ys off m → eqK ks l m = some r →
    ∃ x y, (Go.part t xs off).run P w = .ok x w ∧ (Go.part t ys off).run P w = .ok y w ∧ (Op.equalIn n t x y).run P w = .ok r w
  | 0, t, ks, h, n, xs, ys, off, l, m, r, hn, hx, hy, he => by cases h
  | d + 1, t, ks, h, n, xs, ys, off, l, m, r, hn, hx, hy, he => by
    obtain ⟨n, rfl⟩ : ∃ n', n = n' + 1 := ⟨n - 1, by omega⟩
    unfold flatT at h
    have leaf : ∀ td : TypeDesc, P.underlying t = some td → (∀ fs, td ≠ .struct fs) → (∀ k e, td ≠ .array k e) → l.length = 1 → m.length = 1 → ((Go.part t xs off).run P w = .ok (xs.getD off undef) w ∧ (Go.part t ys off).run P w = .ok (ys.getD off undef) w) := by
      intro td ht h1 h2 hl hm
      have ha : aggT P t = some none := by
        unfold aggT; rw [ht]
        cases td <;> first | rfl | exact absurd rfl (h1 _) | exact absurd rfl (h2 _ _)
      have e1 := run_part (w := w) ha xs off (by have := hx.1; simp; omega)
      have e2 := run_part (w := w) ha ys off (by have := hy.1; simp; omega)
      exact ⟨e1, e2⟩
    have hlen := eqK_len _ _ _ _ he
    have one : ∀ (k : Nat) (td : TypeDesc), ks = [k] → P.underlying t = some td → (∀ fs, td ≠ .struct fs) → (∀ k e, td ≠ .array k e) → (∀ x y u v p, One k x y p → Rel M w β u x → Rel M w β v y → (Op.equalIn (n + 1) t u v).run P w = .ok p w) →
        ∃ x y, (Go.part t xs off).run P w = .ok x w ∧ (Go.part t ys off).run P w = .ok y w ∧ (Op.equalIn (n + 1) t x y).run P w = .ok r w := by
      intro k td hk ht h1 h2 hrun
      subst hk
      obtain ⟨x, l', y, m', p, q, rfl, rfl, h', rfl, ho⟩ := eqK_cons he
      obtain ⟨rfl, rfl, rfl⟩ := eqK_nil h'
      obtain ⟨g1, g2⟩ := leaf td ht h1 h2 rfl rfl
      refine ⟨_, _, g1, g2, ?_⟩
      rw [Bool.and_true]
      exact hrun _ _ _ _ _ ho (by simpa using hx.2 0 _ rfl) (by simpa using hy.2 0 _ rfl)
    split at h
    · rename_i k0 ht
      cases h
      refine one 0 _ rfl ht (fun fs h => by cases h) (fun k e h => by cases h) (fun x y u v p ho hu hv => ?_)
      rcases ho with ⟨_, kk, a, b, rfl, rfl, rfl⟩ | ⟨h0, _⟩ | ⟨h0, _⟩
      · rw [rel_sc hu, rel_sc hv, run_equalIn_int w n t kk _ a b ht]
      · cases h0
      · cases h0
    · rename_i ht
      cases h
      refine one 1 _ rfl ht (fun fs h => by cases h) (fun k e h => by cases h) (fun x y u v p ho hu hv => ?_)
      rcases ho with ⟨h0, _⟩ | ⟨_, a, b, rfl, rfl, rfl⟩ | ⟨h0, _⟩
      · cases h0
      · rw [rel_sc hu, rel_sc hv, run_equalIn_bool' w n t a b ht]
      · cases h0
    · rename_i ht
      cases h
      refine one 2 _ rfl ht (fun fs h => by cases h) (fun k e h => by cases h) (fun x y u v p ho hu hv => ?_)
      rcases ho with ⟨h0, _⟩ | ⟨h0, _⟩ | ⟨_, a, b, rfl, rfl, rfl⟩
      · cases h0
      · cases h0
      · obtain ⟨s1, rfl, rfl, _⟩ := rel_s hu
        obtain ⟨s2, rfl, rfl, _⟩ := rel_s hv
        rw [run_equalIn_string w n t s1 s2 ht, Lib.toList_data, Lib.toList_data]
    · rename_i fs ht
      split at h
      · rename_i ks' hf
        split at h
        · rename_i hc
          cases h
          obtain ⟨hsz, hst⟩ := hc
          have ha : aggT P t = some (some ks.length) := by unfold aggT; rw [ht]; simp [hsz]
          have e1 := run_part (w := w) ha xs off (by have := hx.1; simp; omega)
          have e2 := run_part (w := w) ha ys off (by have := hy.1; simp; omega)
          refine ⟨_, _, e1, e2, ?_⟩
          have hfo : P.fieldsOf t = fs := by simp [Program.fieldsOf, ht]
          simp only [partV]
          rw [run_equalIn_struct w n t _ _ (by rw [hfo]; exact ht) hst, hfo]
          have conv : ∀ (zs : Array Value) (l : List AV), l.length = ks.length → From M w β zs off l → From M w β ((List.range ks.length).map (fun j => zs.getD (off + j) undef)).toArray 0 l := by
            intro zs l hl hz
            refine ⟨by simp [hl], fun j z hj => ?_⟩
            have hjl := (List.getElem?_eq_some_iff.1 hj).1
            have : (((List.range ks.length).map (fun j => zs.getD (off + j) undef)).toArray).getD (0 + j) undef = zs.getD (off + j) undef := by
              simp [Array.getD_eq_getD_getElem?, show j < ks.length by omega]
            rw [this]; exact hz.2 j z hj
          have hx' := conv xs l hlen.1 hx
          have hy' := conv ys m hlen.2 hy
          generalize ((List.range ks.length).map (fun j => xs.getD (off + j) undef)).toArray = xs' at hx'
          generalize ((List.range ks.length).map (fun j => ys.getD (off + j) undef)).toArray = ys' at hy'
          have key : ∀ (fl : List Field) (o : Nat) (ks : List Nat) (l m : List AV) (r : Bool), flatF (flatT P d) fl o = some ks → From M w β xs' o l → From M w β ys' o m → eqK ks l m = some r → (Op.eqFields n xs' ys' fl).run P w = .ok r w := by
            intro fl
            induction fl with
            | nil =>
              intro o ks l m r hk _ _ he
              simp only [flatF, Option.some.injEq] at hk
              subst hk
              obtain ⟨h1, h2⟩ := eqK_len _ _ _ _ he
              have h1 := List.eq_nil_of_length_eq_zero h1
              have h2 := List.eq_nil_of_length_eq_zero h2
              subst h1 h2
              cases he
              simp [Op.eqFields]
            | cons f fl ih =>
              intro o ks l m r hk hl hm he
              simp only [flatF] at hk
              split at hk
              · rename_i hc
                obtain ⟨rfl, hname⟩ := hc
                split at hk
                · rename_i k1 hk1
                  obtain ⟨k2, hk2, rfl⟩ := Option.map_eq_some_iff.1 hk
                  obtain ⟨p, q, a1, a2, a3, a4, a5⟩ := eqK_append k1 k2 l m r he
                  have hl1 := hl.part 0 k1.length (by omega)
                  have hm1 := hm.part 0 k1.length (by omega)
                  simp only [Nat.add_zero, List.drop_zero] at hl1 hm1
                  obtain ⟨x, y, g1, g2, g3⟩ := eq_flat M d f.type k1 hk1 n xs' ys' f.offset _ _ p (by omega) hl1 hm1 a1
                  have hl2 := hl.part k1.length (l.length - k1.length) (by omega)
                  have hm2 := hm.part k1.length (m.length - k1.length) (by omega)
                  rw [List.take_of_length_le (by simp)] at hl2 hm2
                  have hrest := ih _ _ _ _ q hk2 hl2 hm2 a2
                  have hname' : f.name ≠ "_" := by intro e; rw [e] at hname; simp at hname
                  simp only [Op.eqFields, hname', ne_eq, not_false_eq_true, if_true, Sem.run_bind, g1, g2, g3, Result.andThen_ok]
                  cases p
                  · simp [a3]
                  · simp [a3, hrest]
                · cases hk
              · cases hk
          exact key fs.toList 0 ks l m r hf hx' hy' he
        · cases h
      · cases h
    · cases h
theorem good_eqs (R : SRel N w0 M0 β0 ds β fr σ F a w) {o : Oper} {neg : Bool} {x y : Operand} {t yt : TypeId} {fs : Array Field} {ks : List Nat} {v : AV} (ho : o.op = .binOp (if neg then .neq else .eql) t x y yt) (ht : P.underlying t = some (.struct fs)) (hg : P.eqGuardType P.depth t = false) (hk : flatT P 6 t = some ks)
    (hs : aEqs ks neg ((cOpd x).get fr) ((cOpd y).get fr) = some v) : GoodR P o N β σ a w v := by
  have h1 := rel_get R x
  have h2 := rel_get R y
  unfold aEqs at hs
  split at hs
  · rename_i l m g1 g2
    rw [g1] at h1; rw [g2] at h2
    generalize hu1 : a.eval x = u1 at h1
    generalize hu2 : a.eval y = u2 at h2
    cases h1 with
    | ag xs l hn1 hr1 =>
    cases h2 with
    | ag ys m hn2 hr2 =>
    obtain ⟨p, hp, rfl⟩ := Option.map_eq_some_iff.1 hs
    have hlen := eqK_len _ _ _ _ hp
    obtain ⟨x', y', e1, e2, e3⟩ := eq_flat (live N β σ) 6 t ks hk 10000 xs ys 0 l m p (by omega) ⟨by omega, by simpa using ag_getD hn1 hr1⟩ ⟨by omega, by simpa using ag_getD hn2 hr2⟩ hp
    have hsz : szT P t = some ks.length := by
      unfold flatT at hk
      rw [ht] at hk
      simp only at hk
      split at hk
      · split at hk
        · rename_i hc; cases hk; exact hc.1
        · cases hk
      · cases hk
    have ha : aggT P t = some (some ks.length) := by unfold aggT; rw [ht]; simp [hsz]
    have all : ∀ (zs : Array Value) (l : List AV), zs.size = l.length → l.length = ks.length → partV (some ks.length) (fun j => zs.getD j undef) 0 = .agg zs := by
      intro zs l h1 h2
      unfold partV
      simp only
      congr 1
      apply Array.ext
      · simp; omega
      · intro i h3 h4
        simp [h4]
    rw [run_part (w := w) ha xs 0 (by simp; omega), all xs l hn1 hlen.1] at e1
    rw [run_part (w := w) ha ys 0 (by simp; omega), all ys m hn2 hlen.2] at e2
    cases e1; cases e2
    cases neg
    · exact ⟨.bool p, by simp [execOp, ho, hu1, hu2, run_eqGuard_agg w _ t x y xs ys hg, run_eql_struct w t xs ys, e3], .sc _⟩
    · exact ⟨.bool !p, by simp [execOp, ho, hu1, hu2, run_eqGuard_agg w _ t x y xs ys hg, run_neq_struct w t xs ys, e3], .sc _⟩
  · cases hs
theorem good_eqb (R : SRel N w0 M0 β0 ds β fr σ F a w) {o : Oper} {neg : Bool} {x y : Operand} {t yt : TypeId} {v : AV} (ho : o.op = .binOp (if neg then .neq else .eql) t x y yt) (ht : P.underlying t = some .bool)
    (hs : aEqb neg ((cOpd x).get fr) ((cOpd y).get fr) = some v) : GoodR P o N β σ a w v := by
  have h1 := rel_get R x
  have h2 := rel_get R y
  unfold aEqb at hs
  split at hs
  · rename_i g1 g2
    rw [g1] at h1; rw [g2] at h2
    have e1 := rel_sc h1
    have e2 := rel_sc h2
    cases hs
    cases neg
    · exact ⟨_, by simp [execOp, ho, e1, e2, eqGuard, run_eql_bool, ht]; try rfl, .sc _⟩
    · exact ⟨_, by simp [execOp, ho, e1, e2, eqGuard, run_neq_bool, ht]; try rfl, .sc _⟩
  · cases hs
theorem eq_sl_nil (w : World) (d : Nat) {t e : TypeId} (ht : P.underlying t = some (.slice e)) (A : Option Addr) (n c : Nat) : (Op.equalIn (d + 1) t (.slice A n c) (.slice none 0 0)).run P w = .ok A.isNone w := by
  cases A <;> simp [Op.equalIn, run_underlying ht]
theorem good_eqn (R : SRel N w0 M0 β0 ds β fr σ F a w) {o : Oper} {neg : Bool} {x : Operand} {t yt e : TypeId} {v : AV} (ho : o.op = .binOp (if neg then .neq else .eql) t x (.const (.slice none 0 0)) yt) (ht : P.underlying t = some (.slice e))
    (hs : aEqn neg ((cOpd x).get fr) = some v) : GoodR P o N β σ a w v := by
  have h1 := rel_get R x
  have run : ∀ (A : Option Addr) (n c : Nat), a.eval x = .slice A n c → (execOp a.eval o).run P w = .ok (.value (.bool (if neg then !A.isNone else A.isNone))) w := by
    intro A n c e1
    have h : (Op.equalIn 10000 t (.slice A n c) (.slice none 0 0)).run P w = .ok A.isNone w := eq_sl_nil w 9999 ht A n c
    have e2 : a.eval (.const (.slice none 0 0)) = .slice none 0 0 := rfl
    cases neg
    · simp [execOp, ho, e1, e2, eqGuard, binOp, Op.equal, Op.maxDepth, h]
    · simp [execOp, ho, e1, e2, eqGuard, binOp, Op.equal, Op.maxDepth, h]
  generalize (cOpd x).get fr = X at h1 hs
  generalize hu : a.eval x = u at h1 run
  unfold aEqn at hs
  split at hs
  · cases hs
    cases h1 with
    | em A => exact ⟨_, run _ _ _ rfl, .bo _⟩
  · cases hs
    cases h1 with
    | tr A c k rows us hk hc hB hr hA hcell hrel => exact ⟨_, run _ _ _ rfl, .bo _⟩
  · cases hs
    cases h1 with
    | tr A c k rows us hk hc hB hr hA hcell hrel =>
      obtain ⟨ad, rfl, _⟩ := hA (by simp)
      refine ⟨_, run _ _ _ rfl, ?_⟩
      cases neg <;> exact .sc _
  · cases hs
    rcases rel_ow h1 rfl with ⟨_, _, A, rfl⟩ | ⟨cap, b, e, n, rfl, _⟩
    · exact ⟨_, run _ _ _ rfl, .bo _⟩
    · exact ⟨_, run _ _ _ rfl, .bo _⟩
  · cases hs
    rcases rel_ow h1 rfl with ⟨_, h0, _⟩ | ⟨cap, b, e, n, rfl, _⟩
    · cases h0
    · refine ⟨_, run _ _ _ rfl, ?_⟩
      cases neg <;> exact .sc _
  · cases hs
theorem eq_nil_some (w : World) (d : Nat) {t e : TypeId} (ht : P.underlying t = some (.pointer e)) (A : Addr) : (Op.equalIn (d + 1) t (.pointer none) (.pointer (some A))).run P w = .ok false w := by
  simp [Op.equalIn, run_underlying ht]
theorem eq_one_block (w : World) (d : Nat) {t e : TypeId} {inf : TypeInfo} (ht : P.underlying t = some (.pointer e)) (hinf : P.info? e = some inf) (hn0 : inf.size ≠ 0) (A B : Addr) (h : A.block = B.block) : (Op.equalIn (d + 1) t (.pointer (some A)) (.pointer (some B))).run P w = .ok (A == B) w := by
  simp [Op.equalIn, run_underlying ht, sizeOf, typeInfo, hinf, hn0, sameAddr, h]
theorem wrap_small {n : Nat} (h : n ≤ 16777216) : IntKind.i64.wrap (n : Int) = n := by rw [IntKind.wrap_i64]; omega
theorem mks_run {o : Oper} {t e : TypeId} {len k : Nat} {zs : List Value} {w : World} {ρ : Operand → Value} (ho : o.op = .makeSlice t (.const (.int .i64 (.ofNat len))) (.const (.int .i64 (.ofNat len)))) (hρ : ∀ v, ρ (.const v) = v) (ht : P.underlying t = some (.slice e)) (hk : szT P e = some k) (hz : zsT P e = some zs)
    (hk0 : 0 < k) (hl : 0 < len) (hsm : len * k ≤ 16777216) (hb : ((P.info? e).map (·.bytes)).all (fun b => b * len ≤ 140737488355328) = true) : (execOp ρ o).run P w = (execOp ρ { o with op := .buildSlice t len #[] }).run P w := by
  unfold szT at hk
  obtain ⟨inf, hinf, hsz⟩ := Option.map_eq_some_iff.1 hk
  unfold zsT at hz
  obtain ⟨z, hz1, rfl⟩ := Option.map_eq_some_iff.1 hz
  obtain ⟨it, hit, hz2⟩ := Option.bind_eq_some_iff.1 hz1
  rw [hinf] at hit; cases hit
  simp only [hinf, Option.map_some, Option.all_some, decide_eq_true_eq] at hb
  have hlen : len ≤ 16777216 := by
    have : len * 1 ≤ len * k := Nat.mul_le_mul_left _ hk0
    omega
  have hl1 : inf.bytes * len ≤ 140737488355328 := hb
  have hw : IntKind.i64.wrap (len : Int) = len := wrap_small hlen
  have hl2 : (inf.bytes : Int) * (len : Int) ≤ 140737488355328 := Int.ofNat_le.2 hl1
  have hne : ¬ (len * inf.size = 0) := by
    rw [hsz]
    intro h
    rcases Nat.mul_eq_zero.1 h with h | h <;> omega
  have hsm' : ¬ (16777216 < len * inf.size) := by rw [hsz]; omega
  have h1 : ¬ ((281474976710656 : Int) < (inf.bytes : Int) * (len : Int)) := by omega
  have h2 : ¬ ((len : Int) < 0) := by omega
  have h3 : ¬ (roomBytes < len * inf.bytes) := by rw [Nat.mul_comm]; show ¬ (140737488355328 < inf.bytes * len); omega
  simp only [execOp, ho, hρ, Instr.makeSlice, Instr.buildSlice, asInt, typeInfo, sizeOf, asIntOf]
  simp [Sem.run_bind, run_underlying ht, hinf, Result.andThen, hw, h1, h2, hne, hsm', askRoom, h3, Instr.fill]
theorem good_mxn (R : SRel N w0 M0 β0 ds β fr σ F a w) {o : Oper} {c : Call} {mx : Bool} {x y : Operand} {v : AV} (ho : o.op = .call c) (hc : c.callee = .builtin (if mx then .max else .min)) (ha : c.args.toList = [x, y])
    (hs : aMxn mx ((cOpd x).get fr) ((cOpd y).get fr) = some v) : GoodR P o N β σ a w v := by
  have h := rel_get R x
  have h' := rel_get R y
  have ha' : c.args = #[x, y] := by apply Array.ext'; simpa using ha
  unfold aMxn at hs
  split at hs
  · rename_i k n k' m e e'
    rw [e] at h; rw [e'] at h'
    generalize hu : a.eval x = u at h
    generalize hu' : a.eval y = u' at h'
    cases h; cases h'; cases hs
    cases mx
    · exact ⟨_, by simp [execOp, ho, resolve, hc, ha', invoke, Go.builtin, Builtin.min_, Builtin.min2, hu, hu']; try rfl, .sc _⟩
    · exact ⟨_, by simp [execOp, ho, resolve, hc, ha', invoke, Go.builtin, Builtin.max_, Builtin.max2, hu, hu']; try rfl, .sc _⟩
  · cases hs
theorem good_eqp (R : SRel N w0 M0 β0 ds β fr σ F a w) {o : Oper} {neg : Bool} {x y : Operand} {t yt e : TypeId} {v : AV} (ho : o.op = .binOp (if neg then .neq else .eql) t x y yt) (ht : P.underlying t = some (.pointer e)) (he : (szT P e).any (· != 0) = true)
    (hs : aEqp neg ((cOpd x).get fr) ((cOpd y).get fr) = some v) : GoodR P o N β σ a w v := by
  have h1 := rel_get R x
  have h2 := rel_get R y
  unfold aEqp at hs
  obtain ⟨p, hp, rfl⟩ := Option.map_eq_some_iff.1 hs
  have key : ∀ (A B : Option Addr), a.eval x = .pointer A → a.eval y = .pointer B → (Op.equalIn 10000 t (.pointer A) (.pointer B)).run P w = .ok p w → GoodR P o N β σ a w (bb (if neg then !p else p)) := by
    intro A B e1 e2 h
    cases neg
    · exact ⟨.bool p, by simp [execOp, ho, e1, e2, eqGuard, binOp, Op.equal, Op.maxDepth, h], .sc _⟩
    · exact ⟨.bool !p, by simp [execOp, ho, e1, e2, eqGuard, binOp, Op.equal, Op.maxDepth, h], .sc _⟩
  generalize (cOpd x).get fr = X at h1 hp
  generalize (cOpd y).get fr = Y at h2 hp
  generalize hu1 : a.eval x = u1 at h1 key
  generalize hu2 : a.eval y = u2 at h2 key
  have hpe : P.underlying t = some (.pointer (P.pointee t)) := by simp [Program.pointee, ht]
  have nil1 : ∀ A : Option Addr, (Op.equalIn 10000 t (.pointer A) (.pointer none)).run P w = .ok A.isNone w := fun A => run_equalIn_pointer_nil w 9999 t A hpe
  have nil2 : ∀ A : Addr, (Op.equalIn 10000 t (.pointer none) (.pointer (some A))).run P w = .ok false w := fun A => eq_nil_some w 9999 ht A
  unfold eqP at hp
  split at hp
  · cases hp
    have e1 := rel_sc h1; subst e1
    cases h2 with
    | rf _ _ _ _ b hb => exact key _ _ rfl rfl (nil2 _)
  · cases hp
    have e2 := rel_sc h2; subst e2
    cases h1 with
    | rf _ _ _ _ b hb => exact key _ _ rfl rfl (nil1 _)
  · cases hp
    have e1 := rel_sc h1; subst e1
    cases h2 with
    | fp A => exact key _ _ rfl rfl (nil2 _)
  · cases hp
    have e2 := rel_sc h2; subst e2
    cases h1 with
    | fp A => exact key _ _ rfl rfl (nil1 _)
  · cases hp
    have e1 := rel_sc h1; subst e1
    have e2 := rel_sc h2; subst e2
    exact key _ _ rfl rfl (nil1 _)
  · split at hp
    · rename_i i k r c i' k' r' c' hc
      obtain ⟨rfl, rfl, hc1, hc2⟩ := hc
      cases hp
      cases h1 with
      | rf _ _ _ _ b hb =>
      cases h2 with
      | rf _ _ _ _ b' hb' =>
      rw [hb] at hb'; cases hb'
      refine key _ _ rfl rfl ?_
      obtain ⟨n, hn, hn0⟩ : ∃ n, szT P e = some n ∧ n ≠ 0 := by
        cases hz : szT P e with
        | none => rw [hz] at he; cases he
        | some n => rw [hz] at he; exact ⟨n, rfl, by simpa using he⟩
      unfold szT at hn
      obtain ⟨inf, hinf, rfl⟩ := Option.map_eq_some_iff.1 hn
      have heq : ((⟨b, r * k + c, none⟩ : Addr) == ⟨b, r' * k + c', none⟩) = (r == r' && c == c') := by
        rw [Bool.eq_iff_iff]
        simp only [beq_iff_eq, Addr.mk.injEq, and_true, true_and, Bool.and_eq_true]
        constructor
        · intro h
          have h1 : (r * k + c) / k = r := by rw [Nat.mul_comm, Nat.mul_add_div (by omega), Nat.div_eq_of_lt hc1]; omega
          have h2 : (r' * k + c') / k = r' := by rw [Nat.mul_comm, Nat.mul_add_div (by omega), Nat.div_eq_of_lt hc2]; omega
          have : r = r' := by rw [← h1, ← h2, h]
          subst this
          exact ⟨rfl, by omega⟩
        · rintro ⟨rfl, rfl⟩; rfl
      rw [← heq]
      exact eq_one_block w 9999 ht hinf hn0 _ _ rfl
    · cases hp
  · cases hp

theorem soundR (R : SRel N w0 M0 β0 ds β fr σ F a w) {o : Oper} {s : SOp} {v : AV} (hc : cmp P o.op = some s) (hq : quiet s = true) (hs : semR σ (Opd.get fr) s = some v) : GoodR P o N β σ a w v := by
  generalize hop : o.op = op at hc
  cases op <;> simp only [cmp, reduceCtorEq, Option.some.injEq] at hc
  case move x => subst hc; simp only [semR, Option.some.injEq] at hs; subst hs; exact good_mv R (.inl hop)
  case assign x => subst hc; simp only [semR, Option.some.injEq] at hs; subst hs; exact good_mv R (.inr hop)
  case pick c x y => subst hc; exact good_pick R hop hs
  case alloc e => obtain ⟨zs, hz, rfl⟩ := Option.map_eq_some_iff.1 hc; simp [quiet] at hq
  case box e x => subst hc; simp [quiet] at hq
  case build t parts =>
    split at hc
    · rename_i d zs h1 h2
      split at hc
      · rename_i places h3
        obtain ⟨ps, h4, rfl⟩ := Option.map_eq_some_iff.1 hc
        exact good_build R hop h1 h2 h3 h4 hs
      · cases hc
    · cases hc
  case buildSlice t len parts =>
    split at hc
    · split at hc
      · split at hc
        · cases hc; simp [quiet] at hq
        · cases hc
      · cases hc
    · cases hc
  case load t x =>
    obtain ⟨m, hm, rfl⟩ := Option.map_eq_some_iff.1 hc
    exact good_ld R hop hm hs
  case store t x y => obtain ⟨m, hm, rfl⟩ := Option.map_eq_some_iff.1 hc; simp [quiet] at hq
  case makeMap t n =>
    cases n with
    | some n => cases hc
    | none =>
      simp only at hc
      split at hc
      · split at hc
        · cases hc; simp [quiet] at hq
        · cases hc
      · cases hc
  case mapUpdate t x k y =>
    split at hc
    · split at hc
      · cases hc; simp [quiet] at hq
      · cases hc
    · cases hc
  case lookup t x k ok =>
    split at hc
    · rename_i kt e h1
      split at hc
      · rename_i z h2 h3
        cases hc; exact good_lkp R hop h1 h2 h3 hs
      · cases hc
    · cases hc
  case fieldAddr t x f =>
    split at hc
    · rename_i off ft h1
      split at hc
      · rename_i n h2
        split at hc
        · cases hc
        · rename_i h3
          cases hc
          exact good_fad R hop h1 h2 h3 hs
      · cases hc
    · cases hc
  case field t x f =>
    split at hc
    · rename_i off ft h1
      obtain ⟨m, hm, rfl⟩ := Option.map_eq_some_iff.1 hc
      exact good_fld R hop h1 hm hs
    · cases hc
  case indexAddr t x i =>
    split at hc
    · rename_i e h1
      obtain ⟨k, hk, rfl⟩ := Option.map_eq_some_iff.1 hc
      exact good_iad R hop h1 hk hs
    · cases hc
  case index t x i =>
    split at hc
    · rename_i h1
      cases hc
      exact good_istr R hop h1 hs
    · rename_i n e h1
      split at hc
      · rename_i m k h2 h3
        cases hc
        exact good_iarr R hop h1 h2 h3 hs
      · cases hc
    · cases hc
  case binOp op t x y yt =>
    have eqn : ∀ (f : Bool → SOp), cmpEq op f = some s → (op = .eql ∧ s = f false) ∨ (op = .neq ∧ s = f true) := by
      intro f h
      unfold cmpEq at h
      split at h
      · cases h; exact .inl ⟨rfl, rfl⟩
      · cases h; exact .inr ⟨rfl, rfl⟩
      · cases h
    unfold cmpBin at hc
    split at hc
    · cases hc; exact good_bin R hop hs
    · cases hc; exact good_bin R hop hs
    · rename_i h1
      rcases eqn _ hc with ⟨rfl, rfl⟩ | ⟨rfl, rfl⟩
      · exact good_eqb R (neg := false) hop h1 hs
      · exact good_eqb R (neg := true) hop h1 hs
    · rename_i fs h1
      split at hc
      · rename_i hg
        split at hc
        · rename_i ks hk
          rcases eqn _ hc with ⟨rfl, rfl⟩ | ⟨rfl, rfl⟩
          · exact good_eqs R (neg := false) hop h1 hg hk hs
          · exact good_eqs R (neg := true) hop h1 hg hk hs
        · cases hc
      · cases hc
    · rename_i e h1
      split at hc
      · rename_i he
        rcases eqn _ hc with ⟨rfl, rfl⟩ | ⟨rfl, rfl⟩
        · exact good_eqp R (neg := false) hop h1 he hs
        · exact good_eqp R (neg := true) hop h1 he hs
      · cases hc
    · rename_i e h1
      split at hc
      · rcases eqn _ hc with ⟨rfl, rfl⟩ | ⟨rfl, rfl⟩
        · exact good_eqn R (neg := false) hop h1 hs
        · exact good_eqn R (neg := true) hop h1 hs
      · cases hc
    · cases hc
  case unOp op t x => subst hc; exact good_un R hop hs
  case convert s d x =>
    split at hc
    · rename_i k0 k h1 h2; cases hc; exact good_cvi R hop h1 h2 hs
    · rename_i h1 h2; cases hc; exact good_cvs R hop h1 h2 hs
    · rename_i e h1 h2
      split at hc
      · rename_i h3; cases hc; exact good_cvb R hop h1 h3 h2 hs
      · cases hc
    · cases hc
  case slice t x lo hi mx =>
    split at hc
    · rename_i e h1
      split at hc
      · rename_i k h2
        split at hc
        · rename_i h3; cases hc; exact good_slc R hop h1 h2 h3 hs
        · cases hc
      · cases hc
    · rename_i h1
      split at hc
      · cases hc; exact good_sstr R hop h1 hs
      · cases hc
    · cases hc
  case extract x i => subst hc; exact good_ext R hop hs
  case makeFunc fn first caps =>
    cases fn <;> simp only [reduceCtorEq] at hc
    case func f =>
      split at hc
      · rename_i h0
        cases hc
        simp only [semR, Option.some.injEq] at hs
        subst hs
        exact good_mkf R hop h0
      · cases hc
  case nilCheck x => subst hc; exact good_nck R hop hs
  case makeInterface t x =>
    split at hc
    · rename_i h1; cases hc; exact good_mki R hop h1 (fun ms h => by cases h) hs
    · cases hc
    · rename_i h1; cases hc; exact good_mki R hop h1 (fun ms h => by cases h) hs
    · cases hc
  case typeAssert x xt t ok =>
    cases ok with
    | false => simp at hc
    | true =>
      simp only at hc
      split at hc
      · cases hc
      · rename_i d z hne h1 h2
        cases hc
        obtain ⟨i, hi, hz⟩ := Option.bind_eq_some_iff.1 h2
        exact good_tas R hop h1 (fun ms e => hne ms e) hi hz hs
      · cases hc
  case makeSlice t l c =>
    unfold cmpMks at hc
    split at hc
    · split at hc
      · split at hc
        · split at hc
          · cases hc; simp [quiet] at hq
          · cases hc
        · cases hc
      · cases hc
    · cases hc
  case panic x => subst hc; simp [quiet] at hq
  case call c =>
    unfold cmpCall at hc
    split at hc
    · cases hc; simp [quiet] at hq
    · rename_i hcal
      split at hc
      · rename_i x h1 h2; cases hc; exact good_len_str R hop hcal h1 h2 hs
      · rename_i x h1 h2; cases hc; exact good_len_sl R hop hcal h1 h2 hs
      · cases hc
    · rename_i hcal
      split at hc
      · rename_i x y h1; cases hc; exact good_mxn R (mx := true) hop hcal h1 hs
      · cases hc
    · rename_i hcal
      split at hc
      · rename_i x y h1; cases hc; exact good_mxn R (mx := false) hop hcal h1 hs
      · cases hc
    · rename_i hcal
      split at hc
      · split at hc
        · split at hc
          · cases hc; simp [quiet] at hq
          · cases hc
        · cases hc
      · cases hc
    · rename_i hcal
      split at hc
      · cases hc; simp [quiet] at hq
      · cases hc
    · cases hc
theorem soundH (R : SRel N w0 M0 β0 ds β fr σ F a w) {o : Oper} {s : SOp} {id : Nat} {v : AV} {wr : Wr} (hid : F id) (hc : cmp P o.op = some s) (hs : semH σ id (Opd.get fr) s = some (v, wr)) : Good P o N w0 M0 β0 ds β fr σ F id a w v wr := by
  generalize hop : o.op = op at hc
  cases op <;> simp only [cmp, reduceCtorEq, Option.some.injEq] at hc
  case alloc e => obtain ⟨zs, hz, rfl⟩ := Option.map_eq_some_iff.1 hc; exact good_alloc R hid hop hz hs
  case box e x => subst hc; exact good_box R hid hop hs
  case buildSlice t len parts =>
    split at hc
    · rename_i e h1
      split at hc
      · rename_i k zs h2 h3
        split at hc
        · rename_i h4
          cases hc
          refine good_bsl R hid hop h1 h2 h3 h4.1 h4.2.1 h4.2.2 ?_
          simpa [semH, List.map_map, Function.comp_def] using hs
        · cases hc
      · cases hc
    · cases hc
  case makeSlice t l c =>
    unfold cmpMks at hc
    split at hc
    · rename_i len len'
      split at hc
      · rename_i e h1
        split at hc
        · rename_i k zs h2 h3
          split at hc
          · rename_i h4
            obtain ⟨h5, h6, h7, h10, h8, h9⟩ := h4
            rw [h10] at hop
            cases hc
            obtain ⟨u, w', β', g1, g2⟩ := good_bsl (o := { o with op := .buildSlice t len #[] }) R hid rfl h1 h2 h3 h5 h6 h7 (by simpa [semH] using hs)
            have hr := mks_run (w := w) (ρ := a.eval) hop (fun _ => rfl) h1 h2 h3 h5 h8 h7 h9
            exact ⟨u, w', β', by rw [hr]; exact g1, g2⟩
          · cases hc
        · cases hc
      · cases hc
    · cases hc
  case store t x y =>
    obtain ⟨m, hm, rfl⟩ := Option.map_eq_some_iff.1 hc
    exact good_st R hop hm hs
  case makeMap t n =>
    cases n with
    | some n => cases hc
    | none =>
      simp only at hc
      split at hc
      · split at hc
        · cases hc; exact good_mkm R hid hop hs
        · cases hc
      · cases hc
  case mapUpdate t x k y =>
    split at hc
    · rename_i kt e h1
      split at hc
      · rename_i h2; cases hc; exact good_mup R hop h1 h2 hs
      · cases hc
    · cases hc
  case lookup t x k ok =>
    split at hc
    · split at hc
      · cases hc; simp [semH] at hs
      · cases hc
    · cases hc
  case call c =>
    unfold cmpCall at hc
    split at hc
    · cases hc; simp [semH] at hs
    · split at hc
      · cases hc; simp [semH] at hs
      · cases hc; simp [semH] at hs
      · cases hc
    · split at hc
      · cases hc; simp [semH] at hs
      · cases hc
    · split at hc
      · cases hc; simp [semH] at hs
      · cases hc
    · rename_i hcal
      split at hc
      · rename_i x y e e' h1 h2 h3
        split at hc
        · rename_i i hi
          split at hc
          · rename_i h4
            cases hc
            exact good_app R hid hop hcal h1 h2 h3 hi h4.1 h4.2.1 h4.2.2 hs
          · cases hc
        · cases hc
      · cases hc
    · rename_i hcal
      split at hc
      · rename_i x kt e h1 h2; cases hc; exact good_clm R hop hcal h1 h2 hs
      · cases hc
    · cases hc
  case binOp op t x y yt =>
    have eqn : ∀ (f : Bool → SOp), cmpEq op f = some s → s = f false ∨ s = f true := by
      intro f h
      unfold cmpEq at h
      split at h <;> cases h <;> simp
    unfold cmpBin at hc
    (repeat' split at hc) <;> first | (cases hc; done) | (cases hc; simp [semH] at hs; done) | (rcases eqn _ hc with rfl | rfl <;> simp [semH] at hs; done)
  case makeFunc fn first caps =>
    cases fn <;> simp only [reduceCtorEq] at hc
    case func f => split at hc <;> first | (cases hc; done) | (cases hc; simp [semH] at hs; done)
  case typeAssert x xt t ok =>
    cases ok with
    | false => simp at hc
    | true =>
      simp only at hc
      (repeat' split at hc) <;> first | (cases hc; done) | (cases hc; simp [semH] at hs; done)
  all_goals first
    | (subst hc; simp [semH] at hs; done)
    | (obtain ⟨_, _, rfl⟩ := Option.map_eq_some_iff.1 hc; simp [semH] at hs; done)
    | ((repeat' split at hc) <;> first | (cases hc; done) | (cases hc; simp [semH] at hs; done) | (obtain ⟨_, _, rfl⟩ := Option.map_eq_some_iff.1 hc; simp [semH] at hs; done))
end
end Go.Proofs.Ytlhnncmflnjinaa.Am

set_option linter.unusedSimpArgs false
set_option linter.unusedVariables false
namespace Go.Proofs.Ytlhnncmflnjinaa.Am
open Go Go.RowKit

/-- an operation, where its value goes, and whether it is asked for -/
structure SOper where
  dst : Option Nat
  guard : Option (Nat × Bool)
  op : SOp
def cmpO (P : Program) (ops : Array Oper) (o : Oper) : Option SOper :=
  match o.guard with
  | none => (cmp P o.op).map fun s => ⟨o.dst, none, s⟩
  | some (j, want) => match (ops[j]?).bind (·.dst), cmp P o.op with
    | some d, some s => some ⟨o.dst, some (d, want), s⟩
    | _, _ => none

/-- how a call ends -/
inductive AEnd where
  | ret (v : AV)
  | pan (v : Value)
def RelE (M : Nat → Prop) (w : World) (β : Nat → Option Nat) : Ending → AEnd → Prop
  | .returned v, .ret x => Rel M w β v x
  | .panicked ch, .pan x => ch = [{ v := x, recovered := false }]
  | _, _ => False
/-- a function that the machine enters -/
def goFn (P : Program) (f : FuncId) : Bool := match P.funcs[f]? with
  | some fn => fn.body.isSome && fn.name != "runtime.NumGoroutine"
  | none => false
/-- a function that is handed values that nobody writes: it ends so, and leaves alone all that was there -/
def Con (P : Program) (f : FuncId) (args : List AV) (r : AEnd) : Prop :=
  goFn P f = true ∧ ∀ (M : Nat → Prop) (w : World) (vs : Array Value), Aw M M w → Cells M w nob vs args → Calls P f vs w fun e w' => RelE M w' nob e r ∧ Fr w (fun _ => False) w'
/-- what a call leaves: how it ends, in an abstract memory that has all that there was -/
def Leaves (N : Nat → Prop) (β : Nat → Option Nat) (σ : Hp) (w : World) (e : Ending) (w' : World) (β' : Nat → Option Nat) (σ' : Hp) (F' : Nat → Prop) (r : AEnd) : Prop :=
  (∀ i b, β i = some b → β' i = some b) ∧ HRel N β' σ' F' w' ∧ RelE (live N β' σ') w' β' e r ∧ Fr w (own β σ) w' ∧ (∀ b, own β' σ' b → b < w.heap.size → own β σ b)
/-- names not used: from n on; and some below T, that are kept -/
def Fn (T : Nat) (U : Nat → Prop) (n : Nat) : Nat → Prop := fun i => n ≤ i ∨ (U i ∧ i < T)
/-- a function that may write some of the caller's blocks: how it ends, and in which memory -/
def ConH (P : Program) (f : FuncId) (args : List AV) (σ : Hp) (n : Nat) (R : AEnd → Hp → Nat → Prop) : Prop :=
  goFn P f = true ∧ ∀ (N : Nat → Prop) (T : Nat) (U : Nat → Prop) (β : Nat → Option Nat) (w : World) (vs : Array Value), T ≤ n → Aw N (own β σ) w → HRel N β σ (Fn T U n) w → Cells (live N β σ) w β vs args →
    Calls P f vs w fun e w' => ∃ β' r σ' n', R r σ' n' ∧ n ≤ n' ∧ Leaves N β σ w e w' β' σ' (Fn T U n') r
/-- the same, all told: of blocks pre it makes what wr says; new names from id on -/
def ConW (P : Program) (f : FuncId) (args : List AV) (pre : List (Nat × Ob)) (id : Nat) (r : AEnd) (wr : Wr) : Prop :=
  goFn P f = true ∧ ∀ (N : Nat → Prop) (β : Nat → Option Nat) (σ : Hp) (F : Nat → Prop) (w : World) (vs : Array Value), (∀ p ∈ pre, σ p.1 = some p.2) → (∀ j, id ≤ j → j < id + 16 → F j) → ∀ T, id + 16 ≤ T → (∀ j, T ≤ j → F j) →
    Aw N (own β σ) w → HRel N β σ F w → Cells (live N β σ) w β vs args →
    Calls P f vs w fun e w' => ∃ β' T', T ≤ T' ∧ Leaves N β σ w e w' β' (applyW σ wr) (fun j => F j ∧ ¬ (id ≤ j ∧ j < id + 16) ∧ (j < T ∨ T' ≤ j)) r
theorem run_callFunc {P : Program} {f : FuncId} (h : goFn P f = true) (args : Array Value) (w : World) : (callFunc f args).run P w = .ok (.enter f args) w := by
  unfold goFn at h
  cases hf : P.funcs[f]? with
  | none => simp [hf] at h
  | some fn =>
    simp only [hf, Bool.and_eq_true, bne_iff_ne, ne_eq] at h
    obtain ⟨h1, h2⟩ := h
    have h3 : ¬ fn.body = none := by intro hb; rw [hb] at h1; cases h1
    simp [callFunc, hf, h2, h3]
/-- does a value say nothing of memory? -/
def scal : AV → Bool
  | .sc _ => true
  | .s _ => true
  | .tp l => l.all fun | .sc _ => true | .s _ => true | _ => false
  | .ag l => l.all fun | .sc _ => true | .s _ => true | _ => false
  | _ => false
theorem scal_rel {M M' : Nat → Prop} {w w' : World} {β β' : Nat → Option Nat} {v : Value} {x : AV} (h : Rel M w β v x) (hs : scal x = true) : Rel M' w' β' v x := by
  have one : ∀ {u : Value} {z : AV}, Rel M w β u z → (match z with | .sc _ => true | .s _ => true | _ => false) = true → Rel M' w' β' u z := by
    intro u z hr hz
    cases z <;> simp only [Bool.false_eq_true] at hz
    · cases hr; exact .sc _
    · cases hr; exact .s _ _ (by assumption) (by assumption)
  cases h <;> simp only [scal, Bool.false_eq_true] at hs
  · exact .sc _
  · exact .s _ _ (by assumption) (by assumption)
  · rename_i vs l hn h
    exact .ag vs l hn (fun i u z hu hz => one (h i u z hu hz) (List.all_eq_true.1 hs z (List.mem_of_getElem? hz)))
  · rename_i vs l hn h
    exact .tp vs l hn (fun i u z hu hz => one (h i u z hu hz) (List.all_eq_true.1 hs z (List.mem_of_getElem? hz)))

abbrev Kn := Regs → Hp → Nat → Prop
def bindP (o : Option AV) (K : AV → Prop) : Prop := match o with
  | some v => K v
  | none => False
def bindH (o : Option (AV × Wr)) (K : AV → Wr → Prop) : Prop := match o with
  | some (v, wr) => K v wr
  | none => False
def bindS (o : Option (AV × Wr)) (σ : Hp) (n : Nat) (K : AV → Hp → Nat → Prop) : Prop := bindH o (fun v wr => K v (applyW σ wr) (n + 16))
def onEnd (r : AEnd) (K : AV → Prop) (Kp : Value → Prop) : Prop := match r with
  | .ret v => K v
  | .pan x => Kp x
/-- what is known of a length that was asked for -/
def bnd (σ : Hp) : AV → Prop
  | .s l => l.length ≤ 9223372036854775807
  | .tr rows => rows.length ≤ 4611686018427387904
  | .ow i _ _ _ => ∀ b, σ i = some (.c b) → b.rows.length ≤ 4611686018427387904
  | _ => True
/-- a closed call, and what it leaves of the memory -/
def callC (P : Program) (f : AV) (args : List AV) (σ : Hp) (K : AEnd → Wr → List Nat → Prop) : Prop := match f with
  | .fn g caps => ∃ cs I r, brwL σ 6 (args ++ caps) = some (cs, I) ∧ Con P g cs r ∧ K r (match r with | .ret v => if scal v = true then [] else frz σ I | .pan _ => []) I
  | _ => False
def callW (P : Program) (f : AV) (args : List AV) (σ : Hp) (id : Nat) (K : AEnd → Wr → List Nat → Prop) : Prop := match f with
  | .fn g caps => ∃ pre r wr, (∀ p ∈ pre, σ p.1 = some p.2) ∧ ConW P g (args ++ caps) pre id r wr ∧ K r wr (pre.map (·.1))
  | _ => False
/-- a round of a loop over a function: how it ends (does the loop go on?), and in which memory -/
def YCon (P : Program) (y : Nat) (args : List AV) (σ : Hp) (n : Nat) (R : AEnd → Hp → Nat → Prop) : Prop :=
  ∀ (N : Nat → Prop) (T : Nat) (U : Nat → Prop) (β : Nat → Option Nat) (w : World) (vs : Array Value) (l : Nat), T ≤ n → Aw N (own β σ) w → HRel N β σ (Fn T U n) w → β y = some l → Cells (live N β σ) w β vs args →
    YieldAt Fence.wide 0 P l vs w fun e w' => ∃ β' r σ' n', R r σ' n' ∧ n ≤ n' ∧ Leaves N β σ w e w' β' σ' (Fn T U n') r
def callY (P : Program) (f : AV) (args : List AV) (σ : Hp) (n : Nat) (K : AEnd → Hp → Nat → Prop) : Prop := match f with
  | .yl y => ∃ R, YCon P y args σ n R ∧ ∀ r σ' n', R r σ' n' → n ≤ n' → K r σ' n'
  | _ => False
def callH (P : Program) (f : AV) (args : List AV) (σ : Hp) (n : Nat) (K : AEnd → Hp → Nat → Prop) : Prop := match f with
  | .fn g caps => ∃ R, ConH P g (args ++ caps) σ n R ∧ ∀ r σ' n', R r σ' n' → n ≤ n' → K r σ' n'
  | _ => False
inductive CALL (P : Program) (f : AV) (args : List AV) (σ : Hp) (n : Nat) (K : AEnd → Hp → Nat → Prop) : Prop
  | c (h : callC P f args σ (fun r wr _ => K r (applyW σ wr) n))
  | w (h : callW P f args σ n (fun r wr _ => ∀ n', n + 16 ≤ n' → K r (applyW σ wr) n'))
  | h (h : callH P f args σ n K)
  | y (h : callY P f args σ n K)
def PAN (x : AV) (K : Value → Prop) : Prop := match x with
  | .sc (.iface t v) => K (.iface t v)
  | _ => False
/-- an operation that is asked for; Kp: what follows a panic -/
def step (P : Program) (op : SOp) (fr : Regs) (σ : Hp) (n : Nat) (Kp : Value → Kn) (K : AV → Hp → Nat → Prop) : Prop :=
  match op with
  | .call f args => CALL P (f.get fr) (args.map (Opd.get fr)) σ n (fun r σ' n' => onEnd r (fun v => K v σ' n') (fun x => Kp x fr σ' n'))
  | .pan x => PAN (x.get fr) (fun v => Kp v fr σ n)
  | .len s x => bindP (aLen s (x.get fr)) (fun v => bnd σ (x.get fr) → K v σ n)
  | op => if quiet op = true then bindP (semR σ (Opd.get fr) op) (fun v => K v σ n) else bindS (semH σ n (Opd.get fr) op) σ n K
/-- an operation that is asked for under a condition -/
def guardP' (g : AV) (want : Bool) (o : Option AV) (K : AV → Prop) : Prop := match g with
  | .sc (.bool b) => ∃ v, (b = want → o = some v) ∧ K (cond (b == want) v (.tp []))
  | .tp [] => K (.tp [])
  | _ => False
structure guardP (g : AV) (want : Bool) (o : Option AV) (K : AV → Prop) : Prop where
  h : guardP' g want o K
def guardK' (g : AV) (want : Bool) (e : (AV → Hp → Nat → Prop) → Prop) (σ : Hp) (n : Nat) (K : AV → Hp → Nat → Prop) : Prop := match g with
  | .sc (.bool b) => if b = want then e K else K (.tp []) σ n
  | .tp [] => K (.tp []) σ n
  | _ => False
structure guardK (g : AV) (want : Bool) (e : (AV → Hp → Nat → Prop) → Prop) (σ : Hp) (n : Nat) (K : AV → Hp → Nat → Prop) : Prop where
  h : guardK' g want e σ n K
/-- operations in the text's order -/
def sops (P : Program) (K : Kn) (Kp : Value → Kn) : List SOper → Kn
  | [], fr, σ, n => K fr σ n
  | o :: rest, fr, σ, n => match o.guard with
    | none => step P o.op fr σ n Kp (fun v σ n => sops P K Kp rest (put fr o.dst v) σ n)
    | some (d, want) => if quiet o.op = true then guardP (fr d) want (semR σ (Opd.get fr) o.op) (fun v => sops P K Kp rest (put fr o.dst v) σ n)
      else guardK (fr d) want (step P o.op fr σ n Kp) σ n (fun v σ n => sops P K Kp rest (put fr o.dst v) σ n)
def dstOk (S : Nat) : Option Nat → Bool
  | some d => decide (d < S)
  | none => true
def okTag : Op → SOp → Bool
  | .call c, .call _ _ => (match c.callee with | .value _ => true | _ => false)
  | _, .call _ _ => false
  | .panic _, .pan _ => true
  | _, .pan _ => false
  | _, _ => true
def cmpL (P : Program) (S : Nat) (ops : Array Oper) : List Oper → Option (List SOper)
  | [] => some []
  | o :: l => match cmpO P ops o, cmpL P S ops l with
    | some so, some sl => if dstOk S o.dst = true ∧ okTag o.op so.op = true then some (so :: sl) else none
    | _, _ => none
section
variable {P : Program} {N : Nat → Prop} {w0 : World} {M0 : Nat → Prop} {β0 : Nat → Option Nat} {ds : List Deferred} {β : Nat → Option Nat} {fr : Regs} {σ : Hp} {F : Nat → Prop} {a : Act} {w : World}

theorem yielded_at {ops : Array Oper} {j d : Nat} (hd : (ops[j]?).bind (·.dst) = some d) (tmps : Array Value) : yielded ops tmps j = match tmps[d]? with
    | some (.bool b) => some b
    | _ => none := by unfold yielded; rw [hd]; rfl
theorem wanted_of (R : SRel N w0 M0 β0 ds β fr σ F a w) {ops : Array Oper} {o : Oper} {so : SOper} {d : Nat} {want : Bool} (hc : cmpO P ops o = some so) (hg : so.guard = some (d, want)) :
    (∀ b, fr d = .sc (.bool b) → Region.wanted o (yielded ops a.tmps) = (b == want)) ∧ (fr d = .tp [] → Region.wanted o (yielded ops a.tmps) = false) := by
  unfold cmpO at hc
  unfold Region.wanted
  cases hgo : o.guard with
  | none =>
    simp only [hgo] at hc
    obtain ⟨s, _, rfl⟩ := Option.map_eq_some_iff.1 hc
    cases hg
  | some g =>
    obtain ⟨j, want'⟩ := g
    simp only [hgo] at hc
    split at hc
    · rename_i d' s hd hs
      cases hc
      cases hg
      have hr := R.regs d
      have key := yielded_at hd a.tmps
      simp only [key]
      constructor
      · intro b hb
        rw [hb] at hr
        have := rel_sc hr
        rw [Array.getD_eq_getD_getElem?] at this
        cases hx : a.tmps[d]? with
        | none => rw [hx] at this; cases this
        | some v =>
          rw [hx] at this
          simp only [Option.getD_some] at this
          subst this
          simp
      · intro hb
        rw [hb] at hr
        generalize hx : a.tmps.getD d undef = v at hr
        cases hr with
        | tp vs _ hn _ =>
          rw [Array.getD_eq_getD_getElem?] at hx
          cases hx' : a.tmps[d]? with
          | none => rfl
          | some v =>
            rw [hx'] at hx
            simp only [Option.getD_some] at hx
            subst hx
            rfl
    · cases hc
theorem wanted_none {ops : Array Oper} {o : Oper} {so : SOper} (hc : cmpO P ops o = some so) (hg : so.guard = none) (y : Nat → Option Bool) : Region.wanted o y = true := by
  unfold cmpO at hc
  unfold Region.wanted
  cases hgo : o.guard with
  | none => rfl
  | some g =>
    obtain ⟨j, want'⟩ := g
    simp only [hgo] at hc
    split at hc
    · cases hc; cases hg
    · cases hc
theorem cmpO_op {ops : Array Oper} {o : Oper} {so : SOper} (hc : cmpO P ops o = some so) : cmp P o.op = some so.op ∧ so.dst = o.dst := by
  unfold cmpO at hc
  split at hc
  · obtain ⟨s, h, rfl⟩ := Option.map_eq_some_iff.1 hc; exact ⟨h, rfl⟩
  · split at hc
    · rename_i h; cases hc; exact ⟨h, rfl⟩
    · cases hc
theorem cmp_call {op : Op} {f : Opd} {args : List Opd} (h : cmp P op = some (.call f args)) (ht : okTag op (.call f args) = true) : ∃ c f', op = .call c ∧ c.callee = .value f' ∧ f = cOpd f' ∧ args = c.args.toList.map cOpd := by
  cases op <;> simp only [okTag, Bool.false_eq_true] at ht
  case call c =>
    cases hcal : c.callee <;> simp only [hcal, Bool.false_eq_true] at ht
    simp only [cmp, cmpCall, hcal, Option.some.injEq, SOp.call.injEq] at h
    exact ⟨c, _, rfl, hcal, h.1.symm, h.2.symm⟩
theorem cmp_pan {op : Op} {x : Opd} (h : cmp P op = some (.pan x)) (ht : okTag op (.pan x) = true) : ∃ x', op = .panic x' ∧ x = cOpd x' := by
  cases op <;> simp only [okTag, Bool.false_eq_true] at ht
  case panic y =>
    simp only [cmp, Option.some.injEq, SOp.pan.injEq] at h
    exact ⟨y, rfl, h.symm⟩
theorem put_size (a : Act) (d : Option Nat) (v : Value) : (a.put d v).tmps.size = a.tmps.size := by cases d <;> simp [Act.put]
theorem put_undef (R : SRel N w0 M0 β0 ds β fr σ F a w) (d : Option Nat) (hd : ∀ t, d = some t → t < a.tmps.size) : SRel N w0 M0 β0 ds β (Am.put fr d (.tp [])) σ F (a.put d undef) w :=
  R.put d hd (.tp #[] [] rfl (fun i u z h _ => by simp at h))
theorem bnd_of (R : SRel N w0 M0 β0 ds β fr σ F a w) (x : Operand) : bnd σ ((cOpd x).get fr) := by
  have h := rel_get R x
  generalize (cOpd x).get fr = X at h
  generalize a.eval x = u at h
  cases h <;> simp only [bnd] <;> try exact trivial
  · assumption
  · assumption
  all_goals
    intro b hb
    rcases R.heap.blk _ _ hb with ⟨_, h0⟩ | ⟨b', cells, e, h1, h2⟩
    · rw [h0]; simp
    · exact h2.2.2.2.1
/-- after a call: the caller's state goes on -/
theorem SRel.after (R : SRel N w0 M0 β0 ds β fr σ F a w) {e : Ending} {w' : World} {β' : Nat → Option Nat} {σ' : Hp} {F' : Nat → Prop} {r : AEnd} (h : Leaves N β σ w e w' β' σ' F' r) : SRel N w0 M0 β0 ds β' fr σ' F' a w' := by
  obtain ⟨h1, h2, h3, h4, h5⟩ := h
  have hM : ∀ b, b < w.heap.size → live N β' σ' b → live N β σ b := fun b hb h => h.imp (fun h => h) (fun h => h5 b h hb)
  have hb : ∀ b, b < w.heap.size → ¬ live N β σ b → w'.heap[b]? = w.heap[b]? := fun b hb hl => h4.block b hb (fun h => hl (.inr h))
  have hcell : ∀ ad u, w.cell? ad = some u → ¬ live N β σ ad.block → w'.cell? ad = some u := fun ad u hc hl => by
    have := World.block_lt_of_cell? w _ hc
    simpa only [World.cell?, hb _ this hl] using hc
  refine ⟨h2, fun t => Rel.step h1 hM hcell h4.shape (R.regs t), ?_, ?_, R.away, R.defers, fun i b hb => h1 i b (R.ext i b hb)⟩
  · exact ⟨h4.os.trans R.frame.os, h4.tape.trans R.frame.tape, h4.output.trans R.frame.output, Nat.le_trans R.frame.size h4.size, fun b hb hm => (h4.block b (Nat.lt_of_lt_of_le hb R.frame.size) (fun h => hm (R.old b h hb))).trans (R.frame.block b hb hm), fun b s hs => h4.shape b s (R.frame.shape b s hs)⟩
  · intro b hb hlt
    exact R.old b (h5 b hb (Nat.lt_of_lt_of_le hlt R.frame.size)) hlt
end
end Go.Proofs.Ytlhnncmflnjinaa.Am
