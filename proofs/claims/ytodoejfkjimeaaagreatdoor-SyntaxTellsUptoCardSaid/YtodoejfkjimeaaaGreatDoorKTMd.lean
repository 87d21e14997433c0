/- Packed by a program of this repo: Md Me Meb. -/
import Derived.Test.YtodoejfkjimeaaaGreatDoorKTBase
import Derived.Great.BuildSlice
import Derived.MapKept
set_option linter.unusedSimpArgs false
set_option linter.unusedVariables false
namespace Go.Proofs.YtodoejfkjimeaaaGreatDoor.Am
open Go Go.RowKit

section
variable {P : Program} {N : Nat → Prop} {w0 : World} {M0 : Nat → Prop} {β0 : Nat → Option Nat} {ds : List Deferred} {β : Nat → Option Nat} {fr : Regs} {σ : Hp} {F : Nat → Prop} {a : Act} {w : World}

def Good (P : Program) (o : Oper) (N : Nat → Prop) (w0 : World) (M0 : Nat → Prop) (β0 : Nat → Option Nat) (ds : List Deferred) (β : Nat → Option Nat) (fr : Regs) (σ : Hp) (F : Nat → Prop) (id : Nat) (a : Act) (w : World) (v : AV) (wr : Wr) : Prop :=
  ∃ u w' β', ((execOp a.eval o).run P w = .ok (.value u) w' ∨ ((execOp a.eval o).run P w = .ok .skip w' ∧ u = undef)) ∧ (∀ i b, β i = some b → β' i = some b) ∧
    SRel N w0 M0 β0 ds β' fr (applyW σ wr) (fun i => F i ∧ i ≠ id) a w' ∧ Rel (live N β' (applyW σ wr)) w' β' u v
def Cells (M : Nat → Prop) (w : World) (β : Nat → Option Nat) (cs : Array Value) (l : List AV) : Prop := cs.size = l.length ∧ ∀ (i : Nat) (u : Value) (z : AV), cs[i]? = some u → l[i]? = some z → Rel M w β u z
theorem cells_rel {β : Nat → Option Nat} {M : Nat → Prop} {v : Value} {x : AV} {l : List AV} (h : Rel M w β v x) (hl : x.cells = some l) : Cells M w β v.cells l := by
  have one : ∀ (h : Rel M w β v x), v.cells = #[v] → x.cells = some [x] → Cells M w β v.cells [x] := by
    intro h h1 _
    rw [h1]
    refine ⟨rfl, fun i u z hu hz => ?_⟩
    cases i with
    | zero => simp at hu hz; subst hu hz; exact h
    | succ i => simp at hu
  have h0 := h
  cases h <;> simp only [AV.cells, Option.some.injEq, reduceCtorEq] at hl
  case sc =>
    cases v <;> simp only [reduceCtorEq, Option.some.injEq] at hl <;> subst hl <;> exact one (.sc _) rfl rfl
  case ag vs l' hn hr => subst hl; exact ⟨hn, hr⟩
  case s => subst hl; exact one h0 rfl rfl
  case em => subst hl; exact one h0 rfl rfl
  case tr => subst hl; exact one h0 rfl rfl
  case ow => subst hl; exact one h0 rfl rfl
  case ow0 => subst hl; exact one h0 rfl rfl
  case mp => subst hl; exact one h0 rfl rfl
  case yl => subst hl; exact one h0 rfl rfl
  case rf => subst hl; exact one h0 rfl rfl
  case rt => subst hl; exact one h0 rfl rfl
  case ob => subst hl; exact one h0 rfl rfl
  case fp => subst hl; exact one h0 rfl rfl
  case fn => subst hl; exact one h0 rfl rfl
theorem cells_sc (M : Nat → Prop) (w : World) (β : Nat → Option Nat) (cs : Array Value) : Cells M w β cs (cs.toList.map ofC) := by
  refine ⟨by simp, fun i u z hu hz => ?_⟩
  rw [List.getElem?_map, show cs.toList[i]? = some u by simpa using hu] at hz
  cases hz; exact rel_ofC _ _ _ _
theorem leaf_one {β : Nat → Option Nat} {M : Nat → Prop} {v : Value} {x : AV} (h : Rel M w β v x) (hl : leafok x = true) : v.oneCell' = true := by
  cases h <;> simp only [leafok, Bool.false_eq_true] at hl <;> try rfl
  cases v <;> first | rfl | (simp at hl)
theorem fold_get (off : Nat) : ∀ (l : List Value) (n : Nat) (cs : Array Value) (i : Nat), off + n + l.length ≤ cs.size →
    ((l.zipIdx n).foldl (fun cs (p : Value × Nat) => cs.setIfInBounds (off + p.2) p.1) cs).size = cs.size ∧
    ((l.zipIdx n).foldl (fun cs (p : Value × Nat) => cs.setIfInBounds (off + p.2) p.1) cs)[i]? = if off + n ≤ i ∧ i < off + n + l.length then l[i - (off + n)]? else cs[i]?
  | [], n, cs, i, _ => by simp; intro h1 h2; omega
  | x :: l, n, cs, i, h => by
    simp only [List.zipIdx_cons, List.foldl_cons]
    simp at h
    obtain ⟨h1, h2⟩ := fold_get off l (n + 1) (cs.setIfInBounds (off + n) x) i (by simp; omega)
    refine ⟨by rw [h1]; simp, ?_⟩
    rw [h2]
    simp only [List.length_cons]
    by_cases e : i = off + n
    · subst e
      rw [if_neg (by omega), if_pos (by omega)]
      rw [Array.getElem?_setIfInBounds]
      simp; omega
    · by_cases hc : off + (n + 1) ≤ i ∧ i < off + (n + 1) + l.length
      · rw [if_pos hc, if_pos (by omega)]
        rw [show i - (off + n) = (i - (off + (n + 1))) + 1 by omega, List.getElem?_cons_succ]
      · rw [if_neg hc, if_neg (by omega), Array.getElem?_setIfInBounds, if_neg (by omega)]
theorem splice_get (l : List AV) (c : Nat) (x : List AV) (h : c + x.length ≤ l.length) (i : Nat) : (splice l c x)[i]? = if c ≤ i ∧ i < c + x.length then x[i - c]? else l[i]? := by
  unfold splice
  rw [List.getElem?_append, List.getElem?_append]
  simp only [List.length_append, List.length_take]
  by_cases h1 : i < c
  · rw [if_pos (by omega), if_pos (by omega), if_neg (by omega), List.getElem?_take, if_pos h1]
  · by_cases h2 : i < c + x.length
    · rw [if_pos (by omega), if_neg (by omega), if_pos (by omega)]
      congr 1; omega
    · rw [if_neg (by omega), if_neg (by omega), List.getElem?_drop]
      congr 1; omega
theorem splice_length (l : List AV) (c : Nat) (x : List AV) (h : c + x.length ≤ l.length) : (splice l c x).length = l.length := by
  unfold splice; simp; omega
theorem fill_one {β : Nat → Option Nat} {M : Nat → Prop} {cs : Array Value} {l : List AV} (h : Cells M w β cs l) {v : Value} {x : List AV} (hv : Cells M w β v.cells x) {off : Nat} (hoff : off + x.length ≤ l.length) :
    Cells M w β (v.cells.zipIdx.foldl (fun cs (p : Value × Nat) => cs.setIfInBounds (off + p.2) p.1) cs) (splice l off x) := by
  have hc := fun i => fold_get off v.cells.toList 0 cs i (by have := h.1; have := hv.1; simp; omega)
  have e : v.cells.zipIdx.foldl (fun cs (p : Value × Nat) => cs.setIfInBounds (off + p.2) p.1) cs = (v.cells.toList.zipIdx 0).foldl (fun cs (p : Value × Nat) => cs.setIfInBounds (off + p.2) p.1) cs := by
    rw [← Array.foldl_toList, Array.toList_zipIdx]
  rw [e]
  refine ⟨by rw [(hc 0).1, splice_length _ _ _ hoff, h.1], fun i u z hu hz => ?_⟩
  rw [(hc i).2] at hu
  rw [splice_get _ _ _ hoff] at hz
  have hl : v.cells.toList.length = x.length := by simpa using hv.1
  simp only [Nat.add_zero, hl] at hu
  split at hu
  · rename_i hcond
    rw [if_pos hcond] at hz
    exact hv.2 _ u z (by simpa using hu) hz
  · rename_i hcond
    rw [if_neg hcond] at hz
    exact h.2 i u z hu hz
theorem fill_rel (R : SRel N w0 M0 β0 ds β fr σ F a w) (places : List (Nat × Nat)) : ∀ (parts : List (Nat × Operand)) (ps : List (Nat × Nat × Opd)) (cs : Array Value) (l l' : List AV), partsT places parts = some ps → Cells (live N β σ) w β cs l → fillA (ps.map fun p => (p.1, p.2.1, p.2.2.get fr)) l = some l' →
    ∃ cs', Instr.fill (places.toArray[·]?) cs (parts.map fun (i, x) => (i, a.eval x)) = some cs' ∧ Cells (live N β σ) w β cs' l'
  | [], ps, cs, l, l', h1, h2, h3 => by
    simp only [partsT, Option.some.injEq] at h1
    subst h1
    simp only [List.map_nil, fillA, Option.some.injEq] at h3
    subst h3
    exact ⟨cs, rfl, h2⟩
  | (i, x) :: rest, ps, cs, l, l', h1, h2, h3 => by
    unfold partsT at h1
    cases hp : places[i]? with
    | none => simp [hp] at h1
    | some on =>
      obtain ⟨off, n⟩ := on
      cases hr : partsT places rest with
      | none => simp [hp, hr] at h1
      | some ps' =>
        simp only [hp, hr, Option.some.injEq] at h1
        subst h1
        simp only [List.map_cons] at h3
        unfold fillA at h3
        cases hc : ((cOpd x).get fr).cells with
        | none => simp [hc] at h3
        | some xs =>
          simp only [hc] at h3
          split at h3
          · rename_i hcond
            obtain ⟨e1, e2⟩ := hcond
            have hv := cells_rel (rel_get R x) hc
            have h2' := fill_one h2 hv (off := off) (by omega)
            obtain ⟨cs', e3, e4⟩ := fill_rel R places rest ps' _ _ l' hr h2' h3
            refine ⟨cs', ?_, e4⟩
            have hsz : (a.eval x).cells.size = n := by rw [hv.1, e1]
            have hle : ¬ (off + (a.eval x).cells.size > cs.size) := by rw [hsz, h2.1]; omega
            simp only [List.map_cons, Instr.fill, List.getElem?_toArray, hp, hsz, ne_eq, not_true_eq_false, decide_false, Bool.false_or]
            rw [if_neg (by rw [hsz] at hle; simpa using hle)]
            simpa using e3
          · cases h3
theorem fill_mono {place place' : Nat → Option (Nat × Nat)} (h : ∀ i p, place i = some p → place' i = some p) : ∀ (l : List (Nat × Value)) (cs r : Array Value), Instr.fill place cs l = some r → Instr.fill place' cs l = some r
  | [], cs, r, hr => hr
  | (i, v) :: rest, cs, r, hr => by
    simp only [Instr.fill] at hr ⊢
    cases hp : place i with
    | none => simp [hp] at hr
    | some p =>
      rw [h i p hp]
      rw [hp] at hr
      simp only at hr ⊢
      split at hr
      · cases hr
      · rename_i hc
        rw [if_neg hc]
        exact fill_mono h rest _ r hr
theorem good_build (R : SRel N w0 M0 β0 ds β fr σ F a w) {o : Oper} {t : TypeId} {parts : Array (Nat × Operand)} {d : TypeDesc} {zs : List Value} {places : List (Nat × Nat)} {ps : List (Nat × Nat × Opd)} {v : AV} (ho : o.op = .build t parts)
    (ht : P.underlying t = some d) (hz : zsT P t = some zs) (hp : placesT P d = some places) (hps : partsT places parts.toList = some ps)
    (hs : aBuild zs (ps.map fun p => (p.1, p.2.1, p.2.2.get fr)) = some v) : GoodR P o N β σ a w v := by
  unfold aBuild at hs
  obtain ⟨l, hf, rfl⟩ := Option.map_eq_some_iff.1 hs
  unfold zsT at hz
  obtain ⟨z, hz1, rfl⟩ := Option.map_eq_some_iff.1 hz
  obtain ⟨it, hit, hz2⟩ := Option.bind_eq_some_iff.1 hz1
  obtain ⟨cs, e1, e2⟩ := fill_rel R places parts.toList ps z.cells _ l hps (cells_sc _ _ _ _) hf
  refine ⟨.agg cs, ?_, .ag cs l e2.1 e2.2⟩
  cases d <;> simp only [placesT, reduceCtorEq] at hp
  case struct fs =>
    have := run_build (P := P) w t (parts.map fun (i, x) => (i, a.eval x)) cs (by simp only [Program.built, hit, ht, hz2, hp]; simpa using e1)
    simp [execOp, ho, this]
  case array n e =>
    split at hp
    · rename_i hn
      obtain ⟨ie, hie, hpl⟩ := Option.map_eq_some_iff.1 hp
      have e1' := fill_mono (place' := fun i => some (i * ie.size, ie.size)) (fun i p h => by
        rw [← hpl] at h
        simp only [List.getElem?_toArray, List.getElem?_map] at h
        obtain ⟨j, hj, rfl⟩ := Option.map_eq_some_iff.1 h
        obtain ⟨hj1, hj2⟩ := List.getElem?_eq_some_iff.1 hj
        simp at hj2
        rw [hj2]) _ _ _ e1
      simp [execOp, ho, Instr.build, zeroValue, typeInfo, hit, hz2, run_underlying ht, sizeOf, hie, e1']
    · cases hp
theorem Good.new {o : Oper} {id : Nat} {v : AV} {u : Value} (R : SRel N w0 M0 β0 ds β fr σ F a w) (hid : F id) {cells : Array Value} {e : TypeId} {x : Blk} (hn : x.rows.length * x.k ≤ cells.size) (hr : ∀ r ∈ x.rows, r.length = x.k) (hB : x.rows.length ≤ 4611686018427387904)
    (hc : ∀ (p q : Nat) (r : List AV) (a : AV), x.rows[p]? = some r → r[q]? = some a → ∃ u, cells[p * x.k + q]? = some u ∧ Rel (live N β σ) w (x.nm β) u a)
    (hrun : (execOp a.eval o).run P w = .ok (.value u) (w.alloc (.cells cells e)))
    (hv : Rel (live N (upd β id (some w.heap.size)) (upd σ id (some (.c x)))) (w.alloc (.cells cells e)) (upd β id (some w.heap.size)) u v) : Good P o N w0 M0 β0 ds β fr σ F id a w v [(id, some (.c x))] := by
  obtain ⟨h1, h2⟩ := R.new id hid cells e x hn hr hB hc
  have hβ0 := (R.heap.dom id hid).1
  exact ⟨u, _, _, .inl hrun, fun i b hb => by rw [upd_ne _ _ (fun e => by subst e; rw [hβ0] at hb; cases hb)]; exact hb, h1, hv⟩
theorem row_one {cells : Array Value} {l : List AV} (h : Cells (live N β σ) w β cells l) : ∀ (p q : Nat) (r : List AV) (z : AV), [l][p]? = some r → r[q]? = some z → ∃ u, cells[p * l.length + q]? = some u ∧ Rel (live N β σ) w β u z := by
  intro p q r z hp hq
  cases p with
  | zero =>
    simp at hp; subst hp
    have hlt : q < cells.size := by rw [h.1]; exact (List.getElem?_eq_some_iff.1 hq).1
    exact ⟨cells[q], by simp [hlt], h.2 q _ z (by simp [hlt]) hq⟩
  | succ p => simp at hp
theorem good_alloc (R : SRel N w0 M0 β0 ds β fr σ F a w) {o : Oper} {e : TypeId} {zs : List Value} {id : Nat} {v : AV} {wr : Wr} (hid : F id) (ho : o.op = .alloc e) (hz : zsT P e = some zs)
    (hs : hAlloc id zs = some (v, wr)) : Good P o N w0 M0 β0 ds β fr σ F id a w v wr := by
  simp only [hAlloc, Option.some.injEq, Prod.mk.injEq] at hs
  obtain ⟨rfl, rfl⟩ := hs
  unfold zsT at hz
  obtain ⟨z, hz1, rfl⟩ := Option.map_eq_some_iff.1 hz
  obtain ⟨it, hit, hz2⟩ := Option.bind_eq_some_iff.1 hz1
  have hrow := row_one (cells_sc (live N β σ) w β z.cells)
  refine .new R hid (cells := z.cells) (e := e) (x := ⟨z.cells.toList.length, [z.cells.toList.map ofC], true, false⟩) (by simp) (by simp) (by simp) (by simpa [Blk.nm] using hrow) (u := .pointer (some ⟨w.heap.size, 0, none⟩)) ?_ ?_
  · simp [execOp, ho, Instr.alloc, zeroValue, typeInfo, hit, hz2, newVar, newRow]
  · have := Rel.rf (β := upd β id (some w.heap.size)) (M := live N (upd β id (some w.heap.size)) (upd σ id (some (.c ⟨z.cells.toList.length, [z.cells.toList.map ofC], true, false⟩)))) (w := w.alloc (.cells z.cells e)) id z.cells.toList.length 0 0 w.heap.size (by simp)
    simpa using this
theorem good_allt (R : SRel N w0 M0 β0 ds β fr σ F a w) {o : Oper} {e : TypeId} {zs : List Value} {id : Nat} {v : AV} {wr : Wr} (hid : F id) (ho : o.op = .alloc e) (hz : zsT P e = some zs)
    (hs : hAllt id e zs = some (v, wr)) : Good P o N w0 M0 β0 ds β fr σ F id a w v wr := by
  simp only [hAllt, Option.some.injEq, Prod.mk.injEq] at hs
  obtain ⟨rfl, rfl⟩ := hs
  unfold zsT at hz
  obtain ⟨z, hz1, rfl⟩ := Option.map_eq_some_iff.1 hz
  obtain ⟨it, hit, hz2⟩ := Option.bind_eq_some_iff.1 hz1
  have hrow := row_one (cells_sc (live N β σ) w β z.cells)
  refine .new R hid (cells := z.cells) (e := e) (x := ⟨z.cells.toList.length, [z.cells.toList.map ofC], true, false⟩) (by simp) (by simp) (by simp) (by simpa [Blk.nm] using hrow) (u := .pointer (some ⟨w.heap.size, 0, none⟩)) ?_ ?_
  · simp [execOp, ho, Instr.alloc, zeroValue, typeInfo, hit, hz2, newVar, newRow]
  · exact Rel.rt (β := upd β id (some w.heap.size)) (M := live N (upd β id (some w.heap.size)) (upd σ id (some (.c ⟨z.cells.toList.length, [z.cells.toList.map ofC], true, false⟩)))) (w := w.alloc (.cells z.cells e)) id z.cells.toList.length e w.heap.size (by simp)
      (by unfold World.shape?; rw [heap_alloc_new w (.cells z.cells e)]; simp)
theorem good_box (R : SRel N w0 M0 β0 ds β fr σ F a w) {o : Oper} {e : TypeId} {x : Operand} {id : Nat} {v : AV} {wr : Wr} (hid : F id) (ho : o.op = .box e x)
    (hs : hBox id ((cOpd x).get fr) = some (v, wr)) : Good P o N w0 M0 β0 ds β fr σ F id a w v wr := by
  unfold hBox at hs
  cases hc : ((cOpd x).get fr).cells with
  | none => simp [hc] at hs
  | some l =>
    simp only [hc, Option.map_some, Option.some.injEq, Prod.mk.injEq] at hs
    obtain ⟨rfl, rfl⟩ := hs
    have hcl := cells_rel (rel_get R x) hc
    refine .new R hid (cells := (a.eval x).cells) (e := e) (x := ⟨l.length, [l], true, false⟩) (by simp [hcl.1]) (by simp) (by simp) (row_one hcl) (u := .pointer (some ⟨w.heap.size, 0, none⟩)) ?_ ?_
    · simp [execOp, ho, Instr.box, newVar, newRow]
    · have := Rel.rf (β := upd β id (some w.heap.size)) (M := live N (upd β id (some w.heap.size)) (upd σ id (some (.c ⟨l.length, [l], true, false⟩)))) (w := w.alloc (.cells (a.eval x).cells e)) id l.length 0 0 w.heap.size (by simp)
      simpa using this
theorem brwL_get (σ : Hp) (d : Nat) : ∀ (l cs : List AV) (I : List Nat), brwL σ d l = some (cs, I) → cs.length = l.length ∧ ∀ (i : Nat) (z : AV), l[i]? = some z → ∃ c J, cs[i]? = some c ∧ brw σ d z = some (c, J) ∧ ∀ j ∈ J, j ∈ I
  | [], cs, I, h => by
    simp only [brwL, List.foldr_nil, Option.some.injEq, Prod.mk.injEq] at h
    obtain ⟨rfl, rfl⟩ := h
    exact ⟨rfl, fun i z h => by simp at h⟩
  | x :: l, cs, I, h => by
    simp only [brwL, List.foldr_cons] at h
    split at h
    · rename_i c J cs' I' h1 h2
      simp only [Option.some.injEq, Prod.mk.injEq] at h
      obtain ⟨rfl, rfl⟩ := h
      obtain ⟨g1, g2⟩ := brwL_get σ d l cs' I' h2
      refine ⟨by simp [g1], fun i z hz => ?_⟩
      cases i with
      | zero => simp at hz; subst hz; exact ⟨c, J, rfl, h1, fun j hj => List.mem_append_left _ hj⟩
      | succ i =>
        simp only [List.getElem?_cons_succ] at hz ⊢
        obtain ⟨c', J', a1, a2, a3⟩ := g2 i z hz
        exact ⟨c', J', a1, a2, fun j hj => List.mem_append_right _ (a3 j hj)⟩
    · cases h
theorem brwR_get (σ : Hp) (d : Nat) : ∀ (l cs : List (List AV)) (I : List Nat), brwR σ d l = some (cs, I) → cs.length = l.length ∧ ∀ (i : Nat) (z : List AV), l[i]? = some z → ∃ c J, cs[i]? = some c ∧ brwL σ d z = some (c, J) ∧ ∀ j ∈ J, j ∈ I
  | [], cs, I, h => by
    simp only [brwR, List.foldr_nil, Option.some.injEq, Prod.mk.injEq] at h
    obtain ⟨rfl, rfl⟩ := h
    exact ⟨rfl, fun i z h => by simp at h⟩
  | x :: l, cs, I, h => by
    simp only [brwR, List.foldr_cons] at h
    split at h
    · rename_i c J cs' I' h1 h2
      simp only [Option.some.injEq, Prod.mk.injEq] at h
      obtain ⟨rfl, rfl⟩ := h
      obtain ⟨g1, g2⟩ := brwR_get σ d l cs' I' h2
      refine ⟨by simp [g1], fun i z hz => ?_⟩
      cases i with
      | zero => simp at hz; subst hz; exact ⟨c, J, rfl, h1, fun j hj => List.mem_append_left _ hj⟩
      | succ i =>
        simp only [List.getElem?_cons_succ] at hz ⊢
        obtain ⟨c', J', a1, a2, a3⟩ := g2 i z hz
        exact ⟨c', J', a1, a2, fun j hj => List.mem_append_right _ (a3 j hj)⟩
    · cases h
theorem brw_rel {M' : Nat → Prop} (H : HRel N β σ F w) (hM : ∀ b, M' b → live N β σ b) : ∀ (d : Nat) (x c : AV) (I : List Nat) (v : Value), brw σ d x = some (c, I) → Rel (live N β σ) w β v x → (∀ i ∈ I, ∀ b, β i = some b → ¬ M' b) → Rel M' w nob v c := by
  have mono : ∀ {v c}, Rel (live N β σ) w nob v c → Rel M' w nob v c := fun h => h.sub hM
  have base : ∀ (x c : AV) (v : Value), (c = x ∧ clo x = true) → x ≠ .em → Rel (live N β σ) w β v x → Rel M' w nob v c := by
    rintro x c v ⟨rfl, hx⟩ hne h
    refine mono ?_
    cases h <;> simp only [clo, Bool.false_eq_true] at hx
    · exact .any _
    · exact .sc _
    · exact .s _ _ (by assumption) (by assumption)
    · exact .em _
    · exact .tr _ _ _ _ _ (by assumption) (by assumption) (by assumption) (by assumption) (by assumption) (by assumption) (by assumption)
    · exact .fp _ _ _ (by assumption) (by assumption) (by assumption) (by assumption)
  have hem : ∀ v, Rel (live N β σ) w β v .em → Rel M' w nob v (.tr []) := by
    intro v h
    cases h with
    | em A => exact .tr A 0 1 [] (fun _ _ => undef) (by omega) (by simp) (by simp) (by simp) (by simp) (by simp) (by simp)
  intro d
  induction d with
  | zero =>
    intro x c I v hb h hI
    cases x <;> simp only [brw, Option.some.injEq, Prod.mk.injEq, reduceCtorEq] at hb
    · exact base _ _ _ ⟨hb.1.symm, rfl⟩ (by simp) h
    · exact base _ _ _ ⟨hb.1.symm, rfl⟩ (by simp) h
    · rw [← hb.1]; exact hem _ h
    · exact base _ _ _ ⟨hb.1.symm, rfl⟩ (by simp) h
    · exact base _ _ _ ⟨hb.1.symm, rfl⟩ (by simp) h
  | succ d ih =>
    intro x c I v hb h hI
    cases x with
    | any => simp [brw] at hb
    | bo => simp [brw] at hb
    | mp i => simp [brw] at hb
    | yl i => simp [brw] at hb
    | rt _ _ _ => simp [brw] at hb
    | ob _ _ => simp [brw] at hb
    | fn f l =>
      change (brwL σ d l).map (fun p => (AV.fn f p.1, p.2)) = some (c, I) at hb
      obtain ⟨⟨cs, I'⟩, h1, h2⟩ := Option.map_eq_some_iff.1 hb
      cases h2
      obtain ⟨g1, g2⟩ := brwL_get σ d l cs I' h1
      cases h with
      | fn _ vs _ hn hr =>
        refine .fn f vs cs (by rw [hn, g1]) (fun i u z hu hz => ?_)
        have hlt : i < l.length := by rw [← g1]; exact (List.getElem?_eq_some_iff.1 hz).1
        obtain ⟨c', J, a1, a2, a3⟩ := g2 i l[i] (List.getElem?_eq_getElem hlt)
        rw [hz] at a1; cases a1
        exact ih _ _ _ _ a2 (hr i u _ hu (List.getElem?_eq_getElem hlt)) (fun j hj => hI j (a3 j hj))
    | sc v => simp only [brw, Option.some.injEq, Prod.mk.injEq] at hb; exact base _ _ _ ⟨hb.1.symm, rfl⟩ (by simp) h
    | s l => simp only [brw, Option.some.injEq, Prod.mk.injEq] at hb; exact base _ _ _ ⟨hb.1.symm, rfl⟩ (by simp) h
    | em => simp only [brw, Option.some.injEq, Prod.mk.injEq] at hb; rw [← hb.1]; exact hem _ h
    | tr rows => simp only [brw, Option.some.injEq, Prod.mk.injEq] at hb; exact base _ _ _ ⟨hb.1.symm, rfl⟩ (by simp) h
    | fp l => simp only [brw, Option.some.injEq, Prod.mk.injEq] at hb; exact base _ _ _ ⟨hb.1.symm, rfl⟩ (by simp) h
    | ag l =>
      change (brwL σ d l).map (fun p => (AV.ag p.1, p.2)) = some (c, I) at hb
      obtain ⟨⟨cs, I'⟩, h1, h2⟩ := Option.map_eq_some_iff.1 hb
      cases h2
      obtain ⟨g1, g2⟩ := brwL_get σ d l cs I' h1
      cases h with
      | ag vs _ hn hr =>
        refine .ag vs cs (by rw [hn, g1]) (fun i u z hu hz => ?_)
        have hlt : i < l.length := by rw [← g1]; exact (List.getElem?_eq_some_iff.1 hz).1
        obtain ⟨c', J, a1, a2, a3⟩ := g2 i l[i] (List.getElem?_eq_getElem hlt)
        rw [hz] at a1; cases a1
        exact ih _ _ _ _ a2 (hr i u _ hu (List.getElem?_eq_getElem hlt)) (fun j hj => hI j (a3 j hj))
    | tp l =>
      change (brwL σ d l).map (fun p => (AV.tp p.1, p.2)) = some (c, I) at hb
      obtain ⟨⟨cs, I'⟩, h1, h2⟩ := Option.map_eq_some_iff.1 hb
      cases h2
      obtain ⟨g1, g2⟩ := brwL_get σ d l cs I' h1
      cases h with
      | tp vs _ hn hr =>
        refine .tp vs cs (by rw [hn, g1]) (fun i u z hu hz => ?_)
        have hlt : i < l.length := by rw [← g1]; exact (List.getElem?_eq_some_iff.1 hz).1
        obtain ⟨c', J, a1, a2, a3⟩ := g2 i l[i] (List.getElem?_eq_getElem hlt)
        rw [hz] at a1; cases a1
        exact ih _ _ _ _ a2 (hr i u _ hu (List.getElem?_eq_getElem hlt)) (fun j hj => hI j (a3 j hj))
    | ow i k off len =>
      change (match σ i with
        | some (.c x) => if x.k = k ∧ x.cl = true ∧ off + len ≤ x.rows.length ∧ 0 < k then some (AV.tr ((x.rows.drop off).take len), [i])
          else if x.k = k ∧ off + len ≤ x.rows.length ∧ 0 < k then (brwR σ d ((x.rows.drop off).take len)).map (fun p => (AV.tr p.1, i :: p.2)) else none
        | _ => none) = some (c, I) at hb
      split at hb
      · rename_i x hσ
        split at hb
        · rename_i hc
          obtain ⟨e1, e2, e3, e4⟩ := hc
          simp only [Option.some.injEq, Prod.mk.injEq] at hb
          obtain ⟨rfl, rfl⟩ := hb
          cases h with
          | ow0 A => exact .tr A 0 1 [] (fun _ _ => undef) (by omega) (by simp) (by simp) (by simp) (by simp) (by simp) (by simp)
          | ow _ _ _ _ cap b e n hb hl hs hn =>
            obtain ⟨cells, e', h2, h3, h4, h4', h5⟩ := H.phys hσ hb
            have hlen : ((x.rows.drop off).take len).length = len := by simp; omega
            have hget : ∀ (p : Nat) (r : List AV), ((x.rows.drop off).take len)[p]? = some r → x.rows[off + p]? = some r := fun p r hp => by
              rw [List.getElem?_take] at hp
              split at hp
              · rwa [List.getElem?_drop] at hp
              · cases hp
            have := Rel.tr (M := M') (w := w) (β := nob) (some ⟨b, off * k, none⟩) cap k ((x.rows.drop off).take len) (fun p q => cells.getD ((off + p) * k + q) undef) e4 (by omega) (by omega)
              (fun r hr => by rw [← e1]; exact h4 r (List.mem_of_mem_drop (List.mem_of_mem_take hr))) (fun _ => ⟨_, rfl, hI i (by simp) b hb⟩) ?_ ?_
            · rwa [hlen] at this
            · intro ad p q had hp hq
              cases had
              have hp' : x.rows[off + p]? = some x.rows[off + p] := List.getElem?_eq_getElem (by omega)
              have hl' : x.rows[off + p].length = k := by rw [← e1]; exact h4 _ (List.getElem_mem _)
              obtain ⟨u, hu, _⟩ := h5 (off + p) q _ (x.rows[off + p][q]'(by omega)) hp' (List.getElem?_eq_getElem (by omega))
              rw [e1] at hu
              rw [add_none, show off * k + (p * k + q) = (off + p) * k + q by rw [Nat.add_mul]; omega, blk_cell h2 hu]
              simp [Array.getD_eq_getD_getElem?, hu]
            · intro p q r z hp hq
              obtain ⟨u, hu, hr⟩ := h5 (off + p) q r z (hget p r hp) hq
              rw [e1] at hu
              have hr' : Rel (live N β σ) w nob u z := by unfold Blk.nm at hr; rw [if_pos e2] at hr; exact hr
              simpa [Array.getD_eq_getD_getElem?, hu] using mono hr'
        · split at hb
          · rename_i hc
            obtain ⟨e1, e3, e4⟩ := hc
            obtain ⟨⟨cs, I'⟩, k1, k2⟩ := Option.map_eq_some_iff.1 hb
            cases k2
            obtain ⟨g1, g2⟩ := brwR_get σ d _ cs I' k1
            cases h with
            | ow0 A =>
              have e0 : cs = [] := List.eq_nil_of_length_eq_zero (by rw [g1]; simp)
              subst e0
              exact .tr A 0 1 [] (fun _ _ => undef) (by omega) (by simp) (by simp) (by simp) (by simp) (by simp) (by simp)
            | ow _ _ _ _ cap b e n hb hl hs hn =>
              obtain ⟨cells, e', h2, h3, h4, h4', h5⟩ := H.phys hσ hb
              have hcl : cs.length = len := by rw [g1]; simp; omega
              have key : ∀ p, p < len → ∃ c', cs[p]? = some c' ∧ c'.length = k ∧ ∀ q, q < k → ∃ u c2, cells[(off + p) * k + q]? = some u ∧ c'[q]? = some c2 ∧ Rel M' w nob u c2 := by
                intro p hp
                have hp' : x.rows[off + p]? = some x.rows[off + p] := List.getElem?_eq_getElem (by omega)
                have hl' : x.rows[off + p].length = k := by rw [← e1]; exact h4 _ (List.getElem_mem _)
                have hq' : ((x.rows.drop off).take len)[p]? = some x.rows[off + p] := by rw [List.getElem?_take, if_pos hp, List.getElem?_drop]; exact hp'
                obtain ⟨c', J, a1, a2, a3⟩ := g2 p _ hq'
                obtain ⟨b1, b2⟩ := brwL_get σ d _ c' J a2
                refine ⟨c', a1, by omega, fun q hq => ?_⟩
                have hz : x.rows[off + p][q]? = some (x.rows[off + p][q]'(by omega)) := List.getElem?_eq_getElem (by omega)
                obtain ⟨u, hu, hr⟩ := h5 (off + p) q _ _ hp' hz
                obtain ⟨c2, J2, d1, d2, d3⟩ := b2 q _ hz
                exact ⟨u, c2, by rw [← e1]; exact hu, d1, ih _ _ _ _ d2 (nm_lift hr) (fun j hj => hI j (List.mem_cons_of_mem _ (a3 j (d3 j hj))))⟩
              have := Rel.tr (M := M') (w := w) (β := nob) (some ⟨b, off * k, none⟩) cap k cs (fun p q => cells.getD ((off + p) * k + q) undef) e4 (by omega) (by omega)
                (fun r hr => by
                  obtain ⟨p, hp⟩ := List.mem_iff_getElem?.1 hr
                  have hpl : p < len := by rw [← hcl]; exact (List.getElem?_eq_some_iff.1 hp).1
                  obtain ⟨c', a1, a2, _⟩ := key p hpl
                  rw [hp] at a1; cases a1; exact a2) (fun _ => ⟨_, rfl, hI i (by simp) b hb⟩) ?_ ?_
              · rwa [hcl] at this
              · intro ad p q had hp hq
                cases had
                obtain ⟨c', a1, a2, a3⟩ := key p (by omega)
                obtain ⟨u, c2, hu, _⟩ := a3 q hq
                rw [add_none, show off * k + (p * k + q) = (off + p) * k + q by rw [Nat.add_mul]; omega, blk_cell h2 hu]
                simp [Array.getD_eq_getD_getElem?, hu]
              · intro p q r z hp hq
                have hpl : p < len := by rw [← hcl]; exact (List.getElem?_eq_some_iff.1 hp).1
                obtain ⟨c', a1, a2, a3⟩ := key p hpl
                rw [hp] at a1; cases a1
                have hql : q < k := by rw [← a2]; exact (List.getElem?_eq_some_iff.1 hq).1
                obtain ⟨u, c2, hu, h2', hr⟩ := a3 q hql
                rw [hq] at h2'; cases h2'
                simpa [Array.getD_eq_getD_getElem?, hu] using hr
          · cases hb
      · cases hb
    | rf i k r cc =>
      change (match σ i with
        | some (.c x) => if x.k = k then (match x.rows[r]? with
          | some row => if cc < row.length then ((brwL σ d (row.drop cc)).map fun p => (AV.fp p.1, i :: p.2)) else none
          | none => none) else none
        | _ => none) = some (c, I) at hb
      split at hb
      · rename_i x hσ
        split at hb
        · rename_i e1
          cases hrow : x.rows[r]? with
          | none => simp [hrow] at hb
          | some row =>
            simp only [hrow] at hb
            split at hb
            · rename_i e2
              obtain ⟨⟨cs, I'⟩, k1, k2⟩ := Option.map_eq_some_iff.1 hb
              cases k2
              obtain ⟨g1, g2⟩ := brwL_get σ d _ cs I' k1
              cases h with
              | rf _ _ _ _ b hb =>
                obtain ⟨cells, e', h2, h3, h4, h4', h5⟩ := H.phys hσ hb
                have hrl : row.length = k := by rw [← e1]; exact h4 row (List.mem_of_getElem? hrow)
                simp only [List.length_drop] at g1
                have key : ∀ j, j < cs.length → ∃ u, cells[r * k + cc + j]? = some u ∧ ∃ z, (row.drop cc)[j]? = some z ∧ Rel (live N β σ) w β u z := by
                  intro j hj
                  have hlt : cc + j < row.length := by omega
                  obtain ⟨u, hu, hr⟩ := h5 r (cc + j) row row[cc + j] hrow (List.getElem?_eq_getElem hlt)
                  exact ⟨u, by rw [← e1, Nat.add_assoc]; exact hu, row[cc + j], by rw [List.getElem?_drop]; exact List.getElem?_eq_getElem hlt, nm_lift hr⟩
                refine .fp _ cs (fun j => cells.getD (r * k + cc + j) undef) (by intro e; rw [e] at g1; simp at g1; omega) (hI i (by simp) b hb) ?_ ?_
                · intro j hj
                  obtain ⟨u, hu, _⟩ := key j hj
                  rw [add_none, blk_cell h2 hu]
                  simp [Array.getD_eq_getD_getElem?, hu]
                · intro j y hy
                  have hj := (List.getElem?_eq_some_iff.1 hy).1
                  obtain ⟨u, hu, z, hz, hr⟩ := key j hj
                  obtain ⟨c', J, a1, a2, a3⟩ := g2 j z hz
                  rw [hy] at a1; cases a1
                  have := ih _ _ _ _ a2 hr (fun q hq => hI q (List.mem_cons_of_mem _ (a3 q hq)))
                  simpa [Array.getD_eq_getD_getElem?, hu] using this
            · cases hb
        · cases hb
      · cases hb
theorem Ob.frz_le (x y : Ob) (h : Ob.le x y) : Ob.le x.frz y ∧ x.frz.wr = false := by
  cases h with
  | lp L fr S st pe wr wr' hw => exact ⟨.lp _ _ _ _ _ _ _ (fun h => by cases h), rfl⟩
  | df o wr wr' hw => exact ⟨.df _ _ _ (fun h => by cases h), rfl⟩
  | c k rows wr wr' cl hw => exact ⟨.c _ _ _ _ _ (fun h => by cases h), rfl⟩
  | m es wr wr' hw => exact ⟨.m _ _ _ (fun h => by cases h), rfl⟩
theorem frz_get (σ : Hp) : ∀ (I : List Nat) (τ : Hp) (i : Nat) (x : Ob), applyW τ (frz σ I) i = some x → (∀ i x, τ i = some x → ∃ y, σ i = some y ∧ Ob.le x y) →
    (∃ y, σ i = some y ∧ Ob.le x y) ∧ ((i ∈ I ∨ ∀ x, τ i = some x → x.wr = false) → x.wr = false)
  | [], τ, i, x, h, hτ => ⟨hτ i x h, fun h' => (h'.resolve_left (by simp)) x h⟩
  | j :: I, τ, i, x, h, hτ => by
    simp only [frz, applyW] at h
    have hτ' : ∀ i x, (upd τ j ((σ j).map Ob.frz)) i = some x → ∃ y, σ i = some y ∧ Ob.le x y := by
      intro i x hx
      by_cases e : i = j
      · subst e
        rw [upd_same] at hx
        obtain ⟨y, hy, rfl⟩ := Option.map_eq_some_iff.1 hx
        exact ⟨y, hy, (Ob.frz_le y y (.refl y)).1⟩
      · rw [upd_ne _ _ e] at hx; exact hτ i x hx
    obtain ⟨g1, g2⟩ := frz_get σ I _ i x h hτ'
    refine ⟨g1, fun hi => g2 ?_⟩
    by_cases e : i = j
    · subst e
      refine .inr fun x hx => ?_
      rw [upd_same] at hx
      obtain ⟨y, hy, rfl⟩ := Option.map_eq_some_iff.1 hx
      exact (Ob.frz_le y y (.refl y)).2
    · rcases hi with hi | hi
      · exact .inl ((List.mem_cons.1 hi).resolve_left e)
      · exact .inr fun x hx => by rw [upd_ne _ _ e] at hx; exact hi x hx
theorem frz_less (σ : Hp) (I : List Nat) : ∀ i x, applyW σ (frz σ I) i = some x → ∃ y, σ i = some y ∧ Ob.le x y := fun i x h =>
  (frz_get σ I σ i x h (fun _ x h => ⟨x, h, .refl x⟩)).1
theorem frz_off (H : HRel N β σ F w) {I : List Nat} (hI : ∀ i ∈ I, (σ i).isSome) : (∀ b, live N β (applyW σ (frz σ I)) b → live N β σ b) ∧ ∀ i ∈ I, ∀ b, β i = some b → ¬ live N β (applyW σ (frz σ I)) b := by
  constructor
  · rintro b (h | ⟨i, x, h1, h2, h3⟩)
    · exact .inl h
    · obtain ⟨y, hy, hle⟩ := frz_less σ I i x h1
      exact .inr ⟨i, y, hy, hle.wr h2, h3⟩
  · rintro i hi b hb (h | ⟨j, x, h1, h2, h3⟩)
    · obtain ⟨y, hy⟩ := Option.isSome_iff_exists.1 (hI i hi)
      exact H.off i y b hy hb h
    · obtain ⟨y, hy, _⟩ := frz_less σ I j x h1
      have : j = i := H.inj j i b h3 hb (by simp [hy]) (hI i hi)
      subst this
      have := (frz_get σ I σ j x h1 (fun i x h => ⟨x, h, .refl x⟩)).2 (.inl hi)
      rw [this] at h2; cases h2
theorem brw_some (σ : Hp) : ∀ (d : Nat) (x c : AV) (I : List Nat), brw σ d x = some (c, I) → ∀ i ∈ I, (σ i).isSome := by
  have lst : ∀ d, (∀ (x c : AV) (I : List Nat), brw σ d x = some (c, I) → ∀ i ∈ I, (σ i).isSome) → ∀ (l cs : List AV) (I : List Nat), brwL σ d l = some (cs, I) → ∀ i ∈ I, (σ i).isSome := by
    intro d hd l
    induction l with
    | nil => intro cs I h i hi; simp only [brwL, List.foldr_nil, Option.some.injEq, Prod.mk.injEq] at h; rw [← h.2] at hi; cases hi
    | cons x l ih =>
      intro cs I h i hi
      simp only [brwL, List.foldr_cons] at h
      split at h
      · rename_i c J cs' I' h1 h2
        simp only [Option.some.injEq, Prod.mk.injEq] at h
        obtain ⟨rfl, rfl⟩ := h
        rcases List.mem_append.1 hi with hi | hi
        · exact hd _ _ _ h1 i hi
        · exact ih cs' I' h2 i hi
      · cases h
  have lstR : ∀ d, (∀ (x c : AV) (I : List Nat), brw σ d x = some (c, I) → ∀ i ∈ I, (σ i).isSome) → ∀ (l cs : List (List AV)) (I : List Nat), brwR σ d l = some (cs, I) → ∀ i ∈ I, (σ i).isSome := by
    intro d hd l
    induction l with
    | nil => intro cs I h i hi; simp only [brwR, List.foldr_nil, Option.some.injEq, Prod.mk.injEq] at h; rw [← h.2] at hi; cases hi
    | cons x l ih =>
      intro cs I h i hi
      simp only [brwR, List.foldr_cons] at h
      split at h
      · rename_i c J cs' I' h1 h2
        simp only [Option.some.injEq, Prod.mk.injEq] at h
        obtain ⟨rfl, rfl⟩ := h
        rcases List.mem_append.1 hi with hi | hi
        · exact lst d hd _ _ _ h1 i hi
        · exact ih cs' I' h2 i hi
      · cases h
  intro d
  induction d with
  | zero => intro x c I h i hi; cases x <;> simp only [brw, Option.some.injEq, Prod.mk.injEq, reduceCtorEq] at h <;> (rw [← h.2] at hi; cases hi)
  | succ d ih =>
    intro x c I h i hi
    cases x with
    | any => simp [brw] at h
    | bo => simp [brw] at h
    | mp i => simp [brw] at h
    | yl i => simp [brw] at h
    | rt _ _ _ => simp [brw] at h
    | ob _ _ => simp [brw] at h
    | s l => simp only [brw, Option.some.injEq, Prod.mk.injEq] at h; rw [← h.2] at hi; cases hi
    | em => simp only [brw, Option.some.injEq, Prod.mk.injEq] at h; rw [← h.2] at hi; cases hi
    | fn f l =>
      change (brwL σ d l).map (fun p => (AV.fn f p.1, p.2)) = some (c, I) at h
      obtain ⟨⟨cs, I'⟩, h1, h2⟩ := Option.map_eq_some_iff.1 h
      cases h2; exact lst d ih l cs I' h1 i hi
    | sc v => simp only [brw, Option.some.injEq, Prod.mk.injEq] at h; rw [← h.2] at hi; cases hi
    | tr rows => simp only [brw, Option.some.injEq, Prod.mk.injEq] at h; rw [← h.2] at hi; cases hi
    | fp l => simp only [brw, Option.some.injEq, Prod.mk.injEq] at h; rw [← h.2] at hi; cases hi
    | ag l =>
      change (brwL σ d l).map (fun p => (AV.ag p.1, p.2)) = some (c, I) at h
      obtain ⟨⟨cs, I'⟩, h1, h2⟩ := Option.map_eq_some_iff.1 h
      cases h2; exact lst d ih l cs I' h1 i hi
    | tp l =>
      change (brwL σ d l).map (fun p => (AV.tp p.1, p.2)) = some (c, I) at h
      obtain ⟨⟨cs, I'⟩, h1, h2⟩ := Option.map_eq_some_iff.1 h
      cases h2; exact lst d ih l cs I' h1 i hi
    | ow j k off len =>
      change (match σ j with
        | some (.c x) => if x.k = k ∧ x.cl = true ∧ off + len ≤ x.rows.length ∧ 0 < k then some (AV.tr ((x.rows.drop off).take len), [j])
          else if x.k = k ∧ off + len ≤ x.rows.length ∧ 0 < k then (brwR σ d ((x.rows.drop off).take len)).map (fun p => (AV.tr p.1, j :: p.2)) else none
        | _ => none) = some (c, I) at h
      split at h
      · rename_i x hσ
        split at h
        · simp only [Option.some.injEq, Prod.mk.injEq] at h
          rw [← h.2] at hi; simp at hi; subst hi; simp [hσ]
        · split at h
          · obtain ⟨⟨cs, I'⟩, k1, k2⟩ := Option.map_eq_some_iff.1 h
            cases k2
            rcases List.mem_cons.1 hi with rfl | hi
            · simp [hσ]
            · exact lstR d ih _ cs I' k1 i hi
          · cases h
      · cases h
    | rf j k r cc =>
      change (match σ j with
        | some (.c x) => if x.k = k then (match x.rows[r]? with
          | some row => if cc < row.length then ((brwL σ d (row.drop cc)).map fun p => (AV.fp p.1, j :: p.2)) else none
          | none => none) else none
        | _ => none) = some (c, I) at h
      split at h
      · rename_i x hσ
        split at h
        · cases hrow : x.rows[r]? with
          | none => simp [hrow] at h
          | some row =>
            simp only [hrow] at h
            split at h
            · obtain ⟨⟨cs, I'⟩, k1, k2⟩ := Option.map_eq_some_iff.1 h
              cases k2
              rcases List.mem_cons.1 hi with rfl | hi
              · simp [hσ]
              · exact lst d ih _ cs I' k1 i hi
            · cases h
        · cases h
      · cases h
theorem brwL_some {σ : Hp} {d : Nat} {l cs : List AV} {I : List Nat} (h : brwL σ d l = some (cs, I)) : ∀ i ∈ I, (σ i).isSome := by
  refine brw_some σ (d + 1) (.ag l) (.ag cs) I ?_
  change (brwL σ d l).map (fun p => (AV.ag p.1, p.2)) = _
  rw [h]; rfl
end
end Go.Proofs.YtodoejfkjimeaaaGreatDoor.Am

set_option linter.unusedSimpArgs false
set_option linter.unusedVariables false
namespace Go.Proofs.YtodoejfkjimeaaaGreatDoor.Am
open Go Go.RowKit

section
variable {P : Program} {N : Nat → Prop} {w0 : World} {M0 : Nat → Prop} {β0 : Nat → Option Nat} {ds : List Deferred} {β : Nat → Option Nat} {fr : Regs} {σ : Hp} {F : Nat → Prop} {a : Act} {w : World}
theorem SRel.setObj (h : SRel N w0 M0 β0 ds β fr σ F a w) {id : Nat} {x : Ob} {b : Nat} {w' : World} (hσ : σ id = some x) (hw : x.wr = true) (hb : β id = some b) (hos : w'.os = w.os) (htape : w'.tape = w.tape) (hout : w'.output = w.output) (hsz : w'.heap.size = w.heap.size)
    (hother : ∀ g, g ≠ b → w'.heap[g]? = w.heap[g]?) (hshape : ∀ s, w.shape? b = some s → w'.shape? b = some s) (y : Ob)
    (hyl : ∀ L gr S st pe wr, y = .lp L gr S st pe wr → ∃ tm D, w'.heap[b]? = some (.loop { state := st, pending := pe, fn := L.fn, tmps := tm, params := L.params, assign := L.assign, body := L.body, defers := D }) ∧ β L.d = some D ∧ tm.size = S ∧ ∀ t, Rel (live N β σ) w β (tm.getD t undef) (gr t)) (hyd : ∀ p wr, y = .df p wr → w'.heap[b]? = some (.deferred (if p = true then some [] else none)))
    (hc : ∀ z, y = .c z → ∃ cells e, w'.heap[b]? = some (.cells cells e (0, 0)) ∧ z.rows.length * z.k ≤ cells.size ∧ (∀ r ∈ z.rows, r.length = z.k) ∧ z.rows.length ≤ 4611686018427387904 ∧
      ∀ (p q : Nat) (r : List AV) (a : AV), z.rows[p]? = some r → r[q]? = some a → ∃ u, cells[p * z.k + q]? = some u ∧ Rel (live N β σ) w (z.nm β) u a)
    (hm : ∀ es wr, y = .m es wr → ∃ ms cl, w'.heap[b]? = some (.map ms cl) ∧ ms.size = es.length ∧ ∀ (p : Nat) (e : AV × AV) (m : MapEntry), es[p]? = some e → ms[p]? = some m → Rel (live N β σ) w nob m.key e.1 ∧ Rel (live N β σ) w nob m.val e.2) :
    SRel N w0 M0 β0 ds β fr (upd σ id (some y)) F a w' ∧ (∀ {β' v z}, Rel (live N β σ) w β' v z → Rel (live N β (upd σ id (some y))) w' β' v z) := by
  have hown : own β σ b := ⟨id, x, hσ, hw, hb⟩
  have hlive : live N β σ b := .inr hown
  have hl0 : ∀ g, own β (upd σ id (some y)) g → own β σ g := by
    rintro g ⟨i, z, h1, h2, h3⟩
    by_cases e : i = id
    · subst e; exact ⟨i, x, hσ, hw, h3⟩
    · rw [upd_ne _ _ e] at h1; exact ⟨i, z, h1, h2, h3⟩
  have hl : ∀ g, g < w.heap.size → live N β (upd σ id (some y)) g → live N β σ g := fun g _ h => h.imp (fun h => h) (hl0 g)
  have k3 : ∀ ad u, w.cell? ad = some u → ¬ live N β σ ad.block → w'.cell? ad = some u := by
    intro ad u hcell hm
    have hne : ad.block ≠ b := fun e => hm (e ▸ hlive)
    simpa only [World.cell?, hother _ hne] using hcell
  have k4 : ∀ g s, w.shape? g = some s → w'.shape? g = some s := by
    intro g s hs
    by_cases e : g = b
    · subst e; exact hshape s hs
    · simpa only [World.shape?, hother _ e] using hs
  have up : ∀ {β' v z}, Rel (live N β σ) w β' v z → Rel (live N β (upd σ id (some y))) w' β' v z := fun hr => Rel.step (fun _ _ h => h) hl k3 k4 hr
  have hlp' : ∀ i L fr S st pe wr, (upd σ id (some y)) i = some (.lp L fr S st pe wr) → ∃ b tm D, β i = some b ∧ LpAt (live N β (upd σ id (some y))) w' β L fr S st pe b tm D := by
    intro i L fr S st pe wr hz
    by_cases e : i = id
    · subst e; rw [upd_same] at hz; cases hz
      obtain ⟨tm, D, g1, g2, g3, g4⟩ := hyl _ _ _ _ _ _ rfl
      exact ⟨b, tm, D, hb, g1, g2, g3, fun t => up (g4 t)⟩
    · rw [upd_ne _ _ e] at hz
      obtain ⟨g, tm, D, h1, h2⟩ := h.heap.lp i L fr S st pe wr hz
      have hne : g ≠ b := fun e2 => e (h.heap.inj i id b (e2 ▸ h1) hb (by simp [hz]) (by simp [hσ]))
      exact ⟨g, tm, D, h1, h2.step (fun _ _ h => h) hl k3 k4 (hother g hne)⟩
  have hdf' : ∀ i p wr, (upd σ id (some y)) i = some (.df p wr) → ∃ b, β i = some b ∧ w'.heap[b]? = some (.deferred (if p = true then some [] else none)) := by
    intro i p wr hz
    by_cases e : i = id
    · subst e; rw [upd_same] at hz; cases hz
      exact ⟨b, hb, hyd _ _ rfl⟩
    · rw [upd_ne _ _ e] at hz
      obtain ⟨g, h1, h2⟩ := h.heap.df i p wr hz
      have hne : g ≠ b := fun e2 => e (h.heap.inj i id b (e2 ▸ h1) hb (by simp [hz]) (by simp [hσ]))
      exact ⟨g, h1, (hother g hne).trans h2⟩
  refine ⟨⟨⟨?_, ?_, ?_, ?_, ?_, hlp', hdf'⟩, fun t => up (h.regs t), ?_, fun g hg => h.old g (hl0 g hg), h.away, h.defers, h.ext⟩, up⟩
  · intro i hi
    have hne : i ≠ id := fun e => by subst e; rw [(h.heap.dom i hi).2] at hσ; cases hσ
    rw [upd_ne _ _ hne]; exact h.heap.dom i hi
  · intro i z g hz hg
    by_cases e : i = id
    · subst e; exact h.heap.off i x g hσ hg
    · rw [upd_ne _ _ e] at hz; exact h.heap.off i z g hz hg
  · intro i j g hi hj si sj
    have k : ∀ i, ((upd σ id (some y)) i).isSome → (σ i).isSome := by
      intro i hi
      by_cases e : i = id
      · subst e; simp [hσ]
      · rwa [upd_ne _ _ e] at hi
    exact h.heap.inj i j g hi hj (k i si) (k j sj)
  · intro i z hz
    by_cases e : i = id
    · subst e
      rw [upd_same] at hz; cases hz
      obtain ⟨cells, e, g1, g2, g3, g4, g5⟩ := hc z rfl
      exact .inr ⟨b, cells, e, hb, g1, g2, g3, g4, fun p q r a hp hq => let ⟨u, hu, hr⟩ := g5 p q r a hp hq; ⟨u, hu, up hr⟩⟩
    · rw [upd_ne _ _ e] at hz
      rcases h.heap.blk i z hz with h0 | ⟨g, cs, e', h1, h2⟩
      · exact .inl h0
      · have hne : g ≠ b := fun e2 => e (h.heap.inj i id b (e2 ▸ h1) hb (by simp [hz]) (by simp [hσ]))
        exact .inr ⟨g, cs, e', h1, h2.step (fun _ _ h => h) hl k3 k4 (hother g hne)⟩
  · intro i es wr hz
    by_cases e : i = id
    · subst e
      rw [upd_same] at hz; cases hz
      obtain ⟨ms, cl, g1, g2, g3⟩ := hm es wr rfl
      exact ⟨b, ms, cl, hb, g1, g2, fun p e m hp hm => ⟨up (g3 p e m hp hm).1, up (g3 p e m hp hm).2⟩⟩
    · rw [upd_ne _ _ e] at hz
      obtain ⟨g, ms, cl, h1, h2⟩ := h.heap.map i es wr hz
      have hne : g ≠ b := fun e2 => e (h.heap.inj i id b (e2 ▸ h1) hb (by simp [hz]) (by simp [hσ]))
      exact ⟨g, ms, cl, h1, h2.step hl k3 k4 (hother g hne)⟩
  · refine ⟨hos.trans h.frame.os, htape.trans h.frame.tape, hout.trans h.frame.output, by rw [hsz]; exact h.frame.size, fun g h1 h2 => ?_, fun g s hs => k4 g s (h.frame.shape g s hs)⟩
    have hne : g ≠ b := fun e => h2 (e ▸ h.old b hown (e ▸ h1))
    rw [hother g hne]; exact h.frame.block g h1 h2
theorem SRel.set (h : SRel N w0 M0 β0 ds β fr σ F a w) {id : Nat} {x : Ob} {b : Nat} {cells : Array Value} {e : TypeId} (hσ : σ id = some x) (hw : x.wr = true) (hb : β id = some b) (hh : w.heap[b]? = some (.cells cells e (0, 0)))
    (cells' : Array Value) (hsz : cells'.size = cells.size) (y : Blk) (hn : y.rows.length * y.k ≤ cells'.size) (hr : ∀ r ∈ y.rows, r.length = y.k) (hB : y.rows.length ≤ 4611686018427387904)
    (hc : ∀ (p q : Nat) (r : List AV) (z : AV), y.rows[p]? = some r → r[q]? = some z → ∃ u, cells'[p * y.k + q]? = some u ∧ Rel (live N β σ) w (y.nm β) u z) :
    SRel N w0 M0 β0 ds β fr (upd σ id (some (.c y))) F a (w.setRow b cells') ∧ (∀ {β' v z}, Rel (live N β σ) w β' v z → Rel (live N β (upd σ id (some (.c y)))) (w.setRow b cells') β' v z) := by
  refine h.setObj (w' := w.setRow b cells') hσ hw hb rfl rfl rfl (by simp) (fun g hg => setRow_other w b g cells' hg) ?_ (.c y) (fun _ _ _ _ _ _ h => by cases h) (fun _ _ h => by cases h) (fun z hz => ?_) (fun es wr h => by cases h)
  · intro s hs
    simp only [World.shape?, hh] at hs
    simp only [World.shape?, setRow_heap w b cells cells' _ _ hh, hsz]
    exact hs
  · cases hz
    exact ⟨cells', _, setRow_heap w b cells cells' _ _ hh, hn, hr, hB, hc⟩
theorem clo_rel {β β' : Nat → Option Nat} {M : Nat → Prop} {v : Value} {x : AV} (h : Rel M w β v x) (hc : clo x = true) : Rel M w β' v x := by
  cases h <;> simp only [clo, Bool.false_eq_true] at hc
  · exact .any _
  · exact .sc _
  · exact .s _ _ (by assumption) (by assumption)
  · exact .em _
  · exact .tr _ _ _ _ _ (by assumption) (by assumption) (by assumption) (by assumption) (by assumption) (by assumption) (by assumption)
  · exact .fp _ _ _ (by assumption) (by assumption) (by assumption) (by assumption)
theorem applyW_append (σ : Hp) : ∀ (l1 l2 : Wr), applyW σ (l1 ++ l2) = applyW (applyW σ l1) l2 := by
  intro l1
  induction l1 generalizing σ with
  | nil => intro l2; rfl
  | cons p l1 ih => intro l2; obtain ⟨i, x⟩ := p; exact ih _ l2
theorem good_st (R : SRel N w0 M0 β0 ds β fr σ F a w) {o : Oper} {t : TypeId} {m : Nat} {x y : Operand} {id : Nat} {v : AV} {wr : Wr} (ho : o.op = .store t x y) (hm : szT P t = some m)
    (hs : hSt σ m ((cOpd x).get fr) ((cOpd y).get fr) = some (v, wr)) : Good P o N w0 M0 β0 ds β fr σ F id a w v wr := by
  have h := rel_get R x
  have hy := rel_get R y
  unfold szT at hm
  obtain ⟨inf, hinf, hsz⟩ := Option.map_eq_some_iff.1 hm
  generalize (cOpd x).get fr = X at h hs
  generalize hu : a.eval x = u at h
  obtain ⟨X, h, hs, hnt⟩ : ∃ X, Rel (live N β σ) w β u X ∧ hSt σ m X ((cOpd y).get fr) = some (v, wr) ∧ ∀ i k t, X ≠ .rt i k t := by
    cases X with
    | rt i k t => exact ⟨.rf i k 0 0, rel_rt h, hs, fun _ _ _ h => by cases h⟩
    | _ => exact ⟨_, h, hs, fun _ _ _ h => by cases h⟩
  unfold hSt at hs
  cases h <;> simp only [reduceCtorEq] at hs
  case rt => exact absurd rfl (hnt _ _ _)
  case rf i k r c b hb =>
    cases hσ : σ i with
    | none => simp [hσ] at hs
    | some q0 =>
    cases q0 with
    | m es wr => simp [hσ] at hs
    | lp L fr S st pe wr => simp [hσ] at hs
    | df o wr => simp [hσ] at hs
    | c q =>
      simp only [hσ] at hs
      split at hs
      · rename_i hk
        obtain ⟨hk, hw⟩ := hk
        cases hrow : q.rows[r]? with
        | none => simp [hrow] at hs
        | some row =>
          cases hc : ((cOpd y).get fr).cells with
          | none => simp [hrow, hc] at hs
          | some l =>
            simp only [hrow, hc] at hs
            split at hs
            · rename_i hcond
              obtain ⟨hl, hcm, hleaf⟩ := hcond
              simp only [Option.some.injEq, Prod.mk.injEq] at hs
              obtain ⟨rfl, rfl⟩ := hs
              obtain ⟨cells, e, h2, h3, h4, h4', h5⟩ := R.heap.phys hσ hb
              have hrl : row.length = k := by rw [← hk]; exact h4 row (List.mem_of_getElem? hrow)
              have hlt := (List.getElem?_eq_some_iff.1 hrow).1
              have hcl := cells_rel hy hc
              have hbd : r * k + c + l.length ≤ cells.size := by
                have : (r + 1) * k ≤ q.rows.length * k := Nat.mul_le_mul_right _ hlt
                rw [hk] at h3
                rw [Nat.add_mul] at this
                omega
              have hone : ∀ u ∈ (a.eval y).cells.toList, u.oneCell' = true := by
                intro u hu
                obtain ⟨j, hj⟩ := List.mem_iff_getElem?.1 hu
                have hjl : j < l.length := by rw [← hcl.1]; simpa using (List.getElem?_eq_some_iff.1 hj).1
                exact leaf_one (hcl.2 j u l[j] (by simpa using hj) (List.getElem?_eq_getElem hjl)) (List.all_eq_true.1 hleaf _ (List.getElem_mem hjl))
              have hsl : (a.eval y).cells.toList.length = l.length := by simpa using hcl.1
              have hst := run_storeCells_at (P := P) b (r * k + c) e (a.eval y).cells.toList 0 cells w h2 (by rw [hsl]; omega) hone
              simp only [Nat.add_zero] at hst
              have hcells' : ∀ j, (cells.toList.take (r * k + c) ++ (a.eval y).cells.toList ++ cells.toList.drop (r * k + c + (a.eval y).cells.toList.length)).toArray[j]? = if r * k + c ≤ j ∧ j < r * k + c + l.length then (a.eval y).cells[j - (r * k + c)]? else cells[j]? := by
                intro j
                rw [List.getElem?_toArray, List.getElem?_append, List.getElem?_append]
                simp only [List.length_append, List.length_take, hsl, Array.length_toList]
                by_cases g1 : j < r * k + c
                · rw [if_pos (by omega), if_pos (by omega), if_neg (by omega), List.getElem?_take, if_pos g1]; simp
                · by_cases g2 : j < r * k + c + l.length
                  · rw [if_pos (by omega), if_neg (by omega), if_pos (by omega)]
                    rw [show j - min (r * k + c) cells.size = j - (r * k + c) by omega]; simp
                  · rw [if_neg (by omega), if_neg (by omega), List.getElem?_drop]
                    rw [show r * k + c + l.length + (j - (min (r * k + c) cells.size + l.length)) = j by omega]; simp
              have hsz' : (cells.toList.take (r * k + c) ++ (a.eval y).cells.toList ++ cells.toList.drop (r * k + c + (a.eval y).cells.toList.length)).toArray.size = cells.size := by
                simp only [List.size_toArray, List.length_append, List.length_take, List.length_drop, hsl, Array.length_toList]; omega
              have hsp := splice_length row c l (by omega)
              have hR : ∀ r' ∈ (q.rows.set r (splice row c l)), r'.length = k := by
                intro z hz
                rcases List.mem_or_eq_of_mem_set hz with hz | rfl
                · rw [← hk]; exact h4 z hz
                · exact hsp.trans hrl
              have hC : ∀ (p q' : Nat) (z : List AV) (v : AV), (q.rows.set r (splice row c l))[p]? = some z → z[q']? = some v → ∃ u, (cells.toList.take (r * k + c) ++ (a.eval y).cells.toList ++ cells.toList.drop (r * k + c + (a.eval y).cells.toList.length)).toArray[p * k + q']? = some u ∧ Rel (live N β σ) w ((⟨k, q.rows.set r (splice row c l), true, q.cl && l.all clo⟩ : Blk).nm β) u v := by
                have hup : ∀ {u v}, Rel (live N β σ) w (q.nm β) u v → Rel (live N β σ) w ((⟨k, q.rows.set r (splice row c l), true, q.cl && l.all clo⟩ : Blk).nm β) u v := by
                  intro u v hr
                  unfold Blk.nm at hr ⊢
                  by_cases hq : q.cl = true
                  · rw [if_pos hq] at hr
                    exact Rel.step (fun _ _ h => by cases h) (fun _ _ h => h) (fun _ _ h _ => h) (fun _ _ h => h) hr
                  · rw [if_neg hq] at hr
                    rw [if_neg (by simp [hq])]; exact hr
                intro p q' z v hp hq
                simp only [List.getElem?_set] at hp
                simp only [hcells']
                by_cases ep : r = p
                · subst ep
                  simp only [if_true, hlt] at hp
                  cases hp
                  rw [splice_get _ _ _ (by omega)] at hq
                  by_cases g : c ≤ q' ∧ q' < c + l.length
                  · rw [if_pos g] at hq
                    rw [if_pos (by omega)]
                    have hjl : q' - c < (a.eval y).cells.size := by rw [hcl.1]; omega
                    have hrel := hcl.2 (q' - c) (a.eval y).cells[q' - c] v (by simp [hjl]) hq
                    refine ⟨(a.eval y).cells[q' - c], ?_, ?_⟩
                    rotate_left
                    · unfold Blk.nm
                      split
                      · rename_i hcq
                        have hcq' : (q.cl && l.all clo) = true := hcq
                        rw [Bool.and_eq_true] at hcq'
                        exact clo_rel hrel (List.all_eq_true.1 hcq'.2 _ (List.mem_of_getElem? hq))
                      · exact hrel
                    rw [show r * k + q' - (r * k + c) = q' - c by omega]; simp [hjl]
                  · rw [if_neg g] at hq
                    rw [if_neg (by omega)]
                    obtain ⟨u, hu, hr⟩ := h5 r q' row v hrow hq
                    exact ⟨u, by rw [← hk]; exact hu, hup hr⟩
                · rw [if_neg ep] at hp
                  have hzl : z.length = k := by rw [← hk]; exact h4 z (List.mem_of_getElem? hp)
                  have hq'l : q' < k := by rw [← hzl]; exact (List.getElem?_eq_some_iff.1 hq).1
                  rw [if_neg ?_]
                  · obtain ⟨u, hu, hr⟩ := h5 p q' z v hp hq
                    exact ⟨u, by rw [← hk]; exact hu, hup hr⟩
                  · rintro ⟨g1, g2⟩
                    rcases Nat.lt_or_ge p r with hlt' | hge
                    · have : (p + 1) * k ≤ r * k := Nat.mul_le_mul_right _ hlt'
                      rw [Nat.add_mul] at this; omega
                    · have : (r + 1) * k ≤ p * k := Nat.mul_le_mul_right _ (by omega)
                      rw [Nat.add_mul] at this; omega
              obtain ⟨g1, g2⟩ := R.set hσ hw hb h2 _ hsz' ⟨k, q.rows.set r (splice row c l), true, q.cl && l.all clo⟩ (by rw [hsz']; simpa [← hk] using h3) hR (by simpa using h4') hC
              refine ⟨undef, _, β, .inr ⟨?_, rfl⟩, fun _ _ h => h, g1.free (fun _ h => h.1), ?_⟩
              · have hcs : (a.eval y).cells.size = inf.size := by rw [hcl.1, hl, hsz]
                simp [execOp, ho, hu, Instr.storeAt, Instr.sureAddr, storeVar, sizeOf, typeInfo, hinf, hcs, hst]
              · exact .tp #[] [] rfl (fun i u z h _ => by simp at h)
            · cases hs
      · cases hs
def RowsC (M : Nat → Prop) (w : World) (β : Nat → Option Nat) (k : Nat) (cs : Array Value) (rows : List (List AV)) : Prop :=
  cs.size = rows.length * k ∧ (∀ r ∈ rows, r.length = k) ∧ ∀ (p q : Nat) (r : List AV) (z : AV), rows[p]? = some r → r[q]? = some z → ∃ u, cs[p * k + q]? = some u ∧ Rel M w β u z
theorem fillR_rel (R : SRel N w0 M0 β0 ds β fr σ F a w) (k : Nat) : ∀ (parts : List (Nat × Operand)) (cs : Array Value) (l l' : List (List AV)) (I I' : List Nat), fillR σ k (parts.map fun p => (p.1, (cOpd p.2).get fr)) l I = some (l', I') → (∀ i ∈ I, (σ i).isSome) →
    (∀ i ∈ I, i ∈ I') ∧ (∀ i ∈ I', (σ i).isSome) ∧ ∀ (M' : Nat → Prop), (∀ b, M' b → live N β σ b) → (∀ i ∈ I', ∀ b, β i = some b → ¬ M' b) → RowsC M' w nob k cs l →
    ∃ cs', Instr.fill (fun i => some (i * k, k)) cs (parts.map fun (i, x) => (i, a.eval x)) = some cs' ∧ RowsC M' w nob k cs' l' ∧ l'.length = l.length
  | [], cs, l, l', I, I', h3, hI => by
    simp only [List.map_nil, fillR, Option.some.injEq, Prod.mk.injEq] at h3
    obtain ⟨rfl, rfl⟩ := h3
    exact ⟨fun _ h => h, hI, fun M' _ _ h2 => ⟨cs, rfl, h2, rfl⟩⟩
  | (i, x) :: rest, cs, l, l', I, I', h3, hI => by
    simp only [List.map_cons] at h3
    unfold fillR at h3
    cases hb : brw σ 6 ((cOpd x).get fr) with
    | none => simp [hb] at h3
    | some cJ =>
      obtain ⟨c, J⟩ := cJ
      simp only [hb] at h3
      cases hc : c.cells with
      | none => simp [hc] at h3
      | some xs =>
        simp only [hc] at h3
        split at h3
        · rename_i hcond
          obtain ⟨e1, e2⟩ := hcond
          obtain ⟨q1, q2, q3⟩ := fillR_rel R k rest ((a.eval x).cells.zipIdx.foldl (fun cs (p : Value × Nat) => cs.setIfInBounds (i * k + p.2) p.1) cs) (l.set i xs) l' (J ++ I) I' h3
            (fun j hj => by rcases List.mem_append.1 hj with hj | hj; exact brw_some σ 6 _ _ _ hb j hj; exact hI j hj)
          refine ⟨fun j hj => q1 j (List.mem_append_right _ hj), q2, fun M' hM hI' h2 => ?_⟩
          have hv := cells_rel (brw_rel R.heap hM 6 _ _ _ _ hb (rel_get R x) (fun j hj => hI' j (q1 j (List.mem_append_left _ hj)))) hc
          have hsz : (a.eval x).cells.size = k := by rw [hv.1, e1]
          have hbd : i * k + k ≤ cs.size := by
            rw [h2.1]
            have : (i + 1) * k ≤ l.length * k := Nat.mul_le_mul_right _ e2
            rwa [Nat.add_mul, Nat.one_mul] at this
          have hf := fun j => fold_get (i * k) (a.eval x).cells.toList 0 cs j (by simp; omega)
          have e : (a.eval x).cells.zipIdx.foldl (fun cs (p : Value × Nat) => cs.setIfInBounds (i * k + p.2) p.1) cs = ((a.eval x).cells.toList.zipIdx 0).foldl (fun cs (p : Value × Nat) => cs.setIfInBounds (i * k + p.2) p.1) cs := by
            rw [← Array.foldl_toList, Array.toList_zipIdx]
          have h2' : RowsC M' w nob k ((a.eval x).cells.zipIdx.foldl (fun cs (p : Value × Nat) => cs.setIfInBounds (i * k + p.2) p.1) cs) (l.set i xs) := by
            rw [e]
            refine ⟨by rw [(hf 0).1, h2.1]; simp, fun r hr => ?_, fun p q r z hp hq => ?_⟩
            · rcases List.mem_or_eq_of_mem_set hr with hr | rfl
              · exact h2.2.1 r hr
              · exact e1
            · rw [(hf _).2]
              simp only [Nat.add_zero, Array.length_toList, hsz, Array.getElem?_toList]
              simp only [List.getElem?_set] at hp
              by_cases ep : i = p
              · subst ep
                simp only [if_true, e2] at hp
                cases hp
                have hql := (List.getElem?_eq_some_iff.1 hq).1
                rw [if_pos (by omega)]
                have hjl : q < (a.eval x).cells.size := by omega
                exact ⟨(a.eval x).cells[q], by rw [show i * k + q - i * k = q by omega]; simp [hjl], hv.2 q _ z (by simp [hjl]) hq⟩
              · rw [if_neg ep] at hp
                have hzl := h2.2.1 r (List.mem_of_getElem? hp)
                have hql := (List.getElem?_eq_some_iff.1 hq).1
                rw [if_neg ?_]
                · exact h2.2.2 p q r z hp hq
                · rintro ⟨g1, g2⟩
                  rcases Nat.lt_or_ge p i with hlt' | hge
                  · have : (p + 1) * k ≤ i * k := Nat.mul_le_mul_right _ hlt'
                    rw [Nat.add_mul] at this; omega
                  · have : (i + 1) * k ≤ p * k := Nat.mul_le_mul_right _ (by omega)
                    rw [Nat.add_mul] at this; omega
          obtain ⟨cs', e3, e4, e5⟩ := q3 M' hM hI' h2'
          refine ⟨cs', ?_, e4, by rw [e5]; simp⟩
          simp only [List.map_cons, Instr.fill, hsz, ne_eq, not_true_eq_false, decide_false, Bool.false_or]
          rw [if_neg (by simpa using hbd)]
          exact e3
        · cases h3
theorem good_bsl (R : SRel N w0 M0 β0 ds β fr σ F a w) {o : Oper} {t e : TypeId} {len k : Nat} {parts : Array (Nat × Operand)} {zs : List Value} {id : Nat} {v : AV} {wr : Wr} (hid : F id) (ho : o.op = .buildSlice t len parts) (ht : P.underlying t = some (.slice e)) (hk : szT P e = some k) (hz : zsT P e = some zs)
    (hk0 : 0 < k) (hzk : zs.length = k) (hsmall : len * k ≤ 16777216) (hs : hBsl σ id k zs len (parts.toList.map fun p => (p.1, (cOpd p.2).get fr)) = some (v, wr)) : Good P o N w0 M0 β0 ds β fr σ F id a w v wr := by
  unfold hBsl at hs
  unfold szT at hk
  obtain ⟨inf, hinf, hsz⟩ := Option.map_eq_some_iff.1 hk
  unfold zsT at hz
  obtain ⟨z, hz1, rfl⟩ := Option.map_eq_some_iff.1 hz
  obtain ⟨it, hit, hz2⟩ := Option.bind_eq_some_iff.1 hz1
  rw [hinf] at hit; cases hit
  cases hf : fillR σ k (parts.toList.map fun p => (p.1, (cOpd p.2).get fr)) (List.replicate len (z.cells.toList.map ofC)) [] with
  | none => simp [hf] at hs
  | some rI =>
    obtain ⟨rows, I⟩ := rI
    simp only [hf, Option.some.injEq, Prod.mk.injEq] at hs
    obtain ⟨rfl, rfl⟩ := hs
    have hzs : z.cells.size = k := by simpa using hzk
    obtain ⟨_, hIs, hfill⟩ := fillR_rel R k parts.toList ((Array.range (len * k)).map (z.cells[· % z.cells.size]!)) _ rows [] I hf (fun i h => by cases h)
    obtain ⟨hl1, hl2⟩ := frz_off R.heap hIs
    obtain ⟨R1, up1⟩ := R.less (frz_less σ I)
    have h0 : RowsC (live N β (applyW σ (frz σ I))) w nob k ((Array.range (len * k)).map (z.cells[· % z.cells.size]!)) (List.replicate len (z.cells.toList.map ofC)) := by
      refine ⟨by simp, fun r hr => by rw [List.eq_of_mem_replicate hr]; simpa using hzs, fun p q r u hp hq => ?_⟩
      rw [List.getElem?_replicate] at hp
      split at hp
      · rename_i hpl
        cases hp
        have hql : q < k := by have := (List.getElem?_eq_some_iff.1 hq).1; simpa [hzs] using this
        have hlt : p * k + q < len * k := by
          have : (p + 1) * k ≤ len * k := Nat.mul_le_mul_right _ hpl
          rw [Nat.add_mul] at this; omega
        have hmod : (p * k + q) % z.cells.size = q := by rw [hzs, Nat.mul_comm, Nat.mul_add_mod, Nat.mod_eq_of_lt hql]
        refine ⟨z.cells[q]'(by omega), by simp [hlt, hmod, getElem!_pos z.cells q (by omega)], ?_⟩
        simp [show q < z.cells.size by omega] at hq
        subst hq; exact rel_ofC _ _ _ _
      · cases hp
    obtain ⟨cs, e1, e2, e3⟩ := hfill _ hl1 hl2 h0
    have e3' : rows.length = len := by simpa using e3
    have hrun : (execOp a.eval o).run P w = .ok (.value (.slice (some ⟨w.heap.size, 0, none⟩) len len)) (w.alloc (.cells cs e)) := by
      have e1' : Instr.fill (fun i => some (i * inf.size, inf.size)) ((Array.range (len * inf.size)).map (z.cells[· % z.cells.size]!)) (parts.map fun (i, x) => (i, a.eval x)).toList = some cs := by rw [hsz]; simpa using e1
      by_cases hl0 : len = 0
      · subst hl0
        have hr0 : rows = [] := List.eq_nil_of_length_eq_zero e3'
        have hp0 : parts.toList = [] := by
          cases hp : parts.toList with
          | nil => rfl
          | cons x rest =>
            obtain ⟨i, x⟩ := x
            rw [hp] at hf
            simp only [List.map_cons, List.replicate_zero] at hf
            unfold fillR at hf
            split at hf
            · split at hf
              · simp at hf
              · cases hf
            · cases hf
        have hp0' : parts = #[] := by apply Array.ext'; simpa using hp0
        subst hp0'
        have hcs : cs = #[] := by
          have := e2.1; rw [hr0] at this; simpa using this
        subst hcs
        simp [execOp, ho, Instr.buildSlice, run_underlying ht, sizeOf, typeInfo, hinf, Instr.fill, newRow]
        congr 2
        exact Array.eq_empty_of_size_eq_zero (by simp)
      · have := run_buildSlice w t e len (parts.map fun (i, x) => (i, a.eval x)) cs inf z ht hinf hz2 (by rw [hsz]; omega) (by rw [hsz]; intro h; rcases Nat.mul_eq_zero.1 h with h | h <;> omega) e1'
        simp [execOp, ho, this]
    have hgood := Good.new (P := P) (o := o) (u := .slice (some ⟨w.heap.size, 0, none⟩) len len) (v := .ow id k 0 len) R1 hid (cells := cs) (e := e) (x := ⟨k, rows, true, true⟩) (by simp [e2.1]) e2.2.1 (by rw [e3']; have : len * 1 ≤ len * k := Nat.mul_le_mul_left _ hk0; omega) e2.2.2 hrun (by
      have := Rel.ow (β := upd β id (some w.heap.size)) (M := live N (upd β id (some w.heap.size)) (upd (applyW σ (frz σ I)) id (some (.c ⟨k, rows, true, true⟩)))) (w := w.alloc (.cells cs e)) id k 0 len len w.heap.size e cs.size (by simp) (Nat.le_refl _)
        (by unfold World.shape?; rw [heap_alloc_new w (.cells cs e)]) (by rw [e2.1, e3', Nat.zero_add]; exact Nat.le_refl _)
      simpa using this)
    obtain ⟨u, w', β', g1, g2, g3, g4⟩ := hgood
    refine ⟨u, w', β', g1, g2, ?_, ?_⟩
    · rw [applyW_append]; exact g3
    · rw [applyW_append]; exact g4
theorem src_of {k n : Nat} (hk : 0 < k) {tx e' : TypeId} (htx : P.underlying tx = some (.slice e')) {ad : Addr} {c : Nat} {f : Nat → Nat → Value} {rows : List (List AV)} (hn : rows.length = n) (hr : ∀ r ∈ rows, r.length = k)
    (hleaf : rows.all (fun r => r.all leafok) = true) (hcell : ∀ p q, p < n → q < k → w.cell? (ad.add (p * k + q)) = some (f p q))
    (hrel : ∀ (p q : Nat) (r : List AV) (z : AV), rows[p]? = some r → r[q]? = some z → Rel (live N β σ) w nob (f p q) z) :
    ∃ us : List Value, Src P k tx (.slice (some ad) n c) n us w ∧ ∀ (p q : Nat) (r : List AV) (z : AV), rows[p]? = some r → r[q]? = some z → ∃ u, us[p * k + q]? = some u ∧ Rel (live N β σ) w nob u z := by
  have hlt : ∀ p q, p < n → q < k → p * k + q < n * k := fun p q h1 h2 => by
    have : (p + 1) * k ≤ n * k := Nat.mul_le_mul_right _ h1
    rw [Nat.add_mul] at this; omega
  have hdm : ∀ p q, q < k → (p * k + q) / k = p ∧ (p * k + q) % k = q := fun p q h => by
    constructor
    · rw [Nat.mul_comm, Nat.mul_add_div hk, Nat.div_eq_of_lt h, Nat.add_zero]
    · rw [Nat.mul_comm, Nat.mul_add_mod, Nat.mod_eq_of_lt h]
  have hback : ∀ j, j < n * k → j / k < n ∧ j % k < k ∧ j / k * k + j % k = j := fun j h => by
    refine ⟨Nat.div_lt_of_lt_mul (by rwa [Nat.mul_comm]), Nat.mod_lt _ hk, ?_⟩
    rw [Nat.mul_comm]; exact Nat.div_add_mod j k
  refine ⟨(List.range (n * k)).map (fun j => f (j / k) (j % k)), Src.ofSlice w htx ad n c _ (by simp) ?_ ?_, ?_⟩
  · intro j u hu
    have hj : j < n * k := by
      have := (List.getElem?_eq_some_iff.1 hu).1; simpa using this
    rw [List.getElem?_map, List.getElem?_range hj] at hu
    cases hu
    obtain ⟨h1, h2, h3⟩ := hback j hj
    have := hcell _ _ h1 h2
    rwa [h3] at this
  · intro u hu
    obtain ⟨j, hj, rfl⟩ := List.mem_map.1 hu
    have hj' : j < n * k := by simpa using hj
    obtain ⟨h1, h2, h3⟩ := hback j hj'
    have hp : rows[j / k]? = some rows[j / k] := List.getElem?_eq_getElem (by omega)
    have hmem := List.getElem_mem (l := rows) (n := j / k) (by omega)
    have hl := hr _ hmem
    have hq : rows[j / k][j % k]? = some rows[j / k][j % k] := List.getElem?_eq_getElem (by omega)
    exact leaf_one (hrel _ _ _ _ hp hq) (List.all_eq_true.1 (List.all_eq_true.1 hleaf _ hmem) _ (List.getElem_mem _))
  · intro p q r z hp hq
    have hpl := (List.getElem?_eq_some_iff.1 hp).1
    have hql := (List.getElem?_eq_some_iff.1 hq).1
    rw [hr r (List.mem_of_getElem? hp)] at hql
    refine ⟨f p q, ?_, hrel p q r z hp hq⟩
    rw [List.getElem?_map, List.getElem?_range (hlt p q (by omega) hql), Option.map_some, (hdm p q hql).1, (hdm p q hql).2]
theorem rel_ow {β : Nat → Option Nat} {M : Nat → Prop} {v : Value} {x : AV} (h : Rel M w β v x) {id k off len : Nat} (e : x = .ow id k off len) : (off = 0 ∧ len = 0 ∧ ∃ A, v = .slice A 0 0) ∨ ∃ cap b e n, v = .slice (some ⟨b, off * k, none⟩) len cap ∧ β id = some b ∧ len ≤ cap ∧ w.shape? b = some (e, n) ∧ (off + cap) * k ≤ n := by
  cases h with
  | ow id' k' off' len' cap b ee n hb hl hs hn => cases e; exact .inr ⟨cap, b, ee, n, rfl, hb, hl, hs, hn⟩
  | ow0 A => cases e; exact .inl ⟨rfl, rfl, A, rfl⟩
  | _ => cases e
theorem src_nil {k : Nat} {tx e' : TypeId} (htx : P.underlying tx = some (.slice e')) (A : Option Addr) (c : Nat) : ∃ us : List Value, Src P k tx (.slice A 0 c) 0 us w ∧ us = [] := by
  cases A with
  | none => exact ⟨[], Src.ofNil w htx _, rfl⟩
  | some ad => exact ⟨[], Src.ofSlice w htx ad 0 c [] (by simp) (fun j u h => by simp at h) (fun u h => by cases h), rfl⟩
theorem rows_src (R : SRel N w0 M0 β0 ds β fr σ F a w) (y : Operand) {k : Nat} (hk : 0 < k) {news : List (List AV)} (hy : rowsOf σ k ((cOpd y).get fr) = some news) (hleaf : news.all (fun r => r.all leafok) = true) {tx e' : TypeId} (htx : P.underlying tx = some (.slice e')) :
    ∃ us : List Value, Src P k tx (a.eval y) news.length us w ∧ (∀ r ∈ news, r.length = k) ∧ ∀ (p q : Nat) (r : List AV) (z : AV), news[p]? = some r → r[q]? = some z → ∃ u, us[p * k + q]? = some u ∧ Rel (live N β σ) w nob u z := by
  have h := rel_get R y
  generalize (cOpd y).get fr = Y at h hy
  generalize hu : a.eval y = u at h
  unfold rowsOf at hy
  split at hy
  · cases hy
    cases h with
    | em A =>
      obtain ⟨us, h1, rfl⟩ := src_nil (P := P) (w := w) (k := k) htx A 0
      exact ⟨[], h1, (fun r h => by cases h), fun p q r z hp => by simp at hp⟩
  · rename_i rows
    split at hy
    · rename_i hall
      cases hy
      have hr0 := all_len hall
      cases h with
      | tr A c k' rows us hk0 hc hB hr hA hcell hrel =>
      by_cases hne : news = []
      · subst hne
        obtain ⟨us, h1, rfl⟩ := src_nil (P := P) (w := w) (k := k) htx A c
        exact ⟨[], h1, hr0, fun p q r z hp => by simp at hp⟩
      · obtain ⟨ad, rfl, hm⟩ := hA hne
        have hkk : k' = k := by
          cases news with
          | nil => exact absurd rfl hne
          | cons r0 news => rw [← hr r0 (by simp)]; exact hr0 r0 (by simp)
        subst hkk
        obtain ⟨us', h1, h2⟩ := src_of (P := P) hk htx (c := c) rfl hr hleaf (fun p q hp hq => hcell ad p q rfl hp hq) hrel
        exact ⟨us', h1, hr, h2⟩
    · cases hy
  · rename_i i k' off len
    split at hy
    · rename_i e; subst e
      split at hy
      · rename_i x hσ
        split at hy
        · rename_i hcond
          obtain ⟨e1, ecl, e2⟩ := hcond
          cases hy
          rcases rel_ow h rfl with ⟨rfl, rfl, A, rfl⟩ | ⟨cap, b, e, n, rfl, hb, hl, hs, hn⟩
          · obtain ⟨us, h1, rfl⟩ := src_nil (P := P) (w := w) (k := k') htx A 0
            have hl0 : ((x.rows.drop 0).take 0).length = 0 := by simp
            exact ⟨[], by simpa using h1, (fun r h => by simp at h), fun p q r z hp => by simp at hp⟩
          · obtain ⟨cells, e3, h2, h3, h4, h4', h5⟩ := R.heap.phys hσ hb
            have hlen : ((x.rows.drop off).take len).length = len := by simp; omega
            have hrows : ∀ r ∈ (x.rows.drop off).take len, r.length = k' := fun r hr => by rw [← e1]; exact h4 r (List.mem_of_mem_drop (List.mem_of_mem_take hr))
            have hget : ∀ (p : Nat) (r : List AV), ((x.rows.drop off).take len)[p]? = some r → x.rows[off + p]? = some r := fun p r hp => by
              rw [List.getElem?_take] at hp
              split at hp
              · rwa [List.getElem?_drop] at hp
              · cases hp
            have hC1 : ∀ p q, p < len → q < k' → w.cell? ((⟨b, off * k', none⟩ : Addr).add (p * k' + q)) = some ((fun p q => cells.getD ((off + p) * k' + q) undef) p q) := by
              intro p q hp hq
              have hp' : x.rows[off + p]? = some x.rows[off + p] := List.getElem?_eq_getElem (by omega)
              have hl' : x.rows[off + p].length = k' := by rw [← e1]; exact h4 _ (List.getElem_mem _)
              obtain ⟨u, hu, _⟩ := h5 (off + p) q _ (x.rows[off + p][q]'(by omega)) hp' (List.getElem?_eq_getElem (by omega))
              rw [e1] at hu
              rw [add_none, show off * k' + (p * k' + q) = (off + p) * k' + q by rw [Nat.add_mul]; omega, blk_cell h2 hu]
              simp [Array.getD_eq_getD_getElem?, hu]
            have hC2 : ∀ (p q : Nat) (r : List AV) (z : AV), ((x.rows.drop off).take len)[p]? = some r → r[q]? = some z → Rel (live N β σ) w nob ((fun p q => cells.getD ((off + p) * k' + q) undef) p q) z := by
              intro p q r z hp hq
              obtain ⟨u, hu, hr⟩ := h5 (off + p) q r z (hget p r hp) hq
              rw [e1] at hu
              have hr' : Rel (live N β σ) w nob u z := by unfold Blk.nm at hr; rw [if_pos ecl] at hr; exact hr
              simpa [Array.getD_eq_getD_getElem?, hu] using hr'
            obtain ⟨us', g1, g2⟩ := src_of (P := P) (β := β) (σ := σ) (w := w) (ad := ⟨b, off * k', none⟩) (c := cap) (f := fun p q => cells.getD ((off + p) * k' + q) undef) hk htx hlen hrows hleaf hC1 hC2
            rw [hlen]
            exact ⟨us', g1, hrows, g2⟩
        · cases hy
      · cases hy
    · cases hy
  · cases hy
theorem slice_of_rows {M : Nat → Prop} {β : Nat → Option Nat} {σ : Hp} {k : Nat} {u : Value} {Y : AV} {rows : List (List AV)} (h : Rel M w β u Y) (hy : rowsOf σ k Y = some rows) : ∃ A c, u = .slice A rows.length c := by
  unfold rowsOf at hy
  split at hy
  · cases hy
    cases h with
    | em A => exact ⟨A, 0, rfl⟩
  · rename_i rows'
    split at hy
    · cases hy
      cases h with
      | tr A c k' rows us hk0 hc hB hr hA hcell hrel => exact ⟨A, c, rfl⟩
    · cases hy
  · rename_i i k' off len
    split at hy
    · split at hy
      · rename_i x hσ
        split at hy
        · rename_i hcond
          cases hy
          rcases rel_ow h rfl with ⟨rfl, rfl, A, rfl⟩ | ⟨cap, b, e, n, rfl, hb, hl, hs, hn⟩
          · exact ⟨A, 0, by simp⟩
          · refine ⟨some ⟨b, off * k', none⟩, cap, ?_⟩
            have hlen : ((x.rows.drop off).take len).length = len := by simp; omega
            rw [hlen]
        · cases hy
      · cases hy
    · cases hy
  · cases hy
theorem bytesOf_at : ∀ {rows : List (List AV)} {ns : List Int}, bytesOf rows = some ns → rows = ns.map fun n => [.sc (.int .u8 n)]
  | [], ns, h => by cases h; rfl
  | r :: rs, ns, h => by
    simp only [bytesOf] at h
    split at h
    · obtain ⟨ms, h1, rfl⟩ := Option.map_eq_some_iff.1 h
      rw [bytesOf_at h1]; rfl
    · cases h
theorem push_bytes : ∀ (ns : List Int) (s : ByteArray), (ns.foldl (fun r n => r.push (UInt8.ofNat n.toNat)) s).data.toList = s.data.toList ++ ns.map fun n => UInt8.ofNat n.toNat
  | [], s => by simp
  | n :: ns, s => by
    rw [List.foldl_cons, push_bytes ns]
    simp [ByteArray.push]
theorem good_cvb (R : SRel N w0 M0 β0 ds β fr σ F a w) {o : Oper} {x : Operand} {s d e : TypeId} {v : AV} (ho : o.op = .convert s d x) (h1 : P.underlying s = some (.slice e)) (he : P.underlying e = some (.int .u8)) (h2 : P.underlying d = some .string)
    (hs : aCvb σ ((cOpd x).get fr) = some v) : GoodR P o N β σ a w v := by
  unfold aCvb at hs
  split at hs
  · rename_i rows hrows
    split at hs
    · rename_i hlen
      obtain ⟨ns, hns, rfl⟩ := Option.map_eq_some_iff.1 hs
      have hrw := bytesOf_at hns
      subst hrw
      obtain ⟨us, hsrc, hnr, hnc⟩ := rows_src (P := P) R x (by omega : 0 < 1) hrows (by simp [leafok]) h1
      obtain ⟨A, c, hu⟩ := slice_of_rows (rel_get R x) hrows
      simp only [List.length_map] at hu hsrc hlen
      have hus : us = ns.map (Value.int .u8) := by
        refine List.ext_getElem? fun i => ?_
        by_cases hi : i < ns.length
        · obtain ⟨u, g1, g2⟩ := hnc i 0 [.sc (.int .u8 ns[i])] (.sc (.int .u8 ns[i])) (by simp [hi]) rfl
          rw [Nat.mul_one, Nat.add_zero] at g1
          cases g2
          rw [g1]; simp [hi]
        · rw [List.getElem?_eq_none (by rw [hsrc.newsLen]; omega), List.getElem?_eq_none (by simp; omega)]
      subst hus
      have hrun : (execOp a.eval o).run P w = .ok (.value (.string (ns.foldl (fun r n => r.push (UInt8.ofNat n.toNat)) ByteArray.empty))) w := by
        have hc := hsrc.cells
        rw [hu] at hc
        have hconv : (convert s d (.slice A ns.length c)).run P w = .ok (.string (ns.foldl (fun r n => r.push (UInt8.ofNat n.toNat)) ByteArray.empty)) w := by
          rw [run_convert_bytes_string w s d e A ns.length c h1 he h2]
          cases A with
          | none =>
            simp only [Builtin.firstCells, Sem.run_pure] at hc
            injection hc with hc _
            have hn : ns = [] := by
              have : (ns.map (Value.int .u8)).length = 0 := by
                have := congrArg Array.size hc
                simpa using this.symm
              simpa using this
            subst hn
            rfl
          | some ad =>
            simp only [Builtin.firstCells, Nat.mul_one] at hc
            exact run_bytesToString w ad ns.length c ns hc
        simp [execOp, ho, hu, hconv]
      refine ⟨_, hrun, .s _ _ ?_ (by simpa using hlen)⟩
      rw [push_bytes]; simp
    · cases hs
  · cases hs
theorem drew_world (R : SRel N w0 M0 β0 ds β fr σ F a w) : SRel N w0 M0 β0 ds β fr σ F a w.drew := R.world rfl rfl rfl (Nat.le_refl _) (fun _ _ => rfl)
theorem rel_drew {M : Nat → Prop} {v : Value} {z : AV} (h : Rel M w β v z) : Rel M w.drew β v z := Rel.step (w := w) (w' := w.drew) (fun _ _ h => h) (fun _ _ h => h) (fun _ _ h _ => h) (fun _ _ h => h) h
theorem rows_append {M : Nat → Prop} {k : Nat} {old news : List (List AV)} {us us' : List Value} {tail : Array Value} (hl : us.length = old.length * k)
    (h1 : ∀ (p q : Nat) (r : List AV) (z : AV), old[p]? = some r → r[q]? = some z → ∃ u, us[p * k + q]? = some u ∧ Rel M w β u z) (_hrow : ∀ r ∈ old, r.length = k)
    (h2 : ∀ (p q : Nat) (r : List AV) (z : AV), news[p]? = some r → r[q]? = some z → ∃ u, us'[p * k + q]? = some u ∧ Rel M w β u z) :
    ∀ (p q : Nat) (r : List AV) (z : AV), (old ++ news)[p]? = some r → r[q]? = some z → ∃ u, ((us ++ us').toArray ++ tail)[p * k + q]? = some u ∧ Rel M w β u z := by
  intro p q r z hp hq
  have key : ∃ u, (us ++ us')[p * k + q]? = some u ∧ Rel M w β u z := by
    rw [List.getElem?_append] at hp
    split at hp
    · rename_i hpl
      obtain ⟨u, hu, hr⟩ := h1 p q r z hp hq
      have hlt := (List.getElem?_eq_some_iff.1 hu).1
      exact ⟨u, by rw [List.getElem?_append_left hlt]; exact hu, hr⟩
    · rename_i hpl
      obtain ⟨u, hu, hr⟩ := h2 _ q r z hp hq
      refine ⟨u, ?_, hr⟩
      have : old.length * k ≤ p * k := Nat.mul_le_mul_right _ (by omega)
      rw [List.getElem?_append_right (by omega), hl, show p * k + q - old.length * k = (p - old.length) * k + q by rw [Nat.sub_mul]; omega]
      exact hu
  obtain ⟨u, hu, hr⟩ := key
  have hlt := (List.getElem?_eq_some_iff.1 hu).1
  exact ⟨u, by rw [Array.getElem?_append_left (by simpa using hlt)]; simpa using hu, hr⟩
theorem grown_ge (w : World) (n c : Nat) (e : TypeId) : n ≤ grownCap w n c e := by
  unfold grownCap
  simp only [Question.cut]
  omega
theorem Good.new' {o : Oper} {id : Nat} {v : AV} {u : Value} {w1 : World} (R : SRel N w0 M0 β0 ds β fr σ F a w1) (hid : F id) {cells : Array Value} {e : TypeId} {x : Blk} (hn : x.rows.length * x.k ≤ cells.size) (hr : ∀ r ∈ x.rows, r.length = x.k) (hB : x.rows.length ≤ 4611686018427387904)
    (hc : ∀ (p q : Nat) (r : List AV) (a : AV), x.rows[p]? = some r → r[q]? = some a → ∃ u, cells[p * x.k + q]? = some u ∧ Rel (live N β σ) w1 (x.nm β) u a)
    (hrun : (execOp a.eval o).run P w = .ok (.value u) (w1.alloc (.cells cells e)))
    (hv : Rel (live N (upd β id (some w1.heap.size)) (upd σ id (some (.c x)))) (w1.alloc (.cells cells e)) (upd β id (some w1.heap.size)) u v) : Good P o N w0 M0 β0 ds β fr σ F id a w v [(id, some (.c x))] := by
  obtain ⟨h1, h2⟩ := R.new id hid cells e x hn hr hB hc
  have hβ0 := (R.heap.dom id hid).1
  exact ⟨u, _, _, .inl hrun, fun i b hb => by rw [upd_ne _ _ (fun e => by subst e; rw [hβ0] at hb; cases hb)]; exact hb, h1, hv⟩
theorem SRel.move (h : SRel N w0 M0 β0 ds β fr σ F a w) {i id : Nat} {x : Ob} {b : Nat} (hx : σ i = some x) (hb : β i = some b) (hid : F id) (hne : i ≠ id) :
    SRel N w0 M0 β0 ds (upd β id (some b)) fr (upd (upd σ i none) id (some x)) (fun j => F j ∧ j ≠ id) a w ∧ (∀ {v z}, Rel (live N β σ) w β v z → Rel (live N (upd β id (some b)) (upd (upd σ i none) id (some x))) w (upd β id (some b)) v z) := by
  obtain ⟨hβ0, hσ0⟩ := h.heap.dom id hid
  have hl0 : ∀ g, own (upd β id (some b)) (upd (upd σ i none) id (some x)) g → own β σ g := by
    rintro g ⟨j, y, h1, h2, h3⟩
    by_cases ej : j = id
    · subst ej
      rw [upd_same] at h1 h3; cases h1; cases h3
      exact ⟨i, x, hx, h2, hb⟩
    · rw [upd_ne _ _ ej] at h1 h3
      by_cases ei : j = i
      · subst ei; simp at h1
      · rw [upd_ne _ _ ei] at h1; exact ⟨j, y, h1, h2, h3⟩
  have hl : ∀ g, g < w.heap.size → live N (upd β id (some b)) (upd (upd σ i none) id (some x)) g → live N β σ g := fun g _ h => h.imp (fun h => h) (hl0 g)
  have k1 : ∀ j g, β j = some g → upd β id (some b) j = some g := fun j g hj => by rw [upd_ne _ _ (fun e => by subst e; rw [hβ0] at hj; cases hj)]; exact hj
  have up : ∀ {v z}, Rel (live N β σ) w β v z → Rel (live N (upd β id (some b)) (upd (upd σ i none) id (some x))) w (upd β id (some b)) v z :=
    Rel.step k1 hl (fun _ _ h _ => h) (fun _ _ h => h)
  have hob : ∀ {j : Nat} {y : Ob}, (upd (upd σ i none) id (some x)) j = some y → ∃ j', σ j' = some y ∧ ∀ g, β j' = some g → upd β id (some b) j = some g := by
    intro j y hy
    by_cases ej : j = id
    · subst ej
      rw [upd_same] at hy; cases hy
      exact ⟨i, hx, fun g hg => by rw [hb] at hg; cases hg; exact upd_same _ _ _⟩
    · rw [upd_ne _ _ ej] at hy
      by_cases ei : j = i
      · subst ei; simp at hy
      · rw [upd_ne _ _ ei] at hy
        exact ⟨j, hy, fun g hg => by rw [upd_ne _ _ ej]; exact hg⟩
  have hlp' : ∀ j L fr S st pe wr, (upd (upd σ i none) id (some x)) j = some (.lp L fr S st pe wr) → ∃ g tm D, upd β id (some b) j = some g ∧ LpAt (live N (upd β id (some b)) (upd (upd σ i none) id (some x))) w (upd β id (some b)) L fr S st pe g tm D := by
    intro j L fr S st pe wr hy
    obtain ⟨j', h1, h2⟩ := hob hy
    obtain ⟨g, tm, D, h3, h4⟩ := h.heap.lp j' L fr S st pe wr h1
    exact ⟨g, tm, D, h2 g h3, h4.step k1 hl (fun _ _ h _ => h) (fun _ _ h => h) rfl⟩
  have hdf' : ∀ j p wr, (upd (upd σ i none) id (some x)) j = some (.df p wr) → ∃ g, upd β id (some b) j = some g ∧ w.heap[g]? = some (.deferred (if p = true then some [] else none)) := by
    intro j p wr hy
    obtain ⟨j', h1, h2⟩ := hob hy
    obtain ⟨g, h3, h4⟩ := h.heap.df j' p wr h1
    exact ⟨g, h2 g h3, h4⟩
  refine ⟨⟨⟨?_, ?_, ?_, ?_, ?_, hlp', hdf'⟩, fun t => up (h.regs t), h.frame, fun g hg => h.old g (hl0 g hg), h.away, h.defers, fun i b hb => k1 i b (h.ext i b hb)⟩, up⟩
  · rintro j ⟨hj, hn⟩
    have hni : j ≠ i := fun e => by subst e; rw [(h.heap.dom j hj).2] at hx; cases hx
    rw [upd_ne _ _ hn, upd_ne _ _ hn, upd_ne _ _ hni]; exact h.heap.dom j hj
  · intro j y g hy hg
    by_cases ej : j = id
    · subst ej
      rw [upd_same] at hg; cases hg
      exact h.heap.off i x b hx hb
    · rw [upd_ne _ _ ej] at hy hg
      by_cases ei : j = i
      · subst ei; simp at hy
      · rw [upd_ne _ _ ei] at hy; exact h.heap.off j y g hy hg
  · have key : ∀ j g, upd β id (some b) j = some g → ((upd (upd σ i none) id (some x)) j).isSome → ∃ j', β j' = some g ∧ (σ j').isSome ∧ (j = id ↔ j' = i) ∧ (j ≠ id → j' = j) := by
      intro j g h1 h2
      by_cases ej : j = id
      · subst ej
        rw [upd_same] at h1; cases h1
        exact ⟨i, hb, by simp [hx], by simp, fun h => absurd rfl h⟩
      · rw [upd_ne _ _ ej] at h1 h2
        by_cases ei : j = i
        · subst ei; simp at h2
        · rw [upd_ne _ _ ei] at h2
          exact ⟨j, h1, h2, by simp [ej, ei], fun _ => rfl⟩
    intro j1 j2 g h1 h2 s1 s2
    obtain ⟨p1, a1, a2, a3, a4⟩ := key j1 g h1 s1
    obtain ⟨p2, b1, b2, b3, b4⟩ := key j2 g h2 s2
    have := h.heap.inj p1 p2 g a1 b1 a2 b2
    subst this
    by_cases e1 : j1 = id
    · rw [e1]; exact (b3.2 (a3.1 e1)).symm
    · by_cases e2 : j2 = id
      · exact absurd (a3.2 (b3.1 e2)) e1
      · rw [← a4 e1, ← b4 e2]
  · intro j y hy
    by_cases ej : j = id
    · subst ej
      rw [upd_same] at hy; cases hy
      obtain ⟨cells, e, h2⟩ := h.heap.phys hx hb
      exact .inr ⟨b, cells, e, by simp, h2.step k1 hl (fun _ _ h _ => h) (fun _ _ h => h) rfl⟩
    · rw [upd_ne _ _ ej] at hy
      by_cases ei : j = i
      · subst ei; simp at hy
      · rw [upd_ne _ _ ei] at hy
        rcases h.heap.blk j y hy with h0 | ⟨b', cells, e, h1, h2⟩
        · exact .inl (by rw [upd_ne _ _ ej]; exact h0)
        · exact .inr ⟨b', cells, e, by rw [upd_ne _ _ ej]; exact h1, h2.step k1 hl (fun _ _ h _ => h) (fun _ _ h => h) rfl⟩
  · intro j es wr hy
    by_cases ej : j = id
    · subst ej
      rw [upd_same] at hy; cases hy
      obtain ⟨b', ms, cl, h1, h2⟩ := h.heap.map i es wr hx
      rw [hb] at h1; cases h1
      exact ⟨b, ms, cl, by simp, h2.step hl (fun _ _ h _ => h) (fun _ _ h => h) rfl⟩
    · rw [upd_ne _ _ ej] at hy
      by_cases ei : j = i
      · subst ei; simp at hy
      · rw [upd_ne _ _ ei] at hy
        obtain ⟨b', ms, cl, h1, h2⟩ := h.heap.map j es wr hy
        exact ⟨b', ms, cl, by rw [upd_ne _ _ ej]; exact h1, h2.step hl (fun _ _ h _ => h) (fun _ _ h => h) rfl⟩
theorem nm_true (k : Nat) (rows : List (List AV)) (wr : Bool) (β : Nat → Option Nat) : Blk.nm ⟨k, rows, wr, true⟩ β = nob := rfl
def GoodT (P : Program) (o : Oper) (N : Nat → Prop) (w0 : World) (M0 : Nat → Prop) (β0 : Nat → Option Nat) (ds : List Deferred) (β : Nat → Option Nat) (fr : Regs) (σ : Hp) (F : Nat → Prop) (id : Nat) (a : Act) (w : World) (v : AV) (wr : Wr) (s : Value) (e : TypeId) : Prop :=
  ∃ u w' β', ((execOp a.eval o).run P w = .ok (.value u) w' ∨ ((execOp a.eval o).run P w = .ok .skip w' ∧ u = undef)) ∧ (∀ i b, β i = some b → β' i = some b) ∧
    SRel N w0 M0 β0 ds β' fr (applyW σ wr) (fun i => F i ∧ i ≠ id) a w' ∧ Rel (live N β' (applyW σ wr)) w' β' u v ∧
    ((∀ b l c t n, s = .slice (some ⟨b, 0, none⟩) l (c + 1) → w.shape? b = some (t, n) → t = e) → ∀ b l c, u = .slice (some ⟨b, 0, none⟩) (l + 1) c → ∃ n, w'.shape? b = some (e, n))
theorem GoodT.good {o : Oper} {id : Nat} {v : AV} {wr : Wr} {s : Value} {e : TypeId} (h : GoodT P o N w0 M0 β0 ds β fr σ F id a w v wr s e) : Good P o N w0 M0 β0 ds β fr σ F id a w v wr := by
  obtain ⟨u, w', β', h1, h2, h3, h4, _⟩ := h
  exact ⟨u, w', β', h1, h2, h3, h4⟩
theorem good_appC (R : SRel N w0 M0 β0 ds β fr σ F a w) {o : Oper} {c : Call} {x y : Operand} {e : TypeId} {i : TypeInfo} {id : Nat} {v : AV} {wr : Wr} (hid : F id) (ho : o.op = .call c) (hc : c.callee = .builtin .append) (ha : c.args.toList = [x, y])
    (ht : (c.argTypes[0]?).bind P.underlying = some (.slice e)) {t3 : TypeId} (ht3 : c.argTypes[1]? = some t3) (hi : P.info? e = some i) (hk : 0 < i.size) (hb0 : 0 < i.bytes) (hz0 : i.zero.map (·.cells.size) = some i.size)
    {news : List (List AV)} {us : List Value} (hsrc : Src P i.size t3 (a.eval y) news.length us w) (hnr : ∀ r ∈ news, r.length = i.size) (hnc : ∀ (p q : Nat) (r : List AV) (z : AV), news[p]? = some r → r[q]? = some z → ∃ u, us[p * i.size + q]? = some u ∧ Rel (live N β σ) w nob u z)
    {X : AV} (h : Rel (live N β σ) w β (a.eval x) X) (hs : hAppN σ id i.size i.bytes X news = some (v, wr)) : GoodT P o N w0 M0 β0 ds β fr σ F id a w v wr (a.eval x) e := by
  obtain ⟨t1, ht1, ht2⟩ := Option.bind_eq_some_iff.1 ht
  obtain ⟨z, hz, hzs⟩ := Option.map_eq_some_iff.1 hz0
  have ha' : c.args = #[x, y] := by apply Array.ext'; simpa using ha
  have hats : ∀ (s v : Value) (ats : Array TypeId), ats[0]? = some t1 → ats[1]? = some t3 → Builtin.append_ ats o.type #[s, v] = Builtin.append_ #[t1, t3] o.type #[s, v] := by
    intro s v ats h1 h2
    unfold Builtin.append_
    simp [h1, h2]
  have hrun0 : ∀ s u W, a.eval x = s → (Builtin.append_ #[t1, t3] o.type #[s, a.eval y]).run P w = .ok u W → (execOp a.eval o).run P w = .ok (.value u) W := by
    intro s u W hsx hr
    rw [← hats _ _ _ ht1 ht3, ← hsx] at hr
    simp [execOp, ho, resolve, hc, ha', invoke, Go.builtin, hr]
  unfold hAppN at hs
  have husl : us.length = news.length * i.size := hsrc.newsLen
  have hfresh : ∀ (A : Option Addr) (σ1 : Hp) (hσ1 : ∀ j x, σ1 j = some x → ∃ y, σ j = some y ∧ Ob.le x y) (hid1 : σ1 id = none), a.eval x = .slice A 0 0 → news ≠ [] → news.length * i.bytes ≤ 140737488355328 →
      ∃ u w' β', (execOp a.eval o).run P w = .ok (.value u) w' ∧ (∀ i b, β i = some b → β' i = some b) ∧ SRel N w0 M0 β0 ds β' fr (upd σ1 id (some (.c ⟨i.size, news, true, true⟩))) (fun j => F j ∧ j ≠ id) a w' ∧
        Rel (live N β' (upd σ1 id (some (.c ⟨i.size, news, true, true⟩)))) w' β' u (.ow id i.size 0 news.length) ∧ ∀ b l c, u = .slice (some ⟨b, 0, none⟩) (l + 1) c → ∃ n, w'.shape? b = some (e, n) := by
    intro A σ1 hσ1 hid1 ex hne hfit
    have hold : (Builtin.firstCells i.size 0 (.slice A 0 0)).run P w.drew = .ok ([] : List Value).toArray w.drew := by
      cases A with
      | none => exact run_firstCells_none w.drew i.size 0 0 0
      | some ad => exact run_firstCells_some w.drew i.size 0 ad 0 0 [] (by simp) (fun j u h => by simp at h)
    have hpos : 0 < news.length := List.length_pos_iff.2 hne
    have hlen0 : ((0 + news.length : Nat) : Int) ≤ 9223372036854775807 := by
      have : news.length * 1 ≤ news.length * i.bytes := Nat.mul_le_mul_left _ hb0
      omega
    have hg := run_append_grow_src (P := P) w t1 t3 o.type e i z ht2 hi hz A 0 0 [] hold (a.eval y) _ us hsrc (by omega) hlen0
      (by rw [nextslicecap_zero (by omega)]; simp only [Nat.zero_add]; omega)
    simp only [Nat.zero_add, List.nil_append] at hg
    obtain ⟨R1, up1⟩ := (drew_world R).less hσ1
    have hge := grown_ge w news.length 0 e
    have hnew := Good.new' (P := P) (o := o) (w := w) (v := .ow id i.size 0 news.length) (w1 := w.drew) R1 hid (cells := us.toArray ++ Builtin.zeroCells z.cells (grownCap w news.length 0 e - news.length)) (e := e) (x := ⟨i.size, news, true, true⟩) (by simp only [Array.size_append, List.size_toArray, husl]; omega) hnr
      (by have : news.length * 1 ≤ news.length * i.bytes := Nat.mul_le_mul_left _ hb0
          show news.length ≤ _; omega) (by
        have := rows_append (β := nob) (M := live N β σ1) (w := w.drew) (k := i.size) (old := []) (us := []) (us' := us) (tail := Builtin.zeroCells z.cells (grownCap w news.length 0 e - news.length)) (news := news) (by simp) (fun p q r z h => by simp at h) (fun r h => by cases h)
          (fun p q r z' hp hq => by obtain ⟨u, hu, hr⟩ := hnc p q r z' hp hq; exact ⟨u, hu, up1 (rel_drew hr)⟩)
        simpa [nm_true] using this) (u := .slice (some ⟨w.heap.size, 0, none⟩) news.length (grownCap w news.length 0 e)) (hrun0 _ _ _ ex hg) (by
        have := Rel.ow (β := upd β id (some w.heap.size)) (M := live N (upd β id (some w.heap.size)) (upd σ1 id (some (.c ⟨i.size, news, true, true⟩)))) (w := w.drew.alloc (.cells (us.toArray ++ Builtin.zeroCells z.cells (grownCap w news.length 0 e - news.length)) e)) id i.size 0 news.length (grownCap w news.length 0 e) w.heap.size e _ (by simp) hge
          (by unfold World.shape?; rw [show w.heap.size = w.drew.heap.size from rfl, heap_alloc_new w.drew _]) (by
            simp only [Array.size_append, List.size_toArray, husl, Nat.zero_add, Builtin.zeroCells, Array.size_map, Array.size_range]
            rw [← hzs, ← Nat.add_mul, Nat.add_sub_cancel' hge]; exact Nat.le_refl _)
        simpa using this)
    obtain ⟨u, w', β', g1, g2, g3, g4⟩ := hnew
    rcases g1 with g1 | ⟨g1, _⟩
    · have gg := g1.symm.trans (hrun0 _ _ _ ex hg)
      cases gg
      exact ⟨_, _, β', g1, g2, g3, g4, fun b l c h => by
        obtain ⟨q1, q2, q3⟩ := Value.slice.inj h
        cases q1
        exact ⟨_, by unfold World.shape?; rw [show w.heap.size = w.drew.heap.size from rfl, heap_alloc_new w.drew _]⟩⟩
    · rw [hrun0 _ _ _ ex hg] at g1; cases g1
  have hnone : ∀ A, a.eval x = .slice A 0 0 → news = [] → (execOp a.eval o).run P w = .ok (.value (.slice A 0 0)) w := by
    intro A ex hn
    subst hn
    have hus : us = [] := List.eq_nil_of_length_eq_zero (by simpa using husl)
    subst hus
    refine hrun0 _ _ _ ex ?_
    have hl := hsrc.len w
    have hcells := hsrc.cells
    simp only [List.length_nil] at hl hcells
    cases A with
    | none => rcases hsrc.kind with ⟨e2, ht4⟩ | ht4 <;> simp [Builtin.append_, run_underlying ht2, run_underlying ht4, sizeOf, typeInfo, hi, hl, hcells]
    | some ad => rcases hsrc.kind with ⟨e2, ht4⟩ | ht4 <;> (simp [Builtin.append_, run_underlying ht2, run_underlying ht4, sizeOf, typeInfo, hi, hl, hcells, storeCells, Addr.add]; try rfl)
  split at hs
  · generalize hu : a.eval x = u at h
    cases h with
    | em A =>
    split at hs
    · rename_i hfit
      split at hs
      · simp only [Option.some.injEq, Prod.mk.injEq] at hs
        obtain ⟨rfl, rfl⟩ := hs
        exact ⟨_, w, β, .inl (hnone A hu rfl), fun _ _ h => h, R.free (fun _ h => h.1), .em _, fun _ b l c h => by cases h⟩
      · rename_i r0 rest
        simp only [Option.some.injEq, Prod.mk.injEq] at hs
        obtain ⟨rfl, rfl⟩ := hs
        obtain ⟨u, w', β', g1, g2, g3, g4, g5⟩ := hfresh A σ (fun j x h => ⟨x, h, .refl x⟩) (R.heap.dom id hid).2 hu (by simp) hfit
        exact ⟨u, w', β', .inl g1, g2, g3, g4, fun _ => g5⟩
    · cases hs
  · rename_i id0 k' len
    cases hσ : σ id0 with
    | none => simp [hσ] at hs
    | some b00 =>
    cases b00 with
    | m es wr => simp [hσ] at hs
    | lp L fr S st pe wr => simp [hσ] at hs
    | df o wr => simp [hσ] at hs
    | c b0 =>
      simp only [hσ] at hs
      split at hs
      · rename_i hcond
        obtain ⟨rfl, hbk, hbw, hbcl, hbl, hfit, hne⟩ := hcond
        simp only [Option.some.injEq, Prod.mk.injEq] at hs
        obtain ⟨rfl, rfl⟩ := hs
        generalize hu : a.eval x = u at h
        have hσ1 : ∀ j x, (upd σ id0 none) j = some x → ∃ y, σ j = some y ∧ Ob.le x y := by
          intro j x hj
          by_cases ej : j = id0
          · subst ej; simp at hj
          · rw [upd_ne _ _ ej] at hj; exact ⟨x, hj, .refl x⟩
        rcases rel_ow h rfl with ⟨_, rfl, A, rfl⟩ | ⟨cap, b, ee, nn, rfl, hb, hl, hsh, hnn⟩
        · have hb0n : b0.rows = [] := List.eq_nil_of_length_eq_zero hbl
          by_cases hnn : news = []
          · have hrun := hnone A hu hnn
            subst hnn
            obtain ⟨R1, up1⟩ := R.less hσ1
            obtain ⟨R2, up2⟩ := (R1.free (F' := F) (fun _ h => h)).imagine id hid i.size true
            exact ⟨_, w, β, .inl hrun, fun _ _ h => h, by simpa [applyW, hb0n] using R2, .ow0 _ _ _, fun _ b l c h => by cases h⟩
          · obtain ⟨u, w', β', g1, g2, g3, g4, g5⟩ := hfresh A (upd σ id0 none) hσ1 (by rw [upd_ne _ _ (Ne.symm hne)]; exact (R.heap.dom id hid).2) hu hnn (by simpa using hfit)
            exact ⟨u, w', β', .inl g1, g2, by simpa [applyW, hb0n] using g3, by simpa [applyW, hb0n] using g4, fun _ => g5⟩
        obtain ⟨cells, e3, h2, h3, h4, h4', h5⟩ := R.heap.phys hσ hb
        have hnn' : cells.size = nn := by simp only [World.shape?, h2, Option.some.injEq, Prod.mk.injEq] at hsh; exact hsh.2
        subst hnn'
        simp only [Nat.zero_add] at hnn
        have hold : ∀ r ∈ b0.rows, r.length = i.size := fun r hr => by rw [← hbk]; exact h4 r hr
        rw [hbk] at h5 h3
        have enm : b0.nm β = nob := by unfold Blk.nm; rw [if_pos hbcl]; rfl
        rw [enm] at h5
        rw [hbl] at h3
        simp only [Nat.zero_mul] at hu
        by_cases hroom : len + news.length ≤ cap
        · have hbd : len * i.size + us.length ≤ cells.size := by
            rw [husl, ← Nat.add_mul]; exact Nat.le_trans (Nat.mul_le_mul_right _ hroom) hnn
          have hst := run_storeCells_at (P := P) b (len * i.size) e3 us 0 cells w h2 (by omega) hsrc.one
          simp only [Nat.add_zero] at hst
          have hsz' : (cells.toList.take (len * i.size) ++ us ++ cells.toList.drop (len * i.size + us.length)).toArray.size = cells.size := by
            simp only [List.size_toArray, List.length_append, List.length_take, List.length_drop, Array.length_toList]; omega
          have hC : ∀ (p q : Nat) (r : List AV) (v : AV), (b0.rows ++ news)[p]? = some r → r[q]? = some v → ∃ u, (cells.toList.take (len * i.size) ++ us ++ cells.toList.drop (len * i.size + us.length)).toArray[p * i.size + q]? = some u ∧ Rel (live N β σ) w nob u v := by
            have := rows_append (β := nob) (M := live N β σ) (w := w) (k := i.size) (old := b0.rows) (us := cells.toList.take (len * i.size)) (us' := us) (tail := (cells.toList.drop (len * i.size + us.length)).toArray) (news := news) (by simp [hbl]; omega)
              (fun p q r v hp hq => by
                obtain ⟨u, hu, hr⟩ := h5 p q r v hp hq
                refine ⟨u, ?_, hr⟩
                have hpl := (List.getElem?_eq_some_iff.1 hp).1
                have hql := (List.getElem?_eq_some_iff.1 hq).1
                rw [hold r (List.mem_of_getElem? hp)] at hql
                have : (p + 1) * i.size ≤ len * i.size := Nat.mul_le_mul_right _ (by omega)
                rw [Nat.add_mul] at this
                rw [List.getElem?_take, if_pos (by omega)]; simpa using hu) hold hnc
            simpa using this
          obtain ⟨g1, g2⟩ := R.set hσ hbw hb h2 _ hsz' ⟨i.size, b0.rows ++ news, true, true⟩ (by rw [hsz']; simp only [List.length_append, hbl]; exact Nat.le_trans (Nat.mul_le_mul_right _ hroom) hnn)
            (fun r hr => by (rcases List.mem_append.1 hr with hr | hr <;> first | exact hold r hr | exact hnr r hr))
            (by have : (len + news.length) * 1 ≤ (len + news.length) * i.bytes := Nat.mul_le_mul_left _ hb0
                simp only [List.length_append, hbl]; omega) hC
          obtain ⟨g3, g4⟩ := g1.move (i := id0) (id := id) (x := .c ⟨i.size, b0.rows ++ news, true, true⟩) (b := b) (by simp) hb hid hne
          have hσ' : upd (upd (upd σ id0 (some (.c ⟨i.size, b0.rows ++ news, true, true⟩))) id0 none) id (some (.c ⟨i.size, b0.rows ++ news, true, true⟩)) = upd (upd σ id0 none) id (some (.c ⟨i.size, b0.rows ++ news, true, true⟩)) := by
            funext j
            simp only [upd]
            by_cases e1 : j = id
            · simp [e1]
            · by_cases e2 : j = id0
              · simp [e2]
              · simp [e1, e2]
          rw [hσ'] at g3 g4
          refine ⟨.slice (some ⟨b, 0, none⟩) (len + news.length) cap, _, _, .inl ?_, ?_, g3, ?_, ?_⟩
          · refine hrun0 _ _ _ hu ?_
            rcases hsrc.kind with ⟨e2, ht4⟩ | ht4 <;> simp [Builtin.append_, run_underlying ht2, run_underlying ht4, sizeOf, typeInfo, hi, hsrc.len, hroom, hsrc.cells, add_none, hst]
          · intro j g hj
            rw [upd_ne _ _ (fun e => by subst e; rw [(R.heap.dom _ hid).1] at hj; cases hj)]; exact hj
          · have := Rel.ow (β := upd β id (some b)) (M := live N (upd β id (some b)) (upd (upd σ id0 none) id (some (.c ⟨i.size, b0.rows ++ news, true, true⟩)))) (w := w.setRow b (cells.toList.take (len * i.size) ++ us ++ cells.toList.drop (len * i.size + us.length)).toArray) id i.size 0 (len + news.length) cap b e3 cells.size (by simp) hroom
              (by unfold World.shape?; rw [setRow_heap w b cells _ _ _ h2]; simp only [hsz']) (by simpa using hnn)
            simpa [applyW] using this
          · intro hT b' l' c' h
            obtain ⟨q1, q2, q3⟩ := Value.slice.inj h
            cases q1
            have he := hT b len (cap - 1) ee _ (by rw [Nat.sub_add_cancel (by omega), Nat.zero_mul]) hsh
            simp only [World.shape?, h2, Option.some.injEq, Prod.mk.injEq] at hsh
            refine ⟨cells.size, ?_⟩
            rw [← he, ← hsh.1]
            unfold World.shape?; rw [setRow_heap w b cells _ _ _ h2]; simp only [hsz']
        · have hfc : (Builtin.firstCells i.size len (.slice (some ⟨b, 0, none⟩) len cap)).run P w.drew = .ok (cells.toList.take (len * i.size)).toArray w.drew := by
            refine run_firstCells_some w.drew i.size len ⟨b, 0, none⟩ len cap _ (by simp; omega) (fun j u hu => ?_)
            rw [List.getElem?_take] at hu
            split at hu
            · rw [add_none, Nat.zero_add]; exact blk_cell (w := w.drew) h2 (by simpa using hu)
            · cases hu
          have hlen0 : ((len + news.length : Nat) : Int) ≤ 9223372036854775807 := by
            have : (len + news.length) * 1 ≤ (len + news.length) * i.bytes := Nat.mul_le_mul_left _ hb0
            omega
          have hg := run_append_grow_src (P := P) w t1 t3 o.type e i z ht2 hi hz (some ⟨b, 0, none⟩) len cap _ hfc (a.eval y) _ us hsrc (by omega) hlen0 (growslice_fits (by omega) (by omega))
          obtain ⟨g1, _⟩ := (drew_world R).less hσ1
          have g2 : ∀ {v z}, Rel (live N β σ) w nob v z → Rel (live N β (upd σ id0 none)) w.drew nob v z := fun hr => ((drew_world R).less hσ1).2 (rel_drew hr)
          have hge := grown_ge w (len + news.length) cap e
          have hnew := Good.new' (P := P) (o := o) (w := w) (w1 := w.drew) (u := .slice (some ⟨w.heap.size, 0, none⟩) (len + news.length) (grownCap w (len + news.length) cap e)) (v := .ow id i.size 0 (len + news.length)) g1 hid (cells := (cells.toList.take (len * i.size) ++ us).toArray ++ Builtin.zeroCells z.cells (grownCap w (len + news.length) cap e - (len + news.length))) (e := e) (x := ⟨i.size, b0.rows ++ news, true, true⟩)
            (by simp only [Array.size_append, List.size_toArray, List.length_append, List.length_take, Array.length_toList, husl, hbl]; rw [Nat.min_eq_left h3, Nat.add_mul]; omega)
            (fun r hr => by (rcases List.mem_append.1 hr with hr | hr <;> first | exact hold r hr | exact hnr r hr))
            (by have : (len + news.length) * 1 ≤ (len + news.length) * i.bytes := Nat.mul_le_mul_left _ hb0
                simp only [List.length_append, hbl]; omega)
            (rows_append (β := nob) (w := w.drew) (k := i.size) (old := b0.rows) (us := cells.toList.take (len * i.size)) (us' := us) (by simp [hbl]; omega)
              (fun p q r v hp hq => by
                obtain ⟨u, hu, hr⟩ := h5 p q r v hp hq
                refine ⟨u, ?_, g2 hr⟩
                have hpl := (List.getElem?_eq_some_iff.1 hp).1
                have hql := (List.getElem?_eq_some_iff.1 hq).1
                rw [hold r (List.mem_of_getElem? hp)] at hql
                have : (p + 1) * i.size ≤ len * i.size := Nat.mul_le_mul_right _ (by omega)
                rw [Nat.add_mul] at this
                rw [List.getElem?_take, if_pos (by omega)]; simpa using hu) hold
              (fun p q r v hp hq => by obtain ⟨u, hu, hr⟩ := hnc p q r v hp hq; exact ⟨u, hu, g2 hr⟩))
            (hrun0 _ _ _ hu hg)
            (by
              have := Rel.ow (β := upd β id (some w.heap.size)) (M := live N (upd β id (some w.heap.size)) (upd (upd σ id0 none) id (some (.c ⟨i.size, b0.rows ++ news, true, true⟩)))) (w := w.drew.alloc (.cells ((cells.toList.take (len * i.size) ++ us).toArray ++ Builtin.zeroCells z.cells (grownCap w (len + news.length) cap e - (len + news.length))) e)) id i.size 0 (len + news.length) (grownCap w (len + news.length) cap e) w.heap.size e _ (by simp) hge
                (by unfold World.shape?; rw [show w.heap.size = w.drew.heap.size from rfl, heap_alloc_new w.drew _]) (by
                  simp only [Array.size_append, List.size_toArray, List.length_append, List.length_take, Array.length_toList, husl, Nat.zero_add, Builtin.zeroCells, Array.size_map, Array.size_range]
                  rw [Nat.min_eq_left h3, ← hzs, ← Nat.add_mul, ← Nat.add_mul, Nat.add_sub_cancel' hge]; exact Nat.le_refl _)
              simpa using this)
          obtain ⟨u, w', β', k1, k2, k3, k4⟩ := hnew
          rcases k1 with k1 | ⟨k1, _⟩
          · have gg := k1.symm.trans (hrun0 _ _ _ hu hg)
            cases gg
            exact ⟨_, _, β', .inl k1, k2, k3, k4, fun _ b l c h => by
              obtain ⟨q1, q2, q3⟩ := Value.slice.inj h
              cases q1
              exact ⟨_, by unfold World.shape?; rw [show w.heap.size = w.drew.heap.size from rfl, heap_alloc_new w.drew _]⟩⟩
          · rw [hrun0 _ _ _ hu hg] at k1; cases k1
      · cases hs
  · cases hs
theorem good_app (R : SRel N w0 M0 β0 ds β fr σ F a w) {o : Oper} {c : Call} {x y : Operand} {e e' : TypeId} {i : TypeInfo} {id : Nat} {v : AV} {wr : Wr} (hid : F id) (ho : o.op = .call c) (hc : c.callee = .builtin .append) (ha : c.args.toList = [x, y])
    (ht : (c.argTypes[0]?).bind P.underlying = some (.slice e)) (ht' : (c.argTypes[1]?).bind P.underlying = some (.slice e')) (hi : P.info? e = some i) (hk : 0 < i.size) (hb0 : 0 < i.bytes) (hz0 : i.zero.map (·.cells.size) = some i.size)
    (hs : hApp σ id i.size i.bytes ((cOpd x).get fr) ((cOpd y).get fr) = some (v, wr)) : Good P o N w0 M0 β0 ds β fr σ F id a w v wr := by
  obtain ⟨t3, ht3, ht4⟩ := Option.bind_eq_some_iff.1 ht'
  unfold hApp at hs
  cases hrows : rowsOf σ i.size ((cOpd y).get fr) with
  | none => simp [hrows] at hs
  | some news =>
    simp only [hrows] at hs
    split at hs
    · rename_i hleaf
      obtain ⟨us, hsrc, hnr, hnc⟩ := rows_src R y hk hrows hleaf ht4
      exact (good_appC R hid ho hc ha ht ht3 hi hk hb0 hz0 hsrc hnr hnc (rel_get R x) hs).good
    · cases hs
theorem byteRows_len (l : List UInt8) : (byteRows l).length = l.length := List.length_map _
theorem good_aps (R : SRel N w0 M0 β0 ds β fr σ F a w) {o : Oper} {c : Call} {x y : Operand} {e : TypeId} {i : TypeInfo} {id : Nat} {v : AV} {wr : Wr} (hid : F id) (ho : o.op = .call c) (hc : c.callee = .builtin .append) (ha : c.args.toList = [x, y])
    (ht : (c.argTypes[0]?).bind P.underlying = some (.slice e)) (ht' : (c.argTypes[1]?).bind P.underlying = some .string) (hi : P.info? e = some i) (he : e = 5) (hk : i.size = 1) (hb0 : 0 < i.bytes) (hz0 : i.zero.map (·.cells.size) = some i.size)
    (hs : hAps σ id i.bytes ((cOpd x).get fr) ((cOpd y).get fr) = some (v, wr)) : Good P o N w0 M0 β0 ds β fr σ F id a w v wr := by
  obtain ⟨t3, ht3, ht4⟩ := Option.bind_eq_some_iff.1 ht'
  have hx := rel_get R x
  have hy := rel_get R y
  generalize (cOpd x).get fr = X at hx hs
  generalize (cOpd y).get fr = Y at hy hs
  have key : ∀ l, Rel (live N β σ) w β (a.eval y) (.s l) → ∀ {Z : AV} {v' : AV} {wr' : Wr}, Rel (live N β σ) w β (a.eval x) Z → hAppN σ id i.size i.bytes Z (byteRows l) = some (v', wr') → GoodT P o N w0 M0 β0 ds β fr σ F id a w v' wr' (a.eval x) e := by
    intro l hl Z v' wr' hZ hs'
    generalize hu : a.eval y = u at hl
    cases hl with
    | s b _ hl hb =>
      have hsz : (byteRows l).length = b.size := by rw [byteRows_len, ← hl, Array.length_toList]; rfl
      have hsrc : Src P i.size t3 (a.eval y) (byteRows l).length (byteCells b) w := by rw [hu, hk, hsz]; exact Src.ofString w ht4 b
      refine good_appC R hid ho hc ha ht ht3 hi (by omega) hb0 hz0 hsrc ?_ ?_ hZ hs'
      · intro r hr
        obtain ⟨_, _, rfl⟩ := List.mem_map.1 hr
        exact hk.symm
      · intro p q r z hp hq
        unfold byteRows at hp
        rw [List.getElem?_map] at hp
        obtain ⟨b0, hb0', rfl⟩ := Option.map_eq_some_iff.1 hp
        have hq0 : q = 0 := by
          have := (List.getElem?_eq_some_iff.1 hq).1
          simp only [List.length_cons, List.length_nil] at this; omega
        subst hq0
        cases hq
        refine ⟨.int .u8 b0.toNat, ?_, .sc _⟩
        unfold byteCells
        rw [hk, Nat.mul_one, Nat.add_zero, List.getElem?_map, hl, hb0']
        rfl
  have up : ∀ {u : Value} {w' : World} {β' : Nat → Option Nat} {M : Nat → Prop} {id' len : Nat}, Rel M w' β' u (.ow id' 1 0 len) → 0 < len → (∀ b l c, u = .slice (some ⟨b, 0, none⟩) (l + 1) c → ∃ n, w'.shape? b = some (e, n)) → Rel M w' β' u (.ob id' len) := by
    intro u w' β' M id' len hr hpos hsh
    rcases rel_ow hr rfl with ⟨_, h0, _⟩ | ⟨cap, b, e1, n1, rfl, hb, hl, hs1, hn1⟩
    · omega
    · rw [Nat.zero_mul] at hsh ⊢
      obtain ⟨n2, h2⟩ := hsh b (len - 1) cap (by rw [Nat.sub_add_cancel hpos])
      rw [hs1] at h2
      cases h2
      subst he
      exact .ob id' len cap b n1 hb hl hs1 (by omega)
  unfold hAps at hs
  split at hs
  · rename_i l
    split at hs
    · rename_i hfit
      cases l with
      | nil =>
        simp only [Option.some.injEq, Prod.mk.injEq] at hs
        obtain ⟨rfl, rfl⟩ := hs
        exact (key [] hy hx (by unfold hAppN; simp [byteRows])).good
      | cons b0 l =>
        simp only [Option.some.injEq, Prod.mk.injEq] at hs
        obtain ⟨rfl, rfl⟩ := hs
        obtain ⟨u, w', β', g1, g2, g3, g4, g5⟩ := key (b0 :: l) hy hx (v' := .ow id 1 0 (b0 :: l).length) (wr' := [(id, some (.c ⟨1, byteRows (b0 :: l), true, true⟩))]) (by
          unfold hAppN; rw [hk]; simp only [byteRows_len]; rw [if_pos hfit]; simp [byteRows])
        refine ⟨u, w', β', g1, g2, g3, up g4 (by simp) (g5 ?_)⟩
        intro b l' c t n hsx hsh
        rw [hsx] at hx
        generalize hvv : Value.slice _ _ _ = vv at hx
        cases hx
        obtain ⟨_, _, q3⟩ := Value.slice.inj hvv
        omega
    · cases hs
  · rename_i i0 len l
    cases hσ : σ i0 with
    | none => simp [hσ] at hs
    | some b00 =>
    cases b00 with
    | m es wr => simp [hσ] at hs
    | lp L fr S st pe wr => simp [hσ] at hs
    | df o wr => simp [hσ] at hs
    | c b0 =>
      simp only [hσ] at hs
      split at hs
      · rename_i hcond
        obtain ⟨hbk, hbw, hbcl, hbl, hfit, hne, h0⟩ := hcond
        simp only [Option.some.injEq, Prod.mk.injEq] at hs
        obtain ⟨rfl, rfl⟩ := hs
        have hsT : ∀ b l c t n, a.eval x = .slice (some ⟨b, 0, none⟩) l (c + 1) → w.shape? b = some (t, n) → t = e := by
          intro b l' c t n hsx hsh
          rw [hsx] at hx
          generalize hvv : Value.slice _ _ _ = vv at hx
          cases hx
          obtain ⟨q1, _, _⟩ := Value.slice.inj hvv
          cases q1
          have hs1 : ∃ m, w.shape? b = some (5, m) := ⟨_, by assumption⟩
          obtain ⟨m, hs1⟩ := hs1
          rw [hs1] at hsh; cases hsh; exact he.symm
        obtain ⟨u, w', β', g1, g2, g3, g4, g5⟩ := key l hy (rel_ob hx) (v' := .ow id 1 0 (len + l.length)) (wr' := [(i0, none), (id, some (.c ⟨1, b0.rows ++ byteRows l, true, true⟩))]) (by
          unfold hAppN; rw [hk]; simp only [hσ, byteRows_len]; rw [if_pos ⟨trivial, hbk, hbw, hbcl, hbl, hfit, hne⟩])
        exact ⟨u, w', β', g1, g2, g3, up g4 h0 (g5 hsT)⟩
      · cases hs
  · cases hs
end
end Go.Proofs.YtodoejfkjimeaaaGreatDoor.Am

set_option linter.unusedSimpArgs false
set_option linter.unusedVariables false
namespace Go.Proofs.YtodoejfkjimeaaaGreatDoor.Am
open Go Go.RowKit

section
variable {P : Program} {N : Nat → Prop} {w0 : World} {M0 : Nat → Prop} {β0 : Nat → Option Nat} {ds : List Deferred} {β : Nat → Option Nat} {fr : Regs} {σ : Hp} {F : Nat → Prop} {a : Act} {w : World}
theorem beq_bytes {s b : ByteArray} : (s == b) = decide (s.data.toList = b.data.toList) := by
  have key : s = b ↔ s.data.toList = b.data.toList := by
    constructor
    · rintro rfl; rfl
    · intro e
      cases s; cases b
      simp only at e
      congr 1
      exact Array.toList_inj.1 e
  cases hb : (s == b) with
  | true => rw [decide_eq_true (key.1 ((MapKept.bytes_beq _ _).1 hb))]
  | false =>
    rw [decide_eq_false]
    intro e
    rw [(MapKept.bytes_beq _ _).2 (key.2 e)] at hb
    cases hb
theorem findNow_keyAt {M : Nat → Prop} {s : ByteArray} {l : List UInt8} (hl : s.data.toList = l) : ∀ (es : List (AV × AV)) (ms : List MapEntry) (n : Nat) (r : Option Nat), ms.length = es.length →
    (∀ (p : Nat) (e : AV × AV) (m : MapEntry), es[p]? = some e → ms[p]? = some m → Rel M w nob m.key e.1 ∧ Rel M w nob m.val e.2) → keyAt l n es = some r →
    (r = none ∧ Instr.findNow .string (.string s) ms n = some none) ∨ ∃ (q : Nat) (m : MapEntry), r = some (n + q) ∧ ms[q]? = some m ∧ m.key = .string s ∧ Instr.findNow .string (.string s) ms n = some (some (n + q, m.val))
  | [], ms, n, r, hlen, _, h => by
    have : ms = [] := List.eq_nil_of_length_eq_zero hlen
    subst this
    simp only [keyAt, Option.some.injEq] at h
    exact .inl ⟨h.symm, rfl⟩
  | e :: es, ms, n, r, hlen, hr, h => by
    cases ms with
    | nil => simp at hlen
    | cons m ms =>
      simp only [keyAt] at h
      split at h
      · rename_i k v
        have hk := (hr 0 _ m rfl rfl).1
        have hkey : ∃ b : ByteArray, m.key = .string b ∧ b.data.toList = k := by
          generalize m.key = kk at hk
          cases hk with
          | s b _ hb _ => exact ⟨b, rfl, hb⟩
        obtain ⟨b, hb1, hb2⟩ := hkey
        have hsame : Instr.sameNow .string (.string s) m.key = some (decide (l = k)) := by
          rw [hb1]; simp only [Instr.sameNow, beq_bytes, hl, hb2]
        split at h
        · rename_i e1
          cases h
          refine .inr ⟨0, m, rfl, rfl, ?_, ?_⟩
          · rw [hb1]; congr 1
            cases s; cases b
            simp only at hl hb2
            congr 1
            exact Array.toList_inj.1 (by rw [hb2, hl, e1])
          · simp only [Instr.findNow, hsame, decide_eq_true e1.symm]; rfl
        · rename_i e1
          have hstep : Instr.findNow .string (.string s) (m :: ms) n = Instr.findNow .string (.string s) ms (n + 1) := by
            simp only [Instr.findNow, hsame, decide_eq_false (fun e => e1 e.symm : ¬ l = k)]
          rw [hstep]
          rcases findNow_keyAt hl es ms (n + 1) r (by simpa using hlen) (fun p e m hp hm => hr (p + 1) e m (by simpa using hp) (by simpa using hm)) h with ⟨g1, g2⟩ | ⟨q, m', g1, g2, g3, g4⟩
          · exact .inl ⟨g1, g2⟩
          · refine .inr ⟨q + 1, m', by rw [g1]; congr 1; omega, by simpa using g2, g3, by rw [g4]; congr 3; omega⟩
      · cases h
theorem good_mkm (R : SRel N w0 M0 β0 ds β fr σ F a w) {o : Oper} {t : TypeId} {id : Nat} {v : AV} {wr : Wr} (hid : F id) (ho : o.op = .makeMap t none) (hs : hMkm id = some (v, wr)) : Good P o N w0 M0 β0 ds β fr σ F id a w v wr := by
  simp only [hMkm, Option.some.injEq, Prod.mk.injEq] at hs
  obtain ⟨rfl, rfl⟩ := hs
  obtain ⟨h1, h2⟩ := R.newObj id hid (.map #[] 0) (.m [] true) (fun y h => by cases h) (fun es wr h => by cases h; exact ⟨#[], 0, rfl, rfl, fun p e m h => by simp at h⟩) (fun _ _ _ _ _ _ h => by cases h) (fun _ _ h => by cases h)
  have hβ0 := (R.heap.dom id hid).1
  refine ⟨.map (some w.heap.size), _, _, .inl ?_, fun i b hb => by rw [upd_ne _ _ (fun e => by subst e; rw [hβ0] at hb; cases hb)]; exact hb, h1, .mp _ _ (by simp)⟩
  simp [execOp, ho, Instr.makeMap] <;> rfl
theorem good_lkp (R : SRel N w0 M0 β0 ds β fr σ F a w) {o : Oper} {t kt e : TypeId} {z : Value} {ok : Bool} {x k : Operand} {v : AV} (ho : o.op = .lookup t x k ok) (ht : P.underlying t = some (.map kt e)) (hk : P.underlying kt = some .string) (hz : (P.info? e).bind (·.zero) = some z)
    (hs : aLkp σ z ok ((cOpd x).get fr) ((cOpd k).get fr) = some v) : GoodR P o N β σ a w v := by
  have h1 := rel_get R x
  have h2 := rel_get R k
  obtain ⟨it, hit, hz2⟩ := Option.bind_eq_some_iff.1 hz
  unfold aLkp at hs
  split at hs
  · rename_i i l g1 g2
    rw [g1] at h1; rw [g2] at h2
    generalize hu1 : a.eval x = u1 at h1
    generalize hu2 : a.eval k = u2 at h2
    cases h1 with
    | mp _ b hb =>
    cases h2 with
    | s s _ hl hbl =>
    split at hs
    · rename_i es wr hσ
      obtain ⟨b', ms, cl, hb', hh, hlen, hrel⟩ := R.heap.map i es wr hσ
      have eb : b' = b := by rw [hb] at hb'; cases hb'; rfl
      subst eb
      have hlen' : ms.toList.length = es.length := by simpa using hlen
      have hrel' : ∀ (p : Nat) (e : AV × AV) (m : MapEntry), es[p]? = some e → ms.toList[p]? = some m → Rel (live N β σ) w nob m.key e.1 ∧ Rel (live N β σ) w nob m.val e.2 := fun p e m hp hm => hrel p e m hp (by simpa using hm)
      have hd : MapKept.IsKey .string (.string s) := trivial
      split at hs
      · rename_i p hp
        rcases findNow_keyAt hl es ms.toList 0 _ hlen' hrel' hp with ⟨c, _⟩ | ⟨q, m, c1, c2, _, c3⟩
        · cases c
        · simp only [Nat.zero_add, Option.some.injEq] at c1 c3
          subst c1
          split at hs
          · rename_i kk vv hes
            have hv := (hrel' p _ m hes c2).2
            have hv := rel_sc hv
            have hrun : (Instr.lookup t (.map (some b')) (.string s) ok).run P w = .ok (if ok then .tuple #[m.val, .bool true] else m.val) w := by
              simp [Instr.lookup, run_underlying ht, MapKept.run_getObj_map hh, MapKept.run_checkKey hk hd, MapKept.run_findKey hk c3, Result.andThen]
            cases ok
            · cases hs
              exact ⟨_, by simp [execOp, ho, hu1, hu2, hrun] <;> rfl, by rw [hv]; exact .sc _⟩
            · cases hs
              refine ⟨_, by simp [execOp, ho, hu1, hu2, hrun] <;> rfl, ?_⟩
              rw [hv]
              refine .tp _ _ (by simp) (fun i u z hu hz => ?_)
              match i, hu, hz with
              | 0, hu, hz => cases hu; cases hz; exact .sc _
              | 1, hu, hz => cases hu; cases hz; exact .sc _
              | i + 2, hu, hz => cases hz
          · cases hs
      · rename_i hp
        rcases findNow_keyAt hl es ms.toList 0 _ hlen' hrel' hp with ⟨_, c3⟩ | ⟨q, m, c1, _⟩
        · have hrun : (Instr.lookup t (.map (some b')) (.string s) ok).run P w = .ok (if ok then .tuple #[z, .bool false] else z) w := by
            simp [Instr.lookup, run_underlying ht, MapKept.run_getObj_map hh, MapKept.run_checkKey hk hd, MapKept.run_findKey hk c3, Result.andThen, zeroValue, typeInfo, hit, hz2]
          cases ok
          · cases hs
            exact ⟨_, by simp [execOp, ho, hu1, hu2, hrun] <;> rfl, .sc _⟩
          · cases hs
            refine ⟨_, by simp [execOp, ho, hu1, hu2, hrun] <;> rfl, ?_⟩
            refine .tp _ _ (by simp) (fun i u z hu hz => ?_)
            match i, hu, hz with
            | 0, hu, hz => cases hu; cases hz; exact .sc _
            | 1, hu, hz => cases hu; cases hz; exact .sc _
            | i + 2, hu, hz => cases hz
        · cases c1
      · cases hs
    · cases hs
  · cases hs
theorem SRel.setMap (R : SRel N w0 M0 β0 ds β fr σ F a w) {i b : Nat} {es es' : List (AV × AV)} {ms ms' : Array MapEntry} {cl cl' : Nat} (hσ : σ i = some (.m es true)) (hb : β i = some b) (hh : w.heap[b]? = some (.map ms cl)) (hlen : ms'.size = es'.length)
    (hrel : ∀ (p : Nat) (e : AV × AV) (m : MapEntry), es'[p]? = some e → ms'[p]? = some m → Rel (live N β σ) w nob m.key e.1 ∧ Rel (live N β σ) w nob m.val e.2) :
    SRel N w0 M0 β0 ds β fr (upd σ i (some (.m es' true))) F a { w with heap := w.heap.setIfInBounds b (.map ms' cl') } := by
  obtain ⟨g1, g2⟩ := MapKept.heap_set (o' := .map ms' cl') hh
  refine (R.setObj (w' := { w with heap := w.heap.setIfInBounds b (.map ms' cl') }) hσ rfl hb rfl rfl rfl (by simp) g2 ?_ (.m es' true) (fun _ _ _ _ _ _ h => by cases h) (fun _ _ h => by cases h) (fun z h => by cases h) (fun es wr h => by cases h; exact ⟨ms', cl', g1, hlen, hrel⟩)).1
  intro s hs
  simp only [World.shape?, hh] at hs
  cases hs
theorem good_mup (R : SRel N w0 M0 β0 ds β fr σ F a w) {o : Oper} {t kt e : TypeId} {x k y : Operand} {id : Nat} {v : AV} {wr : Wr} (ho : o.op = .mapUpdate t x k y) (ht : P.underlying t = some (.map kt e)) (hk : P.underlying kt = some .string)
    (hs : hMup σ ((cOpd x).get fr) ((cOpd k).get fr) ((cOpd y).get fr) = some (v, wr)) : Good P o N w0 M0 β0 ds β fr σ F id a w v wr := by
  have h1 := rel_get R x
  have h2 := rel_get R k
  have h3 := rel_get R y
  unfold hMup at hs
  split at hs
  · rename_i i l uu g1 g2 g3
    rw [g1] at h1; rw [g2] at h2; rw [g3] at h3
    have e3 := rel_sc h3
    generalize hu1 : a.eval x = u1 at h1
    generalize hu2 : a.eval k = u2 at h2
    cases h1 with
    | mp _ b hb =>
    cases h2 with
    | s s _ hl hbl =>
    split at hs
    · rename_i es hσ
      obtain ⟨b', ms, cl, hb', hh, hlen, hrel⟩ := R.heap.map i es true hσ
      have eb : b' = b := by rw [hb] at hb'; cases hb'; rfl
      subst eb
      have hlen' : ms.toList.length = es.length := by simpa using hlen
      have hrel' : ∀ (p : Nat) (e : AV × AV) (m : MapEntry), es[p]? = some e → ms.toList[p]? = some m → Rel (live N β σ) w nob m.key e.1 ∧ Rel (live N β σ) w nob m.val e.2 := fun p e m hp hm => hrel p e m hp (by simpa using hm)
      have hd : MapKept.IsKey .string (.string s) := trivial
      split at hs
      · rename_i p hp
        rcases findNow_keyAt hl es ms.toList 0 _ hlen' hrel' hp with ⟨c, _⟩ | ⟨q, m, c1, c2, c4, c3⟩
        · cases c
        · simp only [Nat.zero_add, Option.some.injEq] at c1 c3
          subst c1
          simp only [Option.some.injEq, Prod.mk.injEq] at hs
          obtain ⟨rfl, rfl⟩ := hs
          have hj : ms[p]? = some m := by simpa using c2
          have hrun : (Instr.mapUpdate t (.map (some b')) (.string s) uu).run P w = .ok () { w with heap := w.heap.setIfInBounds b' (.map (ms.modify p fun e => { e with key := .string s, val := uu }) cl) } := by
            simp [Instr.mapUpdate, run_underlying ht, MapKept.run_getObj_map hh, MapKept.run_checkKey hk hd, MapKept.run_findKey hk c3, hj, c4, MapKept.run_keyThatStays hd, MapKept.run_setObj_map _ hh, Result.andThen]
          refine ⟨undef, _, β, .inr ⟨by simp [execOp, ho, hu1, hu2, e3, hrun] <;> rfl, rfl⟩, fun _ _ h => h, (R.setMap (ms' := ms.modify p fun e => { e with key := .string s, val := uu }) (es' := es.set p (.s l, .sc uu)) (cl' := cl) hσ hb hh (by simp [hlen]) ?_).free (fun _ h => h.1), ?_⟩
          · intro p' e' m' hp' hm'
            rw [List.getElem?_set] at hp'
            rw [Array.getElem?_modify] at hm'
            by_cases ep : p = p'
            · subst ep
              rw [if_pos rfl] at hp' hm'
              split at hp'
              · cases hp'
                rw [hj] at hm'
                cases hm'
                exact ⟨.s s _ hl hbl, .sc _⟩
              · cases hp'
            · rw [if_neg ep] at hp' hm'
              exact hrel p' e' m' hp' hm'
          · exact .tp _ _ rfl (fun i u z hu hz => by simp at hz)
      · rename_i hp
        rcases findNow_keyAt hl es ms.toList 0 _ hlen' hrel' hp with ⟨_, c3⟩ | ⟨q, m, c1, _⟩
        · simp only [Option.some.injEq, Prod.mk.injEq] at hs
          obtain ⟨rfl, rfl⟩ := hs
          have hrun : (Instr.mapUpdate t (.map (some b')) (.string s) uu).run P w = .ok () { w with heap := w.heap.setIfInBounds b' (.map (ms.push { key := .string s, val := uu, born := cl }) (cl + 1)) } := by
            simp [Instr.mapUpdate, run_underlying ht, MapKept.run_getObj_map hh, MapKept.run_checkKey hk hd, MapKept.run_findKey hk c3, MapKept.run_setObj_map _ hh, Result.andThen]
          refine ⟨undef, _, β, .inr ⟨by simp [execOp, ho, hu1, hu2, e3, hrun] <;> rfl, rfl⟩, fun _ _ h => h, (R.setMap (ms' := ms.push { key := .string s, val := uu, born := cl }) (es' := es ++ [((AV.s l, AV.sc uu) : AV × AV)]) (cl' := cl + 1) hσ hb hh (by simp [hlen]) ?_).free (fun _ h => h.1), ?_⟩
          · intro p' e' m' hp' hm'
            by_cases ep : p' < es.length
            · rw [List.getElem?_append_left ep] at hp'
              rw [Array.getElem?_push, if_neg (by omega)] at hm'
              exact hrel p' e' m' hp' hm'
            · have hlt := (List.getElem?_eq_some_iff.1 hp').1
              simp only [List.length_append, List.length_cons, List.length_nil] at hlt
              have : p' = es.length := by omega
              subst this
              rw [List.getElem?_append_right (by omega)] at hp'
              simp only [Nat.sub_self, List.getElem?_cons_zero, Option.some.injEq] at hp'
              rw [Array.getElem?_push, if_pos (by omega)] at hm'
              cases hp'; cases hm'
              exact ⟨.s s _ hl hbl, .sc _⟩
          · exact .tp _ _ rfl (fun i u z hu hz => by simp at hz)
        · cases c1
      · cases hs
    · cases hs
  · cases hs
theorem good_clm (R : SRel N w0 M0 β0 ds β fr σ F a w) {o : Oper} {c : Call} {x : Operand} {kt e : TypeId} {id : Nat} {v : AV} {wr : Wr} (ho : o.op = .call c) (hc : c.callee = .builtin .clear) (ha : c.args.toList = [x]) (ht : (c.argTypes[0]?).bind P.underlying = some (.map kt e))
    (hs : hClm σ ((cOpd x).get fr) = some (v, wr)) : Good P o N w0 M0 β0 ds β fr σ F id a w v wr := by
  obtain ⟨t1, ht1, ht2⟩ := Option.bind_eq_some_iff.1 ht
  have ha' : c.args = #[x] := by apply Array.ext'; simpa using ha
  have h1 := rel_get R x
  unfold hClm at hs
  split at hs
  · rename_i i g1
    rw [g1] at h1
    generalize hu1 : a.eval x = u1 at h1
    cases h1 with
    | mp _ b hb =>
    split at hs
    · rename_i es hσ
      simp only [Option.some.injEq, Prod.mk.injEq] at hs
      obtain ⟨rfl, rfl⟩ := hs
      obtain ⟨b', ms, cl, hb', hh, hlen, hrel⟩ := R.heap.map i es true hσ
      have eb : b' = b := by rw [hb] at hb'; cases hb'; rfl
      subst eb
      have hrun : (Builtin.clear_ c.argTypes o.type #[.map (some b')]).run P w = .ok (.tuple #[]) { w with heap := w.heap.setIfInBounds b' (.map #[] cl) } := by
        simp [Builtin.clear_, ht1, run_underlying ht2, MapKept.run_getObj_map hh, MapKept.run_setObj_map _ hh, Result.andThen]
      refine ⟨.tuple #[], _, β, .inl ?_, fun _ _ h => h, (R.setMap (ms' := #[]) (es' := []) (cl' := cl) hσ hb hh rfl (fun p e m h => by simp at h)).free (fun _ h => h.1), .tp _ _ rfl (fun i u z hu hz => by simp at hz)⟩
      simp [execOp, ho, resolve, hc, ha', hu1, invoke, Go.builtin, hrun]
    · cases hs
  · cases hs
end
end Go.Proofs.YtodoejfkjimeaaaGreatDoor.Am
