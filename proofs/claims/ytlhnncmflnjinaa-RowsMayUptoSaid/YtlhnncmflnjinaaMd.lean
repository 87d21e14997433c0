/- The abstract operations say what the machine's do: those that make memory or write it; how what a call's own blocks hold reads when nobody writes them any more. -/
import Derived.Test.YtlhnncmflnjinaaMc
import Derived.Great.BuildSlice
set_option linter.unusedSimpArgs false
set_option linter.unusedVariables false
namespace Go.Proofs.Ytlhnncmflnjinaa.Am
open Go Go.RowKit

section
variable {P : Program} {N : Nat → Prop} {w0 : World} {M0 : Nat → Prop} {β0 : Nat → Option Nat} {ds : List Deferred} {β : Nat → Option Nat} {fr : Regs} {σ : Hp} {F : Nat → Prop} {a : Act} {w : World}

/-- what is to be shown of an operation that makes memory or writes it -/
def Good (P : Program) (o : Oper) (N : Nat → Prop) (w0 : World) (M0 : Nat → Prop) (β0 : Nat → Option Nat) (ds : List Deferred) (β : Nat → Option Nat) (fr : Regs) (σ : Hp) (F : Nat → Prop) (id : Nat) (a : Act) (w : World) (v : AV) (wr : Wr) : Prop :=
  ∃ u w' β', ((execOp a.eval o).run P w = .ok (.value u) w' ∨ ((execOp a.eval o).run P w = .ok .skip w' ∧ u = undef)) ∧ (∀ i b, β i = some b → β' i = some b) ∧
    SRel N w0 M0 β0 ds β' fr (applyW σ wr) (fun i => F i ∧ i ≠ id) a w' ∧ Rel (live N β' (applyW σ wr)) w' β' u v
theorem Good.pure {o : Oper} {id : Nat} {v : AV} {u : Value} (R : SRel N w0 M0 β0 ds β fr σ F a w) (hr : (execOp a.eval o).run P w = .ok (.value u) w) (hv : Rel (live N β σ) w β u v) : Good P o N w0 M0 β0 ds β fr σ F id a w v [] :=
  ⟨u, w, β, .inl hr, fun _ _ h => h, R.free (fun _ h => h.1), hv⟩
/-- cells and what is said of them -/
def Cells (M : Nat → Prop) (w : World) (β : Nat → Option Nat) (cs : Array Value) (l : List AV) : Prop := cs.size = l.length ∧ ∀ (i : Nat) (u : Value) (z : AV), cs[i]? = some u → l[i]? = some z → Rel M w β u z
theorem cells_rel {β : Nat → Option Nat} {M : Nat → Prop} {v : Value} {x : AV} {l : List AV} (h : Rel M w β v x) (hl : x.cells = some l) : Cells M w β v.cells l := by
  have one : ∀ (h : Rel M w β v x), v.cells = #[v] → x.cells = some [x] → Cells M w β v.cells [x] := by
    intro h h1 _
    rw [h1]
    refine ⟨rfl, fun i u z hu hz => ?_⟩
    cases i with
    | zero => simp at hu hz; subst hu hz; exact h
    | succ i => simp at hu
  have h0 := h
  cases h <;> simp only [AV.cells, Option.some.injEq, reduceCtorEq] at hl
  case sc =>
    cases v <;> simp only [reduceCtorEq, Option.some.injEq] at hl <;> subst hl <;> exact one (.sc _) rfl rfl
  case ag vs l' hn hr => subst hl; exact ⟨hn, hr⟩
  case s => subst hl; exact one h0 rfl rfl
  case em => subst hl; exact one h0 rfl rfl
  case tr => subst hl; exact one h0 rfl rfl
  case ow => subst hl; exact one h0 rfl rfl
  case ow0 => subst hl; exact one h0 rfl rfl
  case mp => subst hl; exact one h0 rfl rfl
  case rf => subst hl; exact one h0 rfl rfl
  case fp => subst hl; exact one h0 rfl rfl
  case fn => subst hl; exact one h0 rfl rfl
theorem cells_sc (M : Nat → Prop) (w : World) (β : Nat → Option Nat) (cs : Array Value) : Cells M w β cs (cs.toList.map ofC) := by
  refine ⟨by simp, fun i u z hu hz => ?_⟩
  rw [List.getElem?_map, show cs.toList[i]? = some u by simpa using hu] at hz
  cases hz; exact rel_ofC _ _ _ _
theorem leaf_one {β : Nat → Option Nat} {M : Nat → Prop} {v : Value} {x : AV} (h : Rel M w β v x) (hl : leafok x = true) : v.oneCell' = true := by
  cases h <;> simp only [leafok, Bool.false_eq_true] at hl <;> try rfl
  cases v <;> first | rfl | (simp at hl)
theorem fold_get (off : Nat) : ∀ (l : List Value) (n : Nat) (cs : Array Value) (i : Nat), off + n + l.length ≤ cs.size →
    ((l.zipIdx n).foldl (fun cs (p : Value × Nat) => cs.setIfInBounds (off + p.2) p.1) cs).size = cs.size ∧
    ((l.zipIdx n).foldl (fun cs (p : Value × Nat) => cs.setIfInBounds (off + p.2) p.1) cs)[i]? = if off + n ≤ i ∧ i < off + n + l.length then l[i - (off + n)]? else cs[i]?
  | [], n, cs, i, _ => by simp; intro h1 h2; omega
  | x :: l, n, cs, i, h => by
    simp only [List.zipIdx_cons, List.foldl_cons]
    simp at h
    obtain ⟨h1, h2⟩ := fold_get off l (n + 1) (cs.setIfInBounds (off + n) x) i (by simp; omega)
    refine ⟨by rw [h1]; simp, ?_⟩
    rw [h2]
    simp only [List.length_cons]
    by_cases e : i = off + n
    · subst e
      rw [if_neg (by omega), if_pos (by omega)]
      rw [Array.getElem?_setIfInBounds]
      simp; omega
    · by_cases hc : off + (n + 1) ≤ i ∧ i < off + (n + 1) + l.length
      · rw [if_pos hc, if_pos (by omega)]
        rw [show i - (off + n) = (i - (off + (n + 1))) + 1 by omega, List.getElem?_cons_succ]
      · rw [if_neg hc, if_neg (by omega), Array.getElem?_setIfInBounds, if_neg (by omega)]
theorem splice_get (l : List AV) (c : Nat) (x : List AV) (h : c + x.length ≤ l.length) (i : Nat) : (splice l c x)[i]? = if c ≤ i ∧ i < c + x.length then x[i - c]? else l[i]? := by
  unfold splice
  rw [List.getElem?_append, List.getElem?_append]
  simp only [List.length_append, List.length_take]
  by_cases h1 : i < c
  · rw [if_pos (by omega), if_pos (by omega), if_neg (by omega), List.getElem?_take, if_pos h1]
  · by_cases h2 : i < c + x.length
    · rw [if_pos (by omega), if_neg (by omega), if_pos (by omega)]
      congr 1; omega
    · rw [if_neg (by omega), if_neg (by omega), List.getElem?_drop]
      congr 1; omega
theorem splice_length (l : List AV) (c : Nat) (x : List AV) (h : c + x.length ≤ l.length) : (splice l c x).length = l.length := by
  unfold splice; simp; omega
/-- one part is put in -/
theorem fill_one {β : Nat → Option Nat} {M : Nat → Prop} {cs : Array Value} {l : List AV} (h : Cells M w β cs l) {v : Value} {x : List AV} (hv : Cells M w β v.cells x) {off : Nat} (hoff : off + x.length ≤ l.length) :
    Cells M w β (v.cells.zipIdx.foldl (fun cs (p : Value × Nat) => cs.setIfInBounds (off + p.2) p.1) cs) (splice l off x) := by
  have hc := fun i => fold_get off v.cells.toList 0 cs i (by have := h.1; have := hv.1; simp; omega)
  have e : v.cells.zipIdx.foldl (fun cs (p : Value × Nat) => cs.setIfInBounds (off + p.2) p.1) cs = (v.cells.toList.zipIdx 0).foldl (fun cs (p : Value × Nat) => cs.setIfInBounds (off + p.2) p.1) cs := by
    rw [← Array.foldl_toList, Array.toList_zipIdx]
  rw [e]
  refine ⟨by rw [(hc 0).1, splice_length _ _ _ hoff, h.1], fun i u z hu hz => ?_⟩
  rw [(hc i).2] at hu
  rw [splice_get _ _ _ hoff] at hz
  have hl : v.cells.toList.length = x.length := by simpa using hv.1
  simp only [Nat.add_zero, hl] at hu
  split at hu
  · rename_i hcond
    rw [if_pos hcond] at hz
    exact hv.2 _ u z (by simpa using hu) hz
  · rename_i hcond
    rw [if_neg hcond] at hz
    exact h.2 i u z hu hz
theorem fill_rel (R : SRel N w0 M0 β0 ds β fr σ F a w) (places : List (Nat × Nat)) : ∀ (parts : List (Nat × Operand)) (ps : List (Nat × Nat × Opd)) (cs : Array Value) (l l' : List AV), partsT places parts = some ps → Cells (live N β σ) w β cs l → fillA (ps.map fun p => (p.1, p.2.1, p.2.2.get fr)) l = some l' →
    ∃ cs', Instr.fill (places.toArray[·]?) cs (parts.map fun (i, x) => (i, a.eval x)) = some cs' ∧ Cells (live N β σ) w β cs' l'
  | [], ps, cs, l, l', h1, h2, h3 => by
    simp only [partsT, Option.some.injEq] at h1
    subst h1
    simp only [List.map_nil, fillA, Option.some.injEq] at h3
    subst h3
    exact ⟨cs, rfl, h2⟩
  | (i, x) :: rest, ps, cs, l, l', h1, h2, h3 => by
    unfold partsT at h1
    cases hp : places[i]? with
    | none => simp [hp] at h1
    | some on =>
      obtain ⟨off, n⟩ := on
      cases hr : partsT places rest with
      | none => simp [hp, hr] at h1
      | some ps' =>
        simp only [hp, hr, Option.some.injEq] at h1
        subst h1
        simp only [List.map_cons] at h3
        unfold fillA at h3
        cases hc : ((cOpd x).get fr).cells with
        | none => simp [hc] at h3
        | some xs =>
          simp only [hc] at h3
          split at h3
          · rename_i hcond
            obtain ⟨e1, e2⟩ := hcond
            have hv := cells_rel (rel_get R x) hc
            have h2' := fill_one h2 hv (off := off) (by omega)
            obtain ⟨cs', e3, e4⟩ := fill_rel R places rest ps' _ _ l' hr h2' h3
            refine ⟨cs', ?_, e4⟩
            have hsz : (a.eval x).cells.size = n := by rw [hv.1, e1]
            have hle : ¬ (off + (a.eval x).cells.size > cs.size) := by rw [hsz, h2.1]; omega
            simp only [List.map_cons, Instr.fill, List.getElem?_toArray, hp, hsz, ne_eq, not_true_eq_false, decide_false, Bool.false_or]
            rw [if_neg (by rw [hsz] at hle; simpa using hle)]
            simpa using e3
          · cases h3
theorem fill_mono {place place' : Nat → Option (Nat × Nat)} (h : ∀ i p, place i = some p → place' i = some p) : ∀ (l : List (Nat × Value)) (cs r : Array Value), Instr.fill place cs l = some r → Instr.fill place' cs l = some r
  | [], cs, r, hr => hr
  | (i, v) :: rest, cs, r, hr => by
    simp only [Instr.fill] at hr ⊢
    cases hp : place i with
    | none => simp [hp] at hr
    | some p =>
      rw [h i p hp]
      rw [hp] at hr
      simp only at hr ⊢
      split at hr
      · cases hr
      · rename_i hc
        rw [if_neg hc]
        exact fill_mono h rest _ r hr
theorem good_build (R : SRel N w0 M0 β0 ds β fr σ F a w) {o : Oper} {t : TypeId} {parts : Array (Nat × Operand)} {d : TypeDesc} {zs : List Value} {places : List (Nat × Nat)} {ps : List (Nat × Nat × Opd)} {v : AV} (ho : o.op = .build t parts)
    (ht : P.underlying t = some d) (hz : zsT P t = some zs) (hp : placesT P d = some places) (hps : partsT places parts.toList = some ps)
    (hs : aBuild zs (ps.map fun p => (p.1, p.2.1, p.2.2.get fr)) = some v) : GoodR P o N β σ a w v := by
  unfold aBuild at hs
  obtain ⟨l, hf, rfl⟩ := Option.map_eq_some_iff.1 hs
  unfold zsT at hz
  obtain ⟨z, hz1, rfl⟩ := Option.map_eq_some_iff.1 hz
  obtain ⟨it, hit, hz2⟩ := Option.bind_eq_some_iff.1 hz1
  obtain ⟨cs, e1, e2⟩ := fill_rel R places parts.toList ps z.cells _ l hps (cells_sc _ _ _ _) hf
  refine ⟨.agg cs, ?_, .ag cs l e2.1 e2.2⟩
  cases d <;> simp only [placesT, reduceCtorEq] at hp
  case struct fs =>
    have := run_build (P := P) w t (parts.map fun (i, x) => (i, a.eval x)) cs (by simp only [Program.built, hit, ht, hz2, hp]; simpa using e1)
    simp [execOp, ho, this]
  case array n e =>
    split at hp
    · rename_i hn
      obtain ⟨ie, hie, hpl⟩ := Option.map_eq_some_iff.1 hp
      have e1' := fill_mono (place' := fun i => some (i * ie.size, ie.size)) (fun i p h => by
        rw [← hpl] at h
        simp only [List.getElem?_toArray, List.getElem?_map] at h
        obtain ⟨j, hj, rfl⟩ := Option.map_eq_some_iff.1 h
        obtain ⟨hj1, hj2⟩ := List.getElem?_eq_some_iff.1 hj
        simp at hj2
        rw [hj2]) _ _ _ e1
      simp [execOp, ho, Instr.build, zeroValue, typeInfo, hit, hz2, run_underlying ht, sizeOf, hie, e1']
    · cases hp
/-- a new block is made -/
theorem Good.new {o : Oper} {id : Nat} {v : AV} {u : Value} (R : SRel N w0 M0 β0 ds β fr σ F a w) (hid : F id) {cells : Array Value} {e : TypeId} {x : Blk} (hn : x.rows.length * x.k ≤ cells.size) (hr : ∀ r ∈ x.rows, r.length = x.k) (hB : x.rows.length ≤ 4611686018427387904)
    (hc : ∀ (p q : Nat) (r : List AV) (a : AV), x.rows[p]? = some r → r[q]? = some a → ∃ u, cells[p * x.k + q]? = some u ∧ Rel (live N β σ) w (x.nm β) u a)
    (hrun : (execOp a.eval o).run P w = .ok (.value u) (w.alloc (.cells cells e)))
    (hv : Rel (live N (upd β id (some w.heap.size)) (upd σ id (some (.c x)))) (w.alloc (.cells cells e)) (upd β id (some w.heap.size)) u v) : Good P o N w0 M0 β0 ds β fr σ F id a w v [(id, some (.c x))] := by
  obtain ⟨h1, h2⟩ := R.new id hid cells e x hn hr hB hc
  have hβ0 := (R.heap.dom id hid).1
  exact ⟨u, _, _, .inl hrun, fun i b hb => by rw [upd_ne _ _ (fun e => by subst e; rw [hβ0] at hb; cases hb)]; exact hb, h1, hv⟩
/-- one row -/
theorem row_one {cells : Array Value} {l : List AV} (h : Cells (live N β σ) w β cells l) : ∀ (p q : Nat) (r : List AV) (z : AV), [l][p]? = some r → r[q]? = some z → ∃ u, cells[p * l.length + q]? = some u ∧ Rel (live N β σ) w β u z := by
  intro p q r z hp hq
  cases p with
  | zero =>
    simp at hp; subst hp
    have hlt : q < cells.size := by rw [h.1]; exact (List.getElem?_eq_some_iff.1 hq).1
    exact ⟨cells[q], by simp [hlt], h.2 q _ z (by simp [hlt]) hq⟩
  | succ p => simp at hp
theorem good_alloc (R : SRel N w0 M0 β0 ds β fr σ F a w) {o : Oper} {e : TypeId} {zs : List Value} {id : Nat} {v : AV} {wr : Wr} (hid : F id) (ho : o.op = .alloc e) (hz : zsT P e = some zs)
    (hs : hAlloc id zs = some (v, wr)) : Good P o N w0 M0 β0 ds β fr σ F id a w v wr := by
  simp only [hAlloc, Option.some.injEq, Prod.mk.injEq] at hs
  obtain ⟨rfl, rfl⟩ := hs
  unfold zsT at hz
  obtain ⟨z, hz1, rfl⟩ := Option.map_eq_some_iff.1 hz
  obtain ⟨it, hit, hz2⟩ := Option.bind_eq_some_iff.1 hz1
  have hrow := row_one (cells_sc (live N β σ) w β z.cells)
  refine .new R hid (cells := z.cells) (e := e) (x := ⟨z.cells.toList.length, [z.cells.toList.map ofC], true, false⟩) (by simp) (by simp) (by simp) (by simpa [Blk.nm] using hrow) (u := .pointer (some ⟨w.heap.size, 0, none⟩)) ?_ ?_
  · simp [execOp, ho, Instr.alloc, zeroValue, typeInfo, hit, hz2, newVar, newRow]
  · have := Rel.rf (β := upd β id (some w.heap.size)) (M := live N (upd β id (some w.heap.size)) (upd σ id (some (.c ⟨z.cells.toList.length, [z.cells.toList.map ofC], true, false⟩)))) (w := w.alloc (.cells z.cells e)) id z.cells.toList.length 0 0 w.heap.size (by simp)
    simpa using this
theorem good_box (R : SRel N w0 M0 β0 ds β fr σ F a w) {o : Oper} {e : TypeId} {x : Operand} {id : Nat} {v : AV} {wr : Wr} (hid : F id) (ho : o.op = .box e x)
    (hs : hBox id ((cOpd x).get fr) = some (v, wr)) : Good P o N w0 M0 β0 ds β fr σ F id a w v wr := by
  unfold hBox at hs
  cases hc : ((cOpd x).get fr).cells with
  | none => simp [hc] at hs
  | some l =>
    simp only [hc, Option.map_some, Option.some.injEq, Prod.mk.injEq] at hs
    obtain ⟨rfl, rfl⟩ := hs
    have hcl := cells_rel (rel_get R x) hc
    refine .new R hid (cells := (a.eval x).cells) (e := e) (x := ⟨l.length, [l], true, false⟩) (by simp [hcl.1]) (by simp) (by simp) (row_one hcl) (u := .pointer (some ⟨w.heap.size, 0, none⟩)) ?_ ?_
    · simp [execOp, ho, Instr.box, newVar, newRow]
    · have := Rel.rf (β := upd β id (some w.heap.size)) (M := live N (upd β id (some w.heap.size)) (upd σ id (some (.c ⟨l.length, [l], true, false⟩)))) (w := w.alloc (.cells (a.eval x).cells e)) id l.length 0 0 w.heap.size (by simp)
      simpa using this
theorem brwL_get (σ : Hp) (d : Nat) : ∀ (l cs : List AV) (I : List Nat), brwL σ d l = some (cs, I) → cs.length = l.length ∧ ∀ (i : Nat) (z : AV), l[i]? = some z → ∃ c J, cs[i]? = some c ∧ brw σ d z = some (c, J) ∧ ∀ j ∈ J, j ∈ I
  | [], cs, I, h => by
    simp only [brwL, List.foldr_nil, Option.some.injEq, Prod.mk.injEq] at h
    obtain ⟨rfl, rfl⟩ := h
    exact ⟨rfl, fun i z h => by simp at h⟩
  | x :: l, cs, I, h => by
    simp only [brwL, List.foldr_cons] at h
    split at h
    · rename_i c J cs' I' h1 h2
      simp only [Option.some.injEq, Prod.mk.injEq] at h
      obtain ⟨rfl, rfl⟩ := h
      obtain ⟨g1, g2⟩ := brwL_get σ d l cs' I' h2
      refine ⟨by simp [g1], fun i z hz => ?_⟩
      cases i with
      | zero => simp at hz; subst hz; exact ⟨c, J, rfl, h1, fun j hj => List.mem_append_left _ hj⟩
      | succ i =>
        simp only [List.getElem?_cons_succ] at hz ⊢
        obtain ⟨c', J', a1, a2, a3⟩ := g2 i z hz
        exact ⟨c', J', a1, a2, fun j hj => List.mem_append_right _ (a3 j hj)⟩
    · cases h
theorem brw_rel {M' : Nat → Prop} (H : HRel N β σ F w) (hM : ∀ b, M' b → live N β σ b) : ∀ (d : Nat) (x c : AV) (I : List Nat) (v : Value), brw σ d x = some (c, I) → Rel (live N β σ) w β v x → (∀ i ∈ I, ∀ b, β i = some b → ¬ M' b) → Rel M' w nob v c := by
  have mono : ∀ {v c}, Rel (live N β σ) w nob v c → Rel M' w nob v c := fun h => h.sub hM
  have base : ∀ (x c : AV) (v : Value), (c = x ∧ clo x = true) → x ≠ .em → Rel (live N β σ) w β v x → Rel M' w nob v c := by
    rintro x c v ⟨rfl, hx⟩ hne h
    refine mono ?_
    cases h <;> simp only [clo, Bool.false_eq_true] at hx
    · exact .any _
    · exact .sc _
    · exact .s _ _ (by assumption) (by assumption)
    · exact .em _
    · exact .tr _ _ _ _ _ (by assumption) (by assumption) (by assumption) (by assumption) (by assumption) (by assumption) (by assumption)
    · exact .fp _ _ _ (by assumption) (by assumption) (by assumption) (by assumption)
  have hem : ∀ v, Rel (live N β σ) w β v .em → Rel M' w nob v (.tr []) := by
    intro v h
    cases h with
    | em A => exact .tr A 0 1 [] (fun _ _ => undef) (by omega) (by simp) (by simp) (by simp) (by simp) (by simp) (by simp)
  intro d
  induction d with
  | zero =>
    intro x c I v hb h hI
    cases x <;> simp only [brw, Option.some.injEq, Prod.mk.injEq, reduceCtorEq] at hb
    · exact base _ _ _ ⟨hb.1.symm, rfl⟩ (by simp) h
    · exact base _ _ _ ⟨hb.1.symm, rfl⟩ (by simp) h
    · rw [← hb.1]; exact hem _ h
    · exact base _ _ _ ⟨hb.1.symm, rfl⟩ (by simp) h
    · exact base _ _ _ ⟨hb.1.symm, rfl⟩ (by simp) h
  | succ d ih =>
    intro x c I v hb h hI
    cases x with
    | any => simp [brw] at hb
    | bo => simp [brw] at hb
    | mp i => simp [brw] at hb
    | fn f l =>
      change (brwL σ d l).map (fun p => (AV.fn f p.1, p.2)) = some (c, I) at hb
      obtain ⟨⟨cs, I'⟩, h1, h2⟩ := Option.map_eq_some_iff.1 hb
      cases h2
      obtain ⟨g1, g2⟩ := brwL_get σ d l cs I' h1
      cases h with
      | fn _ vs _ hn hr =>
        refine .fn f vs cs (by rw [hn, g1]) (fun i u z hu hz => ?_)
        have hlt : i < l.length := by rw [← g1]; exact (List.getElem?_eq_some_iff.1 hz).1
        obtain ⟨c', J, a1, a2, a3⟩ := g2 i l[i] (List.getElem?_eq_getElem hlt)
        rw [hz] at a1; cases a1
        exact ih _ _ _ _ a2 (hr i u _ hu (List.getElem?_eq_getElem hlt)) (fun j hj => hI j (a3 j hj))
    | sc v => simp only [brw, Option.some.injEq, Prod.mk.injEq] at hb; exact base _ _ _ ⟨hb.1.symm, rfl⟩ (by simp) h
    | s l => simp only [brw, Option.some.injEq, Prod.mk.injEq] at hb; exact base _ _ _ ⟨hb.1.symm, rfl⟩ (by simp) h
    | em => simp only [brw, Option.some.injEq, Prod.mk.injEq] at hb; rw [← hb.1]; exact hem _ h
    | tr rows => simp only [brw, Option.some.injEq, Prod.mk.injEq] at hb; exact base _ _ _ ⟨hb.1.symm, rfl⟩ (by simp) h
    | fp l => simp only [brw, Option.some.injEq, Prod.mk.injEq] at hb; exact base _ _ _ ⟨hb.1.symm, rfl⟩ (by simp) h
    | ag l =>
      change (brwL σ d l).map (fun p => (AV.ag p.1, p.2)) = some (c, I) at hb
      obtain ⟨⟨cs, I'⟩, h1, h2⟩ := Option.map_eq_some_iff.1 hb
      cases h2
      obtain ⟨g1, g2⟩ := brwL_get σ d l cs I' h1
      cases h with
      | ag vs _ hn hr =>
        refine .ag vs cs (by rw [hn, g1]) (fun i u z hu hz => ?_)
        have hlt : i < l.length := by rw [← g1]; exact (List.getElem?_eq_some_iff.1 hz).1
        obtain ⟨c', J, a1, a2, a3⟩ := g2 i l[i] (List.getElem?_eq_getElem hlt)
        rw [hz] at a1; cases a1
        exact ih _ _ _ _ a2 (hr i u _ hu (List.getElem?_eq_getElem hlt)) (fun j hj => hI j (a3 j hj))
    | tp l =>
      change (brwL σ d l).map (fun p => (AV.tp p.1, p.2)) = some (c, I) at hb
      obtain ⟨⟨cs, I'⟩, h1, h2⟩ := Option.map_eq_some_iff.1 hb
      cases h2
      obtain ⟨g1, g2⟩ := brwL_get σ d l cs I' h1
      cases h with
      | tp vs _ hn hr =>
        refine .tp vs cs (by rw [hn, g1]) (fun i u z hu hz => ?_)
        have hlt : i < l.length := by rw [← g1]; exact (List.getElem?_eq_some_iff.1 hz).1
        obtain ⟨c', J, a1, a2, a3⟩ := g2 i l[i] (List.getElem?_eq_getElem hlt)
        rw [hz] at a1; cases a1
        exact ih _ _ _ _ a2 (hr i u _ hu (List.getElem?_eq_getElem hlt)) (fun j hj => hI j (a3 j hj))
    | ow i k off len =>
      simp only [brw] at hb
      split at hb
      · rename_i x hσ
        split at hb
        · rename_i hc
          obtain ⟨e1, e2, e3, e4⟩ := hc
          simp only [Option.some.injEq, Prod.mk.injEq] at hb
          obtain ⟨rfl, rfl⟩ := hb
          cases h with
          | ow0 A => exact .tr A 0 1 [] (fun _ _ => undef) (by omega) (by simp) (by simp) (by simp) (by simp) (by simp) (by simp)
          | ow _ _ _ _ cap b e n hb hl hs hn =>
            obtain ⟨cells, e', h2, h3, h4, h4', h5⟩ := H.phys hσ hb
            have hlen : ((x.rows.drop off).take len).length = len := by simp; omega
            have hget : ∀ (p : Nat) (r : List AV), ((x.rows.drop off).take len)[p]? = some r → x.rows[off + p]? = some r := fun p r hp => by
              rw [List.getElem?_take] at hp
              split at hp
              · rwa [List.getElem?_drop] at hp
              · cases hp
            have := Rel.tr (M := M') (w := w) (β := nob) (some ⟨b, off * k, none⟩) cap k ((x.rows.drop off).take len) (fun p q => cells.getD ((off + p) * k + q) undef) e4 (by omega) (by omega)
              (fun r hr => by rw [← e1]; exact h4 r (List.mem_of_mem_drop (List.mem_of_mem_take hr))) (fun _ => ⟨_, rfl, hI i (by simp) b hb⟩) ?_ ?_
            · rwa [hlen] at this
            · intro ad p q had hp hq
              cases had
              have hp' : x.rows[off + p]? = some x.rows[off + p] := List.getElem?_eq_getElem (by omega)
              have hl' : x.rows[off + p].length = k := by rw [← e1]; exact h4 _ (List.getElem_mem _)
              obtain ⟨u, hu, _⟩ := h5 (off + p) q _ (x.rows[off + p][q]'(by omega)) hp' (List.getElem?_eq_getElem (by omega))
              rw [e1] at hu
              rw [add_none, show off * k + (p * k + q) = (off + p) * k + q by rw [Nat.add_mul]; omega, blk_cell h2 hu]
              simp [Array.getD_eq_getD_getElem?, hu]
            · intro p q r z hp hq
              obtain ⟨u, hu, hr⟩ := h5 (off + p) q r z (hget p r hp) hq
              rw [e1] at hu
              have hr' : Rel (live N β σ) w nob u z := by unfold Blk.nm at hr; rw [if_pos e2] at hr; exact hr
              simpa [Array.getD_eq_getD_getElem?, hu] using mono hr'
        · cases hb
      · cases hb
    | rf i k r cc =>
      change (match σ i with
        | some (.c x) => if x.k = k then (match x.rows[r]? with
          | some row => if cc < row.length then ((brwL σ d (row.drop cc)).map fun p => (AV.fp p.1, i :: p.2)) else none
          | none => none) else none
        | _ => none) = some (c, I) at hb
      split at hb
      · rename_i x hσ
        split at hb
        · rename_i e1
          cases hrow : x.rows[r]? with
          | none => simp [hrow] at hb
          | some row =>
            simp only [hrow] at hb
            split at hb
            · rename_i e2
              obtain ⟨⟨cs, I'⟩, k1, k2⟩ := Option.map_eq_some_iff.1 hb
              cases k2
              obtain ⟨g1, g2⟩ := brwL_get σ d _ cs I' k1
              cases h with
              | rf _ _ _ _ b hb =>
                obtain ⟨cells, e', h2, h3, h4, h4', h5⟩ := H.phys hσ hb
                have hrl : row.length = k := by rw [← e1]; exact h4 row (List.mem_of_getElem? hrow)
                simp only [List.length_drop] at g1
                have key : ∀ j, j < cs.length → ∃ u, cells[r * k + cc + j]? = some u ∧ ∃ z, (row.drop cc)[j]? = some z ∧ Rel (live N β σ) w β u z := by
                  intro j hj
                  have hlt : cc + j < row.length := by omega
                  obtain ⟨u, hu, hr⟩ := h5 r (cc + j) row row[cc + j] hrow (List.getElem?_eq_getElem hlt)
                  exact ⟨u, by rw [← e1, Nat.add_assoc]; exact hu, row[cc + j], by rw [List.getElem?_drop]; exact List.getElem?_eq_getElem hlt, nm_lift hr⟩
                refine .fp _ cs (fun j => cells.getD (r * k + cc + j) undef) (by intro e; rw [e] at g1; simp at g1; omega) (hI i (by simp) b hb) ?_ ?_
                · intro j hj
                  obtain ⟨u, hu, _⟩ := key j hj
                  rw [add_none, blk_cell h2 hu]
                  simp [Array.getD_eq_getD_getElem?, hu]
                · intro j y hy
                  have hj := (List.getElem?_eq_some_iff.1 hy).1
                  obtain ⟨u, hu, z, hz, hr⟩ := key j hj
                  obtain ⟨c', J, a1, a2, a3⟩ := g2 j z hz
                  rw [hy] at a1; cases a1
                  have := ih _ _ _ _ a2 hr (fun q hq => hI q (List.mem_cons_of_mem _ (a3 q hq)))
                  simpa [Array.getD_eq_getD_getElem?, hu] using this
            · cases hb
        · cases hb
      · cases hb
/-- freezing -/
theorem Ob.frz_le (x y : Ob) (h : Ob.le x y) : Ob.le x.frz y ∧ x.frz.wr = false := by
  cases h with
  | c k rows wr wr' cl hw => exact ⟨.c _ _ _ _ _ (fun h => by cases h), rfl⟩
  | m es wr wr' hw => exact ⟨.m _ _ _ (fun h => by cases h), rfl⟩
theorem frz_get (σ : Hp) : ∀ (I : List Nat) (τ : Hp) (i : Nat) (x : Ob), applyW τ (frz σ I) i = some x → (∀ i x, τ i = some x → ∃ y, σ i = some y ∧ Ob.le x y) →
    (∃ y, σ i = some y ∧ Ob.le x y) ∧ ((i ∈ I ∨ ∀ x, τ i = some x → x.wr = false) → x.wr = false)
  | [], τ, i, x, h, hτ => ⟨hτ i x h, fun h' => (h'.resolve_left (by simp)) x h⟩
  | j :: I, τ, i, x, h, hτ => by
    simp only [frz, applyW] at h
    have hτ' : ∀ i x, (upd τ j ((σ j).map Ob.frz)) i = some x → ∃ y, σ i = some y ∧ Ob.le x y := by
      intro i x hx
      by_cases e : i = j
      · subst e
        rw [upd_same] at hx
        obtain ⟨y, hy, rfl⟩ := Option.map_eq_some_iff.1 hx
        exact ⟨y, hy, (Ob.frz_le y y (.refl y)).1⟩
      · rw [upd_ne _ _ e] at hx; exact hτ i x hx
    obtain ⟨g1, g2⟩ := frz_get σ I _ i x h hτ'
    refine ⟨g1, fun hi => g2 ?_⟩
    by_cases e : i = j
    · subst e
      refine .inr fun x hx => ?_
      rw [upd_same] at hx
      obtain ⟨y, hy, rfl⟩ := Option.map_eq_some_iff.1 hx
      exact (Ob.frz_le y y (.refl y)).2
    · rcases hi with hi | hi
      · exact .inl ((List.mem_cons.1 hi).resolve_left e)
      · exact .inr fun x hx => by rw [upd_ne _ _ e] at hx; exact hi x hx
theorem frz_less (σ : Hp) (I : List Nat) : ∀ i x, applyW σ (frz σ I) i = some x → ∃ y, σ i = some y ∧ Ob.le x y := fun i x h =>
  (frz_get σ I σ i x h (fun _ x h => ⟨x, h, .refl x⟩)).1
theorem frz_off (H : HRel N β σ F w) {I : List Nat} (hI : ∀ i ∈ I, (σ i).isSome) : (∀ b, live N β (applyW σ (frz σ I)) b → live N β σ b) ∧ ∀ i ∈ I, ∀ b, β i = some b → ¬ live N β (applyW σ (frz σ I)) b := by
  constructor
  · rintro b (h | ⟨i, x, h1, h2, h3⟩)
    · exact .inl h
    · obtain ⟨y, hy, hle⟩ := frz_less σ I i x h1
      exact .inr ⟨i, y, hy, hle.wr h2, h3⟩
  · rintro i hi b hb (h | ⟨j, x, h1, h2, h3⟩)
    · obtain ⟨y, hy⟩ := Option.isSome_iff_exists.1 (hI i hi)
      exact H.off i y b hy hb h
    · obtain ⟨y, hy, _⟩ := frz_less σ I j x h1
      have : j = i := H.inj j i b h3 hb (by simp [hy]) (hI i hi)
      subst this
      have := (frz_get σ I σ j x h1 (fun i x h => ⟨x, h, .refl x⟩)).2 (.inl hi)
      rw [this] at h2; cases h2
theorem brw_some (σ : Hp) : ∀ (d : Nat) (x c : AV) (I : List Nat), brw σ d x = some (c, I) → ∀ i ∈ I, (σ i).isSome := by
  have lst : ∀ d, (∀ (x c : AV) (I : List Nat), brw σ d x = some (c, I) → ∀ i ∈ I, (σ i).isSome) → ∀ (l cs : List AV) (I : List Nat), brwL σ d l = some (cs, I) → ∀ i ∈ I, (σ i).isSome := by
    intro d hd l
    induction l with
    | nil => intro cs I h i hi; simp only [brwL, List.foldr_nil, Option.some.injEq, Prod.mk.injEq] at h; rw [← h.2] at hi; cases hi
    | cons x l ih =>
      intro cs I h i hi
      simp only [brwL, List.foldr_cons] at h
      split at h
      · rename_i c J cs' I' h1 h2
        simp only [Option.some.injEq, Prod.mk.injEq] at h
        obtain ⟨rfl, rfl⟩ := h
        rcases List.mem_append.1 hi with hi | hi
        · exact hd _ _ _ h1 i hi
        · exact ih cs' I' h2 i hi
      · cases h
  intro d
  induction d with
  | zero => intro x c I h i hi; cases x <;> simp only [brw, Option.some.injEq, Prod.mk.injEq, reduceCtorEq] at h <;> (rw [← h.2] at hi; cases hi)
  | succ d ih =>
    intro x c I h i hi
    cases x with
    | any => simp [brw] at h
    | bo => simp [brw] at h
    | mp i => simp [brw] at h
    | s l => simp only [brw, Option.some.injEq, Prod.mk.injEq] at h; rw [← h.2] at hi; cases hi
    | em => simp only [brw, Option.some.injEq, Prod.mk.injEq] at h; rw [← h.2] at hi; cases hi
    | fn f l =>
      change (brwL σ d l).map (fun p => (AV.fn f p.1, p.2)) = some (c, I) at h
      obtain ⟨⟨cs, I'⟩, h1, h2⟩ := Option.map_eq_some_iff.1 h
      cases h2; exact lst d ih l cs I' h1 i hi
    | sc v => simp only [brw, Option.some.injEq, Prod.mk.injEq] at h; rw [← h.2] at hi; cases hi
    | tr rows => simp only [brw, Option.some.injEq, Prod.mk.injEq] at h; rw [← h.2] at hi; cases hi
    | fp l => simp only [brw, Option.some.injEq, Prod.mk.injEq] at h; rw [← h.2] at hi; cases hi
    | ag l =>
      change (brwL σ d l).map (fun p => (AV.ag p.1, p.2)) = some (c, I) at h
      obtain ⟨⟨cs, I'⟩, h1, h2⟩ := Option.map_eq_some_iff.1 h
      cases h2; exact lst d ih l cs I' h1 i hi
    | tp l =>
      change (brwL σ d l).map (fun p => (AV.tp p.1, p.2)) = some (c, I) at h
      obtain ⟨⟨cs, I'⟩, h1, h2⟩ := Option.map_eq_some_iff.1 h
      cases h2; exact lst d ih l cs I' h1 i hi
    | ow j k off len =>
      simp only [brw] at h
      split at h
      · rename_i x hσ
        split at h
        · simp only [Option.some.injEq, Prod.mk.injEq] at h
          rw [← h.2] at hi; simp at hi; subst hi; simp [hσ]
        · cases h
      · cases h
    | rf j k r cc =>
      change (match σ j with
        | some (.c x) => if x.k = k then (match x.rows[r]? with
          | some row => if cc < row.length then ((brwL σ d (row.drop cc)).map fun p => (AV.fp p.1, j :: p.2)) else none
          | none => none) else none
        | _ => none) = some (c, I) at h
      split at h
      · rename_i x hσ
        split at h
        · cases hrow : x.rows[r]? with
          | none => simp [hrow] at h
          | some row =>
            simp only [hrow] at h
            split at h
            · obtain ⟨⟨cs, I'⟩, k1, k2⟩ := Option.map_eq_some_iff.1 h
              cases k2
              rcases List.mem_cons.1 hi with rfl | hi
              · simp [hσ]
              · exact lst d ih _ cs I' k1 i hi
            · cases h
        · cases h
      · cases h
theorem brwL_some {σ : Hp} {d : Nat} {l cs : List AV} {I : List Nat} (h : brwL σ d l = some (cs, I)) : ∀ i ∈ I, (σ i).isSome := by
  refine brw_some σ (d + 1) (.ag l) (.ag cs) I ?_
  change (brwL σ d l).map (fun p => (AV.ag p.1, p.2)) = _
  rw [h]; rfl
end
end Go.Proofs.Ytlhnncmflnjinaa.Am
