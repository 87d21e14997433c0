/- The abstract operations say what the machine's do: maps whose keys are texts. -/
import Derived.Test.YtlhnncmflnjinaaMe
import Derived.MapKept
set_option linter.unusedSimpArgs false
set_option linter.unusedVariables false
namespace Go.Proofs.Ytlhnncmflnjinaa.Am
open Go Go.RowKit

section
variable {P : Program} {N : Nat → Prop} {w0 : World} {M0 : Nat → Prop} {β0 : Nat → Option Nat} {ds : List Deferred} {β : Nat → Option Nat} {fr : Regs} {σ : Hp} {F : Nat → Prop} {a : Act} {w : World}
theorem beq_bytes {s b : ByteArray} : (s == b) = decide (s.data.toList = b.data.toList) := by
  have key : s = b ↔ s.data.toList = b.data.toList := by
    constructor
    · rintro rfl; rfl
    · intro e
      cases s; cases b
      simp only at e
      congr 1
      exact Array.toList_inj.1 e
  cases hb : (s == b) with
  | true => rw [decide_eq_true (key.1 ((MapKept.bytes_beq _ _).1 hb))]
  | false =>
    rw [decide_eq_false]
    intro e
    rw [(MapKept.bytes_beq _ _).2 (key.2 e)] at hb
    cases hb
/-- what is found is what is said to be found -/
theorem findNow_keyAt {M : Nat → Prop} {s : ByteArray} {l : List UInt8} (hl : s.data.toList = l) : ∀ (es : List (AV × AV)) (ms : List MapEntry) (n : Nat) (r : Option Nat), ms.length = es.length →
    (∀ (p : Nat) (e : AV × AV) (m : MapEntry), es[p]? = some e → ms[p]? = some m → Rel M w nob m.key e.1 ∧ Rel M w nob m.val e.2) → keyAt l n es = some r →
    (r = none ∧ Instr.findNow .string (.string s) ms n = some none) ∨ ∃ (q : Nat) (m : MapEntry), r = some (n + q) ∧ ms[q]? = some m ∧ m.key = .string s ∧ Instr.findNow .string (.string s) ms n = some (some (n + q, m.val))
  | [], ms, n, r, hlen, _, h => by
    have : ms = [] := List.eq_nil_of_length_eq_zero hlen
    subst this
    simp only [keyAt, Option.some.injEq] at h
    exact .inl ⟨h.symm, rfl⟩
  | e :: es, ms, n, r, hlen, hr, h => by
    cases ms with
    | nil => simp at hlen
    | cons m ms =>
      simp only [keyAt] at h
      split at h
      · rename_i k v
        have hk := (hr 0 _ m rfl rfl).1
        have hkey : ∃ b : ByteArray, m.key = .string b ∧ b.data.toList = k := by
          generalize m.key = kk at hk
          cases hk with
          | s b _ hb _ => exact ⟨b, rfl, hb⟩
        obtain ⟨b, hb1, hb2⟩ := hkey
        have hsame : Instr.sameNow .string (.string s) m.key = some (decide (l = k)) := by
          rw [hb1]; simp only [Instr.sameNow, beq_bytes, hl, hb2]
        split at h
        · rename_i e1
          cases h
          refine .inr ⟨0, m, rfl, rfl, ?_, ?_⟩
          · rw [hb1]; congr 1
            cases s; cases b
            simp only at hl hb2
            congr 1
            exact Array.toList_inj.1 (by rw [hb2, hl, e1])
          · simp only [Instr.findNow, hsame, decide_eq_true e1.symm]; rfl
        · rename_i e1
          have hstep : Instr.findNow .string (.string s) (m :: ms) n = Instr.findNow .string (.string s) ms (n + 1) := by
            simp only [Instr.findNow, hsame, decide_eq_false (fun e => e1 e.symm : ¬ l = k)]
          rw [hstep]
          rcases findNow_keyAt hl es ms (n + 1) r (by simpa using hlen) (fun p e m hp hm => hr (p + 1) e m (by simpa using hp) (by simpa using hm)) h with ⟨g1, g2⟩ | ⟨q, m', g1, g2, g3, g4⟩
          · exact .inl ⟨g1, g2⟩
          · refine .inr ⟨q + 1, m', by rw [g1]; congr 1; omega, by simpa using g2, g3, by rw [g4]; congr 3; omega⟩
      · cases h
theorem good_mkm (R : SRel N w0 M0 β0 ds β fr σ F a w) {o : Oper} {t : TypeId} {id : Nat} {v : AV} {wr : Wr} (hid : F id) (ho : o.op = .makeMap t none) (hs : hMkm id = some (v, wr)) : Good P o N w0 M0 β0 ds β fr σ F id a w v wr := by
  simp only [hMkm, Option.some.injEq, Prod.mk.injEq] at hs
  obtain ⟨rfl, rfl⟩ := hs
  obtain ⟨h1, h2⟩ := R.newObj id hid (.map #[] 0) (.m [] true) (fun y h => by cases h) (fun es wr h => by cases h; exact ⟨#[], 0, rfl, rfl, fun p e m h => by simp at h⟩)
  have hβ0 := (R.heap.dom id hid).1
  refine ⟨.map (some w.heap.size), _, _, .inl ?_, fun i b hb => by rw [upd_ne _ _ (fun e => by subst e; rw [hβ0] at hb; cases hb)]; exact hb, h1, .mp _ _ (by simp)⟩
  simp [execOp, ho, Instr.makeMap] <;> rfl
theorem good_lkp (R : SRel N w0 M0 β0 ds β fr σ F a w) {o : Oper} {t kt e : TypeId} {z : Value} {ok : Bool} {x k : Operand} {v : AV} (ho : o.op = .lookup t x k ok) (ht : P.underlying t = some (.map kt e)) (hk : P.underlying kt = some .string) (hz : (P.info? e).bind (·.zero) = some z)
    (hs : aLkp σ z ok ((cOpd x).get fr) ((cOpd k).get fr) = some v) : GoodR P o N β σ a w v := by
  have h1 := rel_get R x
  have h2 := rel_get R k
  obtain ⟨it, hit, hz2⟩ := Option.bind_eq_some_iff.1 hz
  unfold aLkp at hs
  split at hs
  · rename_i i l g1 g2
    rw [g1] at h1; rw [g2] at h2
    generalize hu1 : a.eval x = u1 at h1
    generalize hu2 : a.eval k = u2 at h2
    cases h1 with
    | mp _ b hb =>
    cases h2 with
    | s s _ hl hbl =>
    split at hs
    · rename_i es wr hσ
      obtain ⟨b', ms, cl, hb', hh, hlen, hrel⟩ := R.heap.map i es wr hσ
      have eb : b' = b := by rw [hb] at hb'; cases hb'; rfl
      subst eb
      have hlen' : ms.toList.length = es.length := by simpa using hlen
      have hrel' : ∀ (p : Nat) (e : AV × AV) (m : MapEntry), es[p]? = some e → ms.toList[p]? = some m → Rel (live N β σ) w nob m.key e.1 ∧ Rel (live N β σ) w nob m.val e.2 := fun p e m hp hm => hrel p e m hp (by simpa using hm)
      have hd : MapKept.IsKey .string (.string s) := trivial
      split at hs
      · rename_i p hp
        rcases findNow_keyAt hl es ms.toList 0 _ hlen' hrel' hp with ⟨c, _⟩ | ⟨q, m, c1, c2, _, c3⟩
        · cases c
        · simp only [Nat.zero_add, Option.some.injEq] at c1 c3
          subst c1
          split at hs
          · rename_i kk vv hes
            have hv := (hrel' p _ m hes c2).2
            have hv := rel_sc hv
            have hrun : (Instr.lookup t (.map (some b')) (.string s) ok).run P w = .ok (if ok then .tuple #[m.val, .bool true] else m.val) w := by
              simp [Instr.lookup, run_underlying ht, MapKept.run_getObj_map hh, MapKept.run_checkKey hk hd, MapKept.run_findKey hk c3, Result.andThen]
            cases ok
            · cases hs
              exact ⟨_, by simp [execOp, ho, hu1, hu2, hrun] <;> rfl, by rw [hv]; exact .sc _⟩
            · cases hs
              refine ⟨_, by simp [execOp, ho, hu1, hu2, hrun] <;> rfl, ?_⟩
              rw [hv]
              refine .tp _ _ (by simp) (fun i u z hu hz => ?_)
              match i, hu, hz with
              | 0, hu, hz => cases hu; cases hz; exact .sc _
              | 1, hu, hz => cases hu; cases hz; exact .sc _
              | i + 2, hu, hz => cases hz
          · cases hs
      · rename_i hp
        rcases findNow_keyAt hl es ms.toList 0 _ hlen' hrel' hp with ⟨_, c3⟩ | ⟨q, m, c1, _⟩
        · have hrun : (Instr.lookup t (.map (some b')) (.string s) ok).run P w = .ok (if ok then .tuple #[z, .bool false] else z) w := by
            simp [Instr.lookup, run_underlying ht, MapKept.run_getObj_map hh, MapKept.run_checkKey hk hd, MapKept.run_findKey hk c3, Result.andThen, zeroValue, typeInfo, hit, hz2]
          cases ok
          · cases hs
            exact ⟨_, by simp [execOp, ho, hu1, hu2, hrun] <;> rfl, .sc _⟩
          · cases hs
            refine ⟨_, by simp [execOp, ho, hu1, hu2, hrun] <;> rfl, ?_⟩
            refine .tp _ _ (by simp) (fun i u z hu hz => ?_)
            match i, hu, hz with
            | 0, hu, hz => cases hu; cases hz; exact .sc _
            | 1, hu, hz => cases hu; cases hz; exact .sc _
            | i + 2, hu, hz => cases hz
        · cases c1
      · cases hs
    · cases hs
  · cases hs
/-- a map of the call's own is written -/
theorem SRel.setMap (R : SRel N w0 M0 β0 ds β fr σ F a w) {i b : Nat} {es es' : List (AV × AV)} {ms ms' : Array MapEntry} {cl cl' : Nat} (hσ : σ i = some (.m es true)) (hb : β i = some b) (hh : w.heap[b]? = some (.map ms cl)) (hlen : ms'.size = es'.length)
    (hrel : ∀ (p : Nat) (e : AV × AV) (m : MapEntry), es'[p]? = some e → ms'[p]? = some m → Rel (live N β σ) w nob m.key e.1 ∧ Rel (live N β σ) w nob m.val e.2) :
    SRel N w0 M0 β0 ds β fr (upd σ i (some (.m es' true))) F a { w with heap := w.heap.setIfInBounds b (.map ms' cl') } := by
  obtain ⟨g1, g2⟩ := MapKept.heap_set (o' := .map ms' cl') hh
  refine (R.setObj (w' := { w with heap := w.heap.setIfInBounds b (.map ms' cl') }) hσ rfl hb rfl rfl rfl (by simp) g2 ?_ (.m es' true) (fun z h => by cases h) (fun es wr h => by cases h; exact ⟨ms', cl', g1, hlen, hrel⟩)).1
  intro s hs
  simp only [World.shape?, hh] at hs
  cases hs
theorem good_mup (R : SRel N w0 M0 β0 ds β fr σ F a w) {o : Oper} {t kt e : TypeId} {x k y : Operand} {id : Nat} {v : AV} {wr : Wr} (ho : o.op = .mapUpdate t x k y) (ht : P.underlying t = some (.map kt e)) (hk : P.underlying kt = some .string)
    (hs : hMup σ ((cOpd x).get fr) ((cOpd k).get fr) ((cOpd y).get fr) = some (v, wr)) : Good P o N w0 M0 β0 ds β fr σ F id a w v wr := by
  have h1 := rel_get R x
  have h2 := rel_get R k
  have h3 := rel_get R y
  unfold hMup at hs
  split at hs
  · rename_i i l uu g1 g2 g3
    rw [g1] at h1; rw [g2] at h2; rw [g3] at h3
    have e3 := rel_sc h3
    generalize hu1 : a.eval x = u1 at h1
    generalize hu2 : a.eval k = u2 at h2
    cases h1 with
    | mp _ b hb =>
    cases h2 with
    | s s _ hl hbl =>
    split at hs
    · rename_i es hσ
      obtain ⟨b', ms, cl, hb', hh, hlen, hrel⟩ := R.heap.map i es true hσ
      have eb : b' = b := by rw [hb] at hb'; cases hb'; rfl
      subst eb
      have hlen' : ms.toList.length = es.length := by simpa using hlen
      have hrel' : ∀ (p : Nat) (e : AV × AV) (m : MapEntry), es[p]? = some e → ms.toList[p]? = some m → Rel (live N β σ) w nob m.key e.1 ∧ Rel (live N β σ) w nob m.val e.2 := fun p e m hp hm => hrel p e m hp (by simpa using hm)
      have hd : MapKept.IsKey .string (.string s) := trivial
      split at hs
      · rename_i p hp
        rcases findNow_keyAt hl es ms.toList 0 _ hlen' hrel' hp with ⟨c, _⟩ | ⟨q, m, c1, c2, c4, c3⟩
        · cases c
        · simp only [Nat.zero_add, Option.some.injEq] at c1 c3
          subst c1
          simp only [Option.some.injEq, Prod.mk.injEq] at hs
          obtain ⟨rfl, rfl⟩ := hs
          have hj : ms[p]? = some m := by simpa using c2
          have hrun : (Instr.mapUpdate t (.map (some b')) (.string s) uu).run P w = .ok () { w with heap := w.heap.setIfInBounds b' (.map (ms.modify p fun e => { e with key := .string s, val := uu }) cl) } := by
            simp [Instr.mapUpdate, run_underlying ht, MapKept.run_getObj_map hh, MapKept.run_checkKey hk hd, MapKept.run_findKey hk c3, hj, c4, MapKept.run_keyThatStays hd, MapKept.run_setObj_map _ hh, Result.andThen]
          refine ⟨undef, _, β, .inr ⟨by simp [execOp, ho, hu1, hu2, e3, hrun] <;> rfl, rfl⟩, fun _ _ h => h, (R.setMap (ms' := ms.modify p fun e => { e with key := .string s, val := uu }) (es' := es.set p (.s l, .sc uu)) (cl' := cl) hσ hb hh (by simp [hlen]) ?_).free (fun _ h => h.1), ?_⟩
          · intro p' e' m' hp' hm'
            rw [List.getElem?_set] at hp'
            rw [Array.getElem?_modify] at hm'
            by_cases ep : p = p'
            · subst ep
              rw [if_pos rfl] at hp' hm'
              split at hp'
              · cases hp'
                rw [hj] at hm'
                cases hm'
                exact ⟨.s s _ hl hbl, .sc _⟩
              · cases hp'
            · rw [if_neg ep] at hp' hm'
              exact hrel p' e' m' hp' hm'
          · exact .tp _ _ rfl (fun i u z hu hz => by simp at hz)
      · rename_i hp
        rcases findNow_keyAt hl es ms.toList 0 _ hlen' hrel' hp with ⟨_, c3⟩ | ⟨q, m, c1, _⟩
        · simp only [Option.some.injEq, Prod.mk.injEq] at hs
          obtain ⟨rfl, rfl⟩ := hs
          have hrun : (Instr.mapUpdate t (.map (some b')) (.string s) uu).run P w = .ok () { w with heap := w.heap.setIfInBounds b' (.map (ms.push { key := .string s, val := uu, born := cl }) (cl + 1)) } := by
            simp [Instr.mapUpdate, run_underlying ht, MapKept.run_getObj_map hh, MapKept.run_checkKey hk hd, MapKept.run_findKey hk c3, MapKept.run_setObj_map _ hh, Result.andThen]
          refine ⟨undef, _, β, .inr ⟨by simp [execOp, ho, hu1, hu2, e3, hrun] <;> rfl, rfl⟩, fun _ _ h => h, (R.setMap (ms' := ms.push { key := .string s, val := uu, born := cl }) (es' := es ++ [((AV.s l, AV.sc uu) : AV × AV)]) (cl' := cl + 1) hσ hb hh (by simp [hlen]) ?_).free (fun _ h => h.1), ?_⟩
          · intro p' e' m' hp' hm'
            by_cases ep : p' < es.length
            · rw [List.getElem?_append_left ep] at hp'
              rw [Array.getElem?_push, if_neg (by omega)] at hm'
              exact hrel p' e' m' hp' hm'
            · have hlt := (List.getElem?_eq_some_iff.1 hp').1
              simp only [List.length_append, List.length_cons, List.length_nil] at hlt
              have : p' = es.length := by omega
              subst this
              rw [List.getElem?_append_right (by omega)] at hp'
              simp only [Nat.sub_self, List.getElem?_cons_zero, Option.some.injEq] at hp'
              rw [Array.getElem?_push, if_pos (by omega)] at hm'
              cases hp'; cases hm'
              exact ⟨.s s _ hl hbl, .sc _⟩
          · exact .tp _ _ rfl (fun i u z hu hz => by simp at hz)
        · cases c1
      · cases hs
    · cases hs
  · cases hs
theorem good_clm (R : SRel N w0 M0 β0 ds β fr σ F a w) {o : Oper} {c : Call} {x : Operand} {kt e : TypeId} {id : Nat} {v : AV} {wr : Wr} (ho : o.op = .call c) (hc : c.callee = .builtin .clear) (ha : c.args.toList = [x]) (ht : (c.argTypes[0]?).bind P.underlying = some (.map kt e))
    (hs : hClm σ ((cOpd x).get fr) = some (v, wr)) : Good P o N w0 M0 β0 ds β fr σ F id a w v wr := by
  obtain ⟨t1, ht1, ht2⟩ := Option.bind_eq_some_iff.1 ht
  have ha' : c.args = #[x] := by apply Array.ext'; simpa using ha
  have h1 := rel_get R x
  unfold hClm at hs
  split at hs
  · rename_i i g1
    rw [g1] at h1
    generalize hu1 : a.eval x = u1 at h1
    cases h1 with
    | mp _ b hb =>
    split at hs
    · rename_i es hσ
      simp only [Option.some.injEq, Prod.mk.injEq] at hs
      obtain ⟨rfl, rfl⟩ := hs
      obtain ⟨b', ms, cl, hb', hh, hlen, hrel⟩ := R.heap.map i es true hσ
      have eb : b' = b := by rw [hb] at hb'; cases hb'; rfl
      subst eb
      have hrun : (Builtin.clear_ c.argTypes o.type #[.map (some b')]).run P w = .ok (.tuple #[]) { w with heap := w.heap.setIfInBounds b' (.map #[] cl) } := by
        simp [Builtin.clear_, ht1, run_underlying ht2, MapKept.run_getObj_map hh, MapKept.run_setObj_map _ hh, Result.andThen]
      refine ⟨.tuple #[], _, β, .inl ?_, fun _ _ h => h, (R.setMap (ms' := #[]) (es' := []) (cl' := cl) hσ hb hh rfl (fun p e m h => by simp at h)).free (fun _ h => h.1), .tp _ _ rfl (fun i u z hu hz => by simp at hz)⟩
      simp [execOp, ho, resolve, hc, ha', hu1, invoke, Go.builtin, hrun]
    · cases hs
  · cases hs
end
end Go.Proofs.Ytlhnncmflnjinaa.Am
