/- Packed by a program of this repo: Ml Mm Mn Mo Mp Mq Mr. -/
import Derived.Test.YtodoejfkjimeaaaGreatDoorKTMf
set_option linter.unusedSimpArgs false
set_option linter.unusedVariables false
namespace Go.Proofs.YtodoejfkjimeaaaGreatDoor.Am
open Go Go.RowKit

theorem cmpL_get {P : Program} {S : Nat} {ops : Array Oper} : ∀ (l : List Oper) (sl : List SOper), cmpL P S ops l = some sl → sl.length = l.length ∧ ∀ (i : Nat) (o : Oper), l[i]? = some o → ∃ so, sl[i]? = some so ∧ cmpO P ops o = some so ∧ dstOk S o.dst = true ∧ okTag o.op so.op = true
  | [], sl, h => by simp only [cmpL, Option.some.injEq] at h; subst h; exact ⟨rfl, fun i o h => by simp at h⟩
  | o :: l, sl, h => by
    unfold cmpL at h
    split at h
    · rename_i so sl' hso hsl
      split at h
      · rename_i hc
        cases h
        obtain ⟨h1, h2⟩ := cmpL_get l sl' hsl
        refine ⟨by simp [h1], fun i o' hi => ?_⟩
        cases i with
        | zero => simp at hi; subst hi; exact ⟨so, rfl, hso, hc.1, hc.2⟩
        | succ i => exact h2 i o' (by simpa using hi)
      · cases h
    · cases h
theorem inert_wr {P : Program} {Kp : Value → Kn} {st : St} {id : Nat} {o : SOper} {e : Eff} (h : OpOk P Kp st id o e) (hi : inert o.op = true) (hw : e.dead = false) : names e.wr = [] ∧ e.rd = [] := by
  have hq : quiet o.op = true ∧ ∀ g, rdR g o.op = [] := by
    generalize o.op = op at hi
    cases op <;> first | exact ⟨rfl, fun _ => rfl⟩ | (simp [inert, quiet] at hi)
  rcases h with ⟨_, ⟨_, _, h2, h3⟩ | ⟨_, h⟩⟩ | ⟨hd, _⟩
  · exact ⟨by rw [h2]; rfl, h3 hi⟩
  · rcases h with ⟨_, _, h3, h4⟩ | ⟨h1, _⟩ | ⟨f, args, h1, _⟩
    · exact ⟨by rw [h3]; rfl, by rw [h4]; exact hq.2 _⟩
    · exfalso
      generalize o.op = op at hq h1
      cases op <;> first | (simp [semH] at h1; done) | (simp [quiet] at hq)
    · rw [h1] at hq; simp [quiet] at hq
  · rw [hw] at hd; cases hd
section
variable {rr : Option Nat} {P : Program} {T : Nat} {U : Nat → Prop} {N : Nat → Prop} {w0 : World} {M0 : Nat → Prop} {β0 : Nat → Option Nat} {ds : List Deferred}
theorem setD_get (A : Array Bool) (i j : Nat) (hi : i < A.size) : (A.setIfInBounds i true).getD j false = (A.getD j false || j == i) := by
  simp only [Array.getD_eq_getD_getElem?, Array.getElem?_setIfInBounds]
  by_cases h : i = j
  · subst h; simp [hi]
  · simp [h, Ne.symm h]
def FL (T : Nat) (U : Nat → Prop) (n m : Nat) (L : Nat → Bool) (tl : Nat) : Nat → Prop := fun j => (n ≤ j ∧ j < n + 16 * m ∧ ∀ i, i < m → L i = true → ¬ (n + 16 * i ≤ j ∧ j < n + 16 * i + 16)) ∨ tl ≤ j ∨ (U j ∧ j < T)
set_option maxHeartbeats 2000000 in
theorem dops_sound {S : Nat} {ops : Array Oper} {K : Kn} {Kp : Value → Kn} {Q : Exit → Act → World → Prop} {sl : List SOper} {ancs : List (List Nat)} {st0 : St} {n : Nat} {effs : List Eff}
    (hK : ∀ β fr σ n a w, T ≤ n → a.tmps.size = S → SRel N w0 M0 β0 ds β fr σ (Fn T U n) a w → K fr σ n → Q .normal a w)
    (hKp : ∀ x β fr σ n a w, T ≤ n → a.tmps.size = S → SRel N w0 M0 β0 ds β fr σ (Fn T U n) a w → Kp x fr σ n → Q (.panic [{ v := x, recovered := false }]) a w) (hT : T ≤ n)
    (hsl : cmpL P S ops ops.toList = some sl) (hanc : ancOk ops.toList ancs = true) (htmp : tmpOk (sl.zip ancs) = true) (Tr : Trace P K Kp (sl.zip ancs) st0 n effs) :
    ∀ (fuel : Nat) (listed : Array Bool) (tl : Nat) (β : Nat → Option Nat) (a : Act) (w : World), n + 16 * ops.size ≤ tl → listed.size = ops.size → ((List.range ops.size).filter fun i => !listed.getD i false).length ≤ fuel → a.tmps.size = S →
      (∀ (i : Nat) (anc : List Nat), ancs[i]? = some anc → listed.getD i false = true → ∀ k ∈ anc, listed.getD k false = true) → (∀ (i : Nat) (e : Eff), effs[i]? = some e → listed.getD i false = true → e.dead = false) →
      SRel N w0 M0 β0 ds β (stL (fun i => listed.getD i false) 0 effs st0).1 (stL (fun i => listed.getD i false) 0 effs st0).2 (FL T U n ops.size (fun i => listed.getD i false) tl) a w →
      wpAnyIn (FW rr) 0 P .any ops Q fuel listed a w := by
  obtain ⟨hlen1, hget⟩ := cmpL_get _ _ hsl
  simp only [Array.length_toList] at hlen1
  have hal : ancs.length = ops.size := by
    unfold ancOk at hanc
    simp only [Bool.and_eq_true, decide_eq_true_eq] at hanc
    simpa using hanc.1
  have hzl : (sl.zip ancs).length = ops.size := by simp [hlen1, hal]
  have hel : effs.length = ops.size := Tr.len.trans hzl
  have anc_spec : ∀ (i : Nat) (o : Oper) (anc : List Nat), ops[i]? = some o → ancs[i]? = some anc → (∀ j ∈ anc, j < i ∧ ((direct o).contains j = true ∨ ∃ d ∈ direct o, (ancs.getD d []).contains j = true)) ∧ (∀ d ∈ direct o, d ∈ anc) := by
    intro i o anc h1 h2
    unfold ancOk at hanc
    simp only [Bool.and_eq_true, List.all_eq_true, List.mem_range, Array.length_toList] at hanc
    have hi : i < ops.size := (Array.getElem?_eq_some_iff.1 h1).1
    have := hanc.2 i hi
    rw [show ops.toList[i]? = some o by simpa using h1, h2] at this
    simp only [Bool.and_eq_true, List.all_eq_true, Bool.or_eq_true, List.any_eq_true, decide_eq_true_eq] at this
    refine ⟨fun j hj => ?_, fun d hd => ?_⟩
    · obtain ⟨⟨q1, _⟩, q2⟩ := this.1 j hj
      exact ⟨q1, q2.imp (fun h => h) (fun ⟨d, h1, h2⟩ => ⟨d, h1, h2⟩)⟩
    · simpa using this.2 d hd
  have tmp_spec : ∀ (i j : Nat) (oi oj : SOper) (ai aj : List Nat), (sl.zip ancs)[i]? = some (oi, ai) → (sl.zip ancs)[j]? = some (oj, aj) → i ≠ j → ∀ d, oj.dst = some d → oi.dst ≠ some d ∧ (d ∈ optmps oi → ai.contains j = true ∨ aj.contains i = true) := by
    intro i j oi oj ai aj h1 h2 hne d hd
    unfold tmpOk at htmp
    simp only [List.all_eq_true, List.mem_range] at htmp
    have := htmp i (List.getElem?_eq_some_iff.1 h1).1 j (List.getElem?_eq_some_iff.1 h2).1
    rw [h1, h2] at this
    simp only [hd, Bool.or_eq_true, beq_iff_eq, hne, false_or, Bool.and_eq_true, bne_iff_ne, Bool.not_eq_true'] at this
    refine ⟨this.1, fun hm => ?_⟩
    rcases this.2 with (h | h) | h
    · rw [show (optmps oi).contains d = true by simpa using hm] at h; cases h
    · exact .inl h
    · exact .inr h
  intro fuel
  induction fuel with
  | zero =>
    intro listed tl β a w htl hls hcnt hS hclosed hnd R
    have hall : ∀ i, i < ops.size → listed.getD i false = true := by
      intro i hi
      cases hl : listed.getD i false with
      | true => rfl
      | false =>
        exfalso
        have : i ∈ (List.range ops.size).filter fun i => !listed.getD i false := List.mem_filter.2 ⟨List.mem_range.2 hi, by rw [hl]; rfl⟩
        have := List.length_pos_of_mem this
        omega
    refine ⟨?_, ?_⟩
    · unfold Region.ready
      rw [List.filter_eq_nil_iff]
      intro i hi
      have h1 := hall i (List.mem_range.1 hi)
      have : listed.getD i true = true := by
        rw [Array.getD_eq_getD_getElem?] at h1 ⊢
        cases hx : listed[i]? with
        | none => rw [hx] at h1; cases h1
        | some b => rw [hx] at h1; exact h1
      simp [this]
    · have hst : stL (fun i => listed.getD i false) 0 effs st0 = stL (fun _ => true) 0 effs st0 := stL_congr 0 effs st0 (fun j _ hj => hall j (by omega))
      rw [hst] at R
      have := Tr.fin (fun e he => by
        obtain ⟨i, hi⟩ := List.mem_iff_getElem?.1 he
        exact hnd i e hi (hall i (by rw [← hel]; exact (List.getElem?_eq_some_iff.1 hi).1)))
      exact hK β _ _ tl a w (by omega) hS (R.free (fun j hj => Or.inr hj)) (this tl (by rw [hzl]; exact htl))
  | succ fuel ih =>
    intro listed tl β a w htl hls hcnt hS hclosed hnd R
    have key : ∀ i, i < ops.size → listed.getD i false = false → (∀ o, ops[i]? = some o → ∀ d ∈ direct o, listed.getD d false = true) → ∃ o so anc e, ops[i]? = some o ∧ sl[i]? = some so ∧ ancs[i]? = some anc ∧ effs[i]? = some e := by
      intro i hi _ _
      have h1 : ops[i]? = some ops[i] := by simp [hi]
      obtain ⟨so, h2, _⟩ := hget i ops[i] (by simp [hi])
      exact ⟨_, so, ancs[i]'(by omega), effs[i]'(by omega), h1, h2, List.getElem?_eq_getElem (by omega), List.getElem?_eq_getElem (by omega)⟩
    have ready_iff : ∀ i, i ∈ Region.ready .any ops listed ↔ i < ops.size ∧ listed.getD i false = false ∧ ∀ o, ops[i]? = some o → ∀ d ∈ direct o, listed.getD d false = true := by
      intro i
      unfold Region.ready
      rw [List.mem_filter, List.mem_range]
      constructor
      · rintro ⟨hi, h⟩
        have h1 : ops[i]? = some ops[i] := by simp [hi]
        rw [h1] at h
        simp only [Bool.and_eq_true, Bool.not_eq_true', Option.map_some, Option.getD_some] at h
        refine ⟨hi, ?_, fun o ho d hd => ?_⟩
        · have h0 := h.1
          have hil : i < listed.size := by rw [hls]; exact hi
          simp only [Array.getD_eq_getD_getElem?, Array.getElem?_eq_getElem hil, Option.getD_some] at h0 ⊢
          exact h0
        · rw [h1] at ho; cases ho
          unfold direct at hd
          obtain ⟨e, he1, he2⟩ := List.mem_filterMap.1 hd
          split at he2
          · rename_i hb
            cases he2
            have := Array.all_eq_true'.1 h.2 e (by simpa using he1)
            simp [hb] at this; simpa using this
          · cases he2
      · rintro ⟨hi, h1, h2⟩
        have ho : ops[i]? = some ops[i] := by simp [hi]
        refine ⟨hi, ?_⟩
        rw [ho]
        simp only [Bool.and_eq_true, Bool.not_eq_true', Option.map_some, Option.getD_some]
        refine ⟨?_, ?_⟩
        · have hil : i < listed.size := by rw [hls]; exact hi
          simp only [Array.getD_eq_getD_getElem?, Array.getElem?_eq_getElem hil, Option.getD_some] at h1 ⊢
          exact h1
        · rw [Array.all_eq_true']
          intro e he
          simp only [Bool.or_eq_true, Bool.not_eq_true']
          cases hb : Region.binds .any e with
          | false => exact .inl rfl
          | true => exact .inr (h2 _ ho e.on (by unfold direct; exact List.mem_filterMap.2 ⟨e, by simpa using he, by simp [hb]⟩))
    refine ⟨fun hnil => ?_, fun i hi => ?_⟩
    · -- none is ready: all are listed
      have hall : ∀ i, i < ops.size → listed.getD i false = true := by
        intro i
        induction i using Nat.strongRecOn with
        | _ i ihi =>
          intro hi
          cases hl : listed.getD i false with
          | true => rfl
          | false =>
            exfalso
            have : i ∈ Region.ready .any ops listed := (ready_iff i).2 ⟨hi, hl, fun o ho d hd => by
              have hanci : ancs[i]? = some (ancs[i]'(by omega)) := List.getElem?_eq_getElem (by omega)
              obtain ⟨q1, q2⟩ := anc_spec i o _ ho hanci
              have := (q1 d (q2 d hd)).1
              exact ihi d this (by omega)⟩
            rw [hnil] at this; cases this
      have hst : stL (fun i => listed.getD i false) 0 effs st0 = stL (fun _ => true) 0 effs st0 := stL_congr 0 effs st0 (fun j _ hj => hall j (by omega))
      rw [hst] at R
      have := Tr.fin (fun e he => by
        obtain ⟨i, hi⟩ := List.mem_iff_getElem?.1 he
        exact hnd i e hi (hall i (by rw [← hel]; exact (List.getElem?_eq_some_iff.1 hi).1)))
      exact hK β _ _ tl a w (by omega) hS (R.free (fun j hj => Or.inr hj)) (this tl (by rw [hzl]; exact htl))
    · obtain ⟨hi, hl, hdir⟩ := (ready_iff i).1 hi
      obtain ⟨o, so, anc, e, ho, hso, hanci, he⟩ := key i hi hl hdir
      obtain ⟨so', hso', hcO, hdst, htag⟩ := hget i o (by simpa using ho)
      rw [hso] at hso'; cases hso'
      have hzi : (sl.zip ancs)[i]? = some (so, anc) := by simp [List.getElem?_zip_eq_some, hso, hanci]
      obtain ⟨hspec1, hspec2⟩ := anc_spec i o anc ho hanci
      have hancl : ∀ k ∈ anc, listed.getD k false = true := by
        intro k hk
        rcases (hspec1 k hk).2 with h | ⟨d, hd, h⟩
        · exact hdir o ho k (by simpa using h)
        · have hdl := hdir o ho d hd
          cases hda : ancs[d]? with
          | none => rw [List.getD_eq_getElem?_getD, hda] at h; simp at h
          | some ad =>
            rw [List.getD_eq_getElem?_getD, hda] at h
            exact hclosed d ad hda hdl k (by simpa using h)
      obtain ⟨hed, hok⟩ := Tr.ok i so anc e hzi he
      have hndanc : deadAnc anc (effs.take i) = false := by
        cases hd : deadAnc anc (effs.take i) with
        | false => rfl
        | true =>
          exfalso
          unfold deadAnc at hd
          obtain ⟨k, hk1, hk2⟩ := List.any_eq_true.1 hd
          cases hek : (effs.take i)[k]? with
          | none => rw [hek] at hk2; cases hk2
          | some f =>
            rw [hek] at hk2
            rw [List.getElem?_take] at hek
            split at hek
            · have := hnd k f hek (hancl k hk1)
              simp [this] at hk2
            · cases hek
      have hok : OpOk P Kp (stL (fun j => anc.contains j) 0 (effs.take i) st0) (n + 16 * i) so e := by
        rcases hok with ⟨h, _⟩ | ⟨_, h⟩
        · rw [hndanc] at h; cases h
        · exact h
      have hst : stL (fun j => anc.contains j) 0 (effs.take i) st0 = stL (fun j => anc.contains j) 0 effs st0 := by
        have h1 := stL_append (fun j => anc.contains j) 0 (effs.take i) (effs.drop i) st0
        rw [List.take_append_drop] at h1
        rw [h1]
        refine (stL_none _ _ _ (fun j hj _ => ?_)).symm
        cases hc : anc.contains j with
        | false => rfl
        | true =>
          have := (hspec1 j (by simpa using hc)).1
          simp at hj
          omega
      rw [hst] at hok
      generalize hgA : stL (fun j => anc.contains j) 0 effs st0 = stA at hok
      generalize hgL : stL (fun i => listed.getD i false) 0 effs st0 = stB at R
      have order : ∀ (j : Nat) (oj : SOper) (aj : List Nat), (sl.zip ancs)[j]? = some (oj, aj) → (anc.contains j = true → listed.getD j false = true) ∧ (aj.contains i = true → anc.contains j = false ∧ listed.getD j false = false) := by
        intro j oj aj hzj
        obtain ⟨_, hancj⟩ := (List.getElem?_zip_eq_some.1 hzj)
        refine ⟨fun h => hancl j (by simpa using h), fun h => ⟨?_, ?_⟩⟩
        · have hjs : j < ops.size := by rw [← hal]; exact (List.getElem?_eq_some_iff.1 hancj).1
          have h1 := ((anc_spec j ops[j] aj (by simp [hjs]) hancj).1 i (by simpa using h)).1
          cases hc : anc.contains j with
          | false => rfl
          | true => have := (hspec1 j (by simpa using hc)).1; omega
        · cases hc : listed.getD j false with
          | false => rfl
          | true => have := hclosed j aj hancj hc i (by simpa using h); rw [hl] at this; cases this
      have hii : anc.contains i = false := by
        cases hc : anc.contains i with
        | false => rfl
        | true => have := (hspec1 i (by simpa using hc)).1; omega
      have effat : ∀ (j : Nat) (f : Eff), effs[j]? = some f → ∃ oj aj, (sl.zip ancs)[j]? = some (oj, aj) ∧ f.dst = oj.dst := by
        intro j f hf
        have hj : j < (sl.zip ancs).length := by rw [hzl, ← hel]; exact (List.getElem?_eq_some_iff.1 hf).1
        have hz : (sl.zip ancs)[j]? = some (sl.zip ancs)[j] := List.getElem?_eq_getElem hj
        exact ⟨_, _, hz, (Tr.ok j _ _ f hz hf).1⟩
      have hregs : ∀ t ∈ optmps so, stA.1 t = stB.1 t := by
        intro t ht
        rw [← hgA, ← hgL]
        refine stL_reg 0 effs st0 st0 rfl (fun j f hf hd => ?_)
        simp only [Nat.zero_add]
        obtain ⟨oj, aj, hzj, hfd⟩ := effat j f hf
        by_cases hij : i = j
        · subst hij; rw [hii, hl]
        · obtain ⟨_, h2⟩ := tmp_spec i j so oj anc aj hzi hzj hij t (by rw [← hfd]; exact hd)
          rcases h2 ht with h | h
          · rw [h, (order j oj aj hzj).1 h]
          · obtain ⟨q1, q2⟩ := (order j oj aj hzj).2 h
            rw [q1, q2]
      have apart : ∀ (j : Nat) (f : Eff) (oj : SOper) (aj : List Nat), effs[j]? = some f → (sl.zip ancs)[j]? = some (oj, aj) → i ≠ j → f.dead = false → aj.contains i = false → anc.contains j = false → (∀ x ∈ names f.wr, x ∉ e.rd ∧ (e.dead = false → x ∉ names e.wr)) := by
        intro j f oj aj hf hzj hij hfd h1 h2 x hx
        have okj : OpOk P Kp (stL (fun q => aj.contains q) 0 (effs.take j) st0) (n + 16 * j) oj f := by
          rcases (Tr.ok j oj aj f hzj hf).2 with ⟨_, h⟩ | ⟨_, h⟩
          · rw [hfd] at h; cases h
          · exact h
        cases hin : inert oj.op with
        | true => rw [(inert_wr okj hin hfd).1] at hx; cases hx
        | false =>
          cases hin' : inert so.op with
          | true =>
            cases hed' : e.dead with
            | false => have := inert_wr hok hin' hed'; rw [this.1, this.2]; exact ⟨by simp, fun _ => by simp⟩
            | true =>
              refine ⟨?_, fun h => by cases h⟩
              exfalso
              rcases hok with ⟨h, _⟩ | ⟨_, y, _, hp, _⟩
              · rw [hed'] at h; cases h
              · rcases hp with ⟨f', args, h, _⟩ | ⟨y, h, _⟩ <;> (rw [h] at hin'; simp [inert, quiet] at hin')
          | false =>
            rcases Nat.lt_or_ge i j with hlt | hge
            · obtain ⟨p1, p2⟩ := Tr.apt i j so oj anc aj e f hlt hzi hzj he hf hin' hin h1
              exact ⟨p2 x hx, fun _ hx' => (p1 x hx').2 hx⟩
            · obtain ⟨p1, p2⟩ := Tr.apt j i oj so aj anc f e (by omega) hzj hzi hf he hin hin' h2
              exact ⟨(p1 x hx).1, fun _ => (p1 x hx).2⟩
      have hmem : ∀ x ∈ e.rd, stA.2 x = stB.2 x := by
        intro x hx
        rw [← hgA, ← hgL]
        refine stL_mem 0 effs st0 st0 rfl (fun j f hf hd => ?_)
        simp only [Nat.zero_add]
        obtain ⟨oj, aj, hzj, _⟩ := effat j f hf
        by_cases hij : i = j
        · subst hij; rw [hii, hl]
        · obtain ⟨q1, q2⟩ := order j oj aj hzj
          cases h1 : aj.contains i with
          | true => obtain ⟨r1, r2⟩ := q2 h1; rw [r1, r2]
          | false =>
            cases h2 : anc.contains j with
            | true => rw [q1 h2]
            | false =>
              cases h3 : listed.getD j false with
              | false => rfl
              | true => exact absurd hx (apart j f oj aj hf hzj hij (hnd j f hf h3) h1 h2 x hd).1
      have hd : ∀ t, o.dst = some t → t < a.tmps.size := by
        intro t ht
        rw [ht] at hdst
        rw [hS]; simpa [dstOk] using hdst
      obtain ⟨hcop, hdeq⟩ := cmpO_op hcO
      have hnext : e.dead = false → ∀ β' u w' tl', tl ≤ tl' → SRel N w0 M0 β0 ds β' (Am.put stB.1 o.dst e.v) (applyW stB.2 e.wr) (fun j => FL T U n ops.size (fun i => listed.getD i false) tl j ∧ ¬ (n + 16 * i ≤ j ∧ j < n + 16 * i + 16) ∧ (j < tl ∨ tl' ≤ j)) (a.put o.dst u) w' →
          wpAnyIn (FW rr) 0 P .any ops Q fuel (listed.setIfInBounds i true) (a.put o.dst u) w' := by
        intro hed' β' u w' tl' htl' R'
        have hsz : i < listed.size := by rw [hls]; exact hi
        have hfun : (fun j => (listed.setIfInBounds i true).getD j false) = fun j => listed.getD j false || j == i := by funext j; exact setD_get listed i j hsz
        have hins : stL (fun j => (listed.setIfInBounds i true).getD j false) 0 effs st0 = effApp e stB := by
          rw [hfun, ← hgL]
          have := stL_insert (L := fun j => listed.getD j false) (k := i) 0 effs st0 e he (by rw [Nat.zero_add]; exact hl) (fun j f hij hf hlj => by
            rw [Nat.zero_add] at hlj
            obtain ⟨oj, aj, hzj, hfd⟩ := effat j f hf
            have h1 : aj.contains i = false := by
              cases hc : aj.contains i with
              | false => rfl
              | true => have := ((order j oj aj hzj).2 hc).2; rw [hlj] at this; cases this
            have h2 : anc.contains j = false := by
              cases hc : anc.contains j with
              | false => rfl
              | true => have := (hspec1 j (by simpa using hc)).1; omega
            refine ⟨fun t ht hft => ?_, fun x hx hxf => ?_⟩
            · exact (tmp_spec i j so oj anc aj hzi hzj (by omega) t (by rw [← hfd]; exact hft)).1 (by rw [← hed]; exact ht)
            · exact (apart j f oj aj hf hzj (by omega) (hnd j f hf hlj) h1 h2 x hxf).2 hed' hx)
          simpa using this
        refine ih (listed.setIfInBounds i true) tl' β' _ w' (by omega) (by simpa using hls) ?_ (by rw [put_size, hS]) ?_ ?_ ?_
        · have hlt : ((List.range ops.size).filter fun j => !(listed.setIfInBounds i true).getD j false).length < ((List.range ops.size).filter fun j => !listed.getD j false).length := by
            have : ((List.range ops.size).filter fun j => !(listed.setIfInBounds i true).getD j false) = ((List.range ops.size).filter fun j => !listed.getD j false).filter fun j => j != i := by
              rw [List.filter_filter]
              apply List.filter_congr
              intro j _
              rw [setD_get listed i j hsz]
              cases listed.getD j false <;> cases hji : (j == i) <;> simp_all [bne]
            rw [this]
            refine List.length_filter_lt_length_iff_exists.2 ⟨i, List.mem_filter.2 ⟨List.mem_range.2 hi, by rw [hl]; rfl⟩, by simp⟩
          omega
        · intro j aj haj hlj k hk
          rw [setD_get listed i j hsz] at hlj
          rw [setD_get listed i k hsz]
          rcases Bool.or_eq_true_iff.1 hlj with h | h
          · rw [hclosed j aj haj h k hk]; rfl
          · have : j = i := by simpa using h
            subst this
            rw [hanci] at haj; cases haj
            rw [hancl k hk]; rfl
        · intro j f hf hlj
          rw [setD_get listed i j hsz] at hlj
          rcases Bool.or_eq_true_iff.1 hlj with h | h
          · exact hnd j f hf h
          · have : j = i := by simpa using h
            subst this
            rw [he] at hf; cases hf
            exact hed'
        · rw [hins]
          have : effApp e stB = (Am.put stB.1 o.dst e.v, applyW stB.2 e.wr) := by unfold effApp; rw [hed, hdeq]
          rw [this]
          refine R'.free (fun j hj => ?_)
          rcases hj with ⟨q1, q2, q3⟩ | hj | hj
          · exact ⟨.inl ⟨q1, q2, fun k hk hlk => q3 k hk (by simp only [setD_get listed i k hsz, hlk, Bool.true_or])⟩, q3 i hi (by simp only [setD_get listed i i hsz]; simp), .inl (by omega)⟩
          · exact ⟨.inr (.inl (by omega)), by omega, .inr hj⟩
          · exact ⟨.inr (.inr hj), by have := hj.2; omega, .inl (by have := hj.2; omega)⟩
      have hBnd : ∀ j, tl ≤ j → FL T U n ops.size (fun i => listed.getD i false) tl j := fun j hj => .inr (.inl hj)
      have hidF : ∀ j, n + 16 * i ≤ j → j < n + 16 * i + 16 → FL T U n ops.size (fun i => listed.getD i false) tl j := fun j h1 h2 => .inl ⟨by omega, by omega, fun k hk hlk hc => by
        have : k = i := by omega
        subst this
        simp only at hlk
        rw [hl] at hlk; cases hlk⟩
      have hwin : ∀ j, FL T U n ops.size (fun i => listed.getD i false) tl j → ¬ (n + 16 * i ≤ j ∧ j < n + 16 * i + 16) → True := fun _ _ _ => trivial
      have hpan : ∀ x β' w' tl', tl ≤ tl' → (∀ fr σ n, Kp x fr σ n) → ∀ σ' F', (∀ j, Fn T U tl' j → F' j) → SRel N w0 M0 β0 ds β' stB.1 σ' F' a w' → Q (.panic [{ v := x, recovered := false }]) a w' := fun x β' w' tl' htl' hk σ' F' hF R' =>
        hKp x β' _ _ tl' a w' (by omega) hS (R'.free hF) (hk _ _ _)
      unfold wpOpIn
      rw [ho]
      simp only
      have guardreg : ∀ d want, so.guard = some (d, want) → stA.1 d = stB.1 d := fun d want hg => hregs d (by unfold optmps; rw [hg]; simp)
      have asked : Asked stA so → Region.wanted o (yielded ops a.tmps) = true := by
        rintro (hg | ⟨d, want, hg, hv⟩)
        · exact wanted_none hcO hg _
        · rw [guardreg d want hg] at hv
          rw [(wanted_of (P := P) R hcO hg).1 want hv]; simp
      rcases hok with ⟨hed', h⟩ | ⟨hed', x, hask, hp, hk⟩
      · rcases h with ⟨⟨d, want, hg, hv⟩, h1, h2, _⟩ | ⟨hask, hr⟩
        · have hw : Region.wanted o (yielded ops a.tmps) = false := by
            rw [guardreg d want hg] at hv
            rcases hv with ⟨b, hb, hne⟩ | hv
            · rw [(wanted_of (P := P) R hcO hg).1 b hb]; simp [hne]
            · exact (wanted_of (P := P) R hcO hg).2 hv
          rw [hw]
          simp only [Bool.false_eq_true, if_false]
          refine ⟨fun _ _ => trivial, hnext hed' β undef w tl (Nat.le_refl _) ?_⟩
          rw [h1, h2]
          exact (put_undef R o.dst hd).free (fun j hj => hj.1)
        · rw [if_pos (asked hask)]
          have hr := hr.frame hregs hmem
          rcases hr with ⟨hq, hs, hwr, _⟩ | ⟨hs, _⟩ | ⟨f, args, hop, hc⟩
          · obtain ⟨u, hrun, hu⟩ := soundR R hcop hq hs
            refine opIn (cmp_nodefer hcop) ?_
            rw [hrun]
            refine hnext hed' β u w tl (Nat.le_refl _) ?_
            rw [hwr]
            exact (R.put o.dst hd hu).free (fun j hj => hj.1)
          · obtain ⟨u, w', β', g1, g2, g3, g4⟩ := soundH R (hidF _ (Nat.le_refl _) (by omega)) hcop hs
            have R' := (g3.put o.dst hd g4).free (F' := fun j => FL T U n ops.size (fun i => listed.getD i false) tl j ∧ ¬ (n + 16 * i ≤ j ∧ j < n + 16 * i + 16) ∧ (j < tl ∨ tl ≤ j)) (fun j hj => ⟨hj.1, fun h => hj.2.1 ⟨by omega, by omega⟩⟩)
            refine opIn (cmp_nodefer hcop) ?_
            rcases g1 with g1 | ⟨g1, rfl⟩
            · rw [g1]; exact hnext hed' β' u w' tl (Nat.le_refl _) R'
            · rw [g1]; exact hnext hed' β' _ w' tl (Nat.le_refl _) R'
          · rw [hop] at hcop htag
            obtain ⟨c, f', hoc, hcal, rfl, rfl⟩ := cmp_call hcop htag
            have onw : ∀ σ' F' tl', tl ≤ tl' → σ' = applyW stB.2 e.wr → (∀ j, (FL T U n ops.size (fun i => listed.getD i false) tl j ∧ ¬ (n + 16 * i ≤ j ∧ j < n + 16 * i + 16) ∧ (j < tl ∨ tl' ≤ j)) → F' j) → ∀ r, r = .ret e.v → Onward P o N w0 M0 β0 ds stB.1 a (wpAnyIn (FW rr) 0 P .any ops Q fuel (listed.setIfInBounds i true)) Q σ' F' r := by
              rintro σ' F' tl' htl' rfl hF r rfl
              constructor
              · rintro v hv u w' β' R' hu
                cases hv
                exact hnext hed' β' u w' tl' htl' ((R'.put o.dst hd hu).free hF)
              · rintro x hx; cases hx
            rcases hc with hc | hc
            · exact callC_sound R hoc hcal hc (fun r wr I hk _ => onw _ _ tl (Nat.le_refl _) (by rw [hk.2.1]) (fun j hj => hj.1) r hk.1)
            · exact callW_sound R hidF (by omega) hBnd hoc hcal hc (fun r wr I hk tl' htl' => onw _ _ tl' htl' (by rw [hk.2.1]) (fun j hj => hj) r hk.1)
      · rw [if_pos (asked hask)]
        have hp := hp.frame hregs hmem
        rcases hp with ⟨f, args, hop, hc⟩ | ⟨y, hop, hc⟩
        · rw [hop] at hcop htag
          obtain ⟨c, f', hoc, hcal, rfl, rfl⟩ := cmp_call hcop htag
          have onw : ∀ σ' F' tl', tl ≤ tl' → (∀ j, Fn T U tl' j → F' j) → ∀ r, r = .pan x → Onward P o N w0 M0 β0 ds stB.1 a (wpAnyIn (FW rr) 0 P .any ops Q fuel (listed.setIfInBounds i true)) Q σ' F' r := by
            rintro σ' F' tl' htl' hF r rfl
            constructor
            · rintro v hv; cases hv
            · rintro z hz w' β' R'
              cases hz
              exact hpan x β' w' tl' htl' hk _ _ hF R'
          rcases hc with hc | hc
          · exact callC_sound R hoc hcal hc (fun r wr I hk _ => onw _ _ tl (Nat.le_refl _) (fun j hj => hj.elim (fun h => .inr (.inl h)) (fun h => .inr (.inr h))) r hk.1)
          · exact callW_sound R hidF (by omega) hBnd hoc hcal hc (fun r wr I hk tl' htl' => onw _ _ tl' htl' (fun j hj => hj.elim (fun h => ⟨.inr (.inl (by omega)), by omega, .inr h⟩) (fun h => ⟨.inr (.inr h), by have := h.2; omega, .inl (by have := h.2; omega)⟩)) r hk.1)
        · rw [hop] at hcop htag
          obtain ⟨x', hoc, rfl⟩ := cmp_pan hcop htag
          unfold PAN at hc
          split at hc
          · rename_i t v hx
            subst hc
            have hr := rel_get R x'
            rw [hx] at hr
            have hv := rel_sc hr
            refine opIn (fun c' => by rw [hoc]; exact fun h => by cases h) ?_
            have : (execOp a.eval o).run P w = .halt (.panic (.iface t v)) w := by simp [execOp, hoc, hv, Instr.panic, goPanic, Sem.run]
            rw [this, Oper.uponIn_panic]
            exact hpan _ β w tl (Nat.le_refl _) hk _ _ (fun j hj => hj.elim (fun h => .inr (.inl h)) (fun h => .inr (.inr h))) R
          · exact hc.elim
end
end Go.Proofs.YtodoejfkjimeaaaGreatDoor.Am

set_option linter.unusedSimpArgs false
set_option linter.unusedVariables false
namespace Go.Proofs.YtodoejfkjimeaaaGreatDoor.Am
open Go Go.RowKit

inductive SCode where
  | skip
  | reg (ops : List SOper)
  | regD (ops : List (SOper × List Nat))
  | seq (a b : SCode)
  | seqJ (live mods : List Nat) (a b : SCode)
  | cond (c : Opd) (a b : SCode)
  | block (id : Nat) (c : SCode)
  | loop (live mods : List Nat) (c : SCode)
  | scope (l : Nat) (live mods : List Nat) (c : SCode)
  | exit (id : Nat)
  | goto (l : Nat)
  | ret
def modsOf : SCode → List Nat
  | .reg ops => ops.filterMap (·.dst)
  | .regD ops => ops.filterMap (·.1.dst)
  | .seq a b => modsOf a ++ modsOf b
  | .seqJ _ _ a b => modsOf a ++ modsOf b
  | .cond _ a b => modsOf a ++ modsOf b
  | .block _ c => modsOf c
  | .loop _ _ c => modsOf c
  | .scope _ _ _ c => modsOf c
  | _ => []
def dedup (l : List Nat) : List Nat := l.foldr (fun x acc => if acc.contains x then acc else x :: acc) []
def rdOps : List SOper → List Nat × List Nat
  | [] => ([], [])
  | o :: l => match rdOps l with
    | (r, w) => (optmps o ++ r.filter (fun t => o.dst != some t), o.dst.toList ++ w)
def expo : SCode → List Nat
  | .reg ops => (rdOps ops).1
  | .regD ops => (rdOps (ops.map (·.1))).1
  | .seq a b => expo a ++ expo b
  | .seqJ _ _ a b => expo a ++ expo b
  | .cond c a b => (match c with | .t i => [i] | .c _ => []) ++ (expo a ++ expo b)
  | .block _ c => expo c
  | .loop _ _ c => expo c
  | .scope _ _ _ c => expo c
  | _ => []
def liveOf (X : List Nat) (c : SCode) : List Nat := (dedup (modsOf c)).filter fun t => X.contains t
def exitsTo (id : Nat) : SCode → Nat
  | .seq a b => exitsTo id a + exitsTo id b
  | .seqJ _ _ a b => exitsTo id a + exitsTo id b
  | .cond _ a b => exitsTo id a + exitsTo id b
  | .block _ c => exitsTo id c
  | .loop _ _ c => exitsTo id c
  | .scope _ _ _ c => exitsTo id c
  | .exit i => if i = id then 1 else 0
  | _ => 0
def ends : SCode → Nat
  | .skip => 1
  | .reg _ => 1
  | .regD _ => 1
  | .seq a b => if ends a = 0 then 0 else ends b
  | .seqJ _ _ a b => if ends a = 0 then 0 else ends b
  | .cond _ a b => ends a + ends b
  | .block id c => ends c + exitsTo id c
  | .loop _ _ _ => 0
  | .scope _ _ _ c => ends c
  | _ => 0
def cmpC (P : Program) (S : Nat) (X : List Nat) : Code → Option SCode
  | .skip => some .skip
  | .region _ ops false => (cmpL P S ops ops.toList).map .reg
  | .region _ ops true => (cmpD P S ops).map .regD
  | .seq a b => match cmpC P S X a, cmpC P S X b with
    | some x, some y => if 1 < ends x then some (.seqJ (liveOf X x) (modsOf x) x y) else some (.seq x y)
    | _, _ => none
  | .cond c a b => match cmpC P S X a, cmpC P S X b with
    | some x, some y => some (.cond (cOpd c) x y)
    | _, _ => none
  | .block id c => (cmpC P S X c).map (.block id)
  | .loop c => (cmpC P S X c).map fun sc => .loop (liveOf X sc) (modsOf sc) sc
  | .scope (.seq (.label l) c) => (cmpC P S X c).map fun sc => .scope l (liveOf X sc) (modsOf sc) sc
  | .exit id => some (.exit id)
  | .goto l => some (.goto l)
  | .ret => some .ret
  | _ => none
inductive SExit where
  | normal
  | exit (id : Nat)
  | goto (l : Nat)
  | ret
  | pan (v : Value)
def SExit.conv : SExit → Exit
  | .normal => .normal
  | .exit id => .exit id
  | .goto l => .goto l
  | .ret => .ret
  | .pan v => .panic [{ v, recovered := false }]
abbrev Ks := SExit → Kn
def thenK (next : Kn) (Q : Ks) : Ks
  | .normal => next
  | .exit id => Q (.exit id)
  | .goto l => Q (.goto l)
  | .ret => Q .ret
  | .pan v => Q (.pan v)
def blockK (id : Nat) (Q : Ks) : Ks
  | .normal => Q .normal
  | .exit id' => if id' = id then Q .normal else Q (.exit id')
  | .goto l => Q (.goto l)
  | .ret => Q .ret
  | .pan v => Q (.pan v)
def gotoK (l : Nat) (next : Kn) (Q : Ks) : Ks
  | .normal => Q .normal
  | .exit id => Q (.exit id)
  | .goto l' => if l' = l then next else fun _ _ _ => False
  | .ret => Q .ret
  | .pan v => Q (.pan v)
inductive Wk : List AV → Hp → Nat → List AV → Hp → Nat → Prop
  | refl (s : List AV) (σ : Hp) (n : Nat) : Wk s σ n s σ n
  | trans {s s1 s2 : List AV} {σ σ1 σ2 : Hp} {n n1 n2 : Nat} (h : Wk s σ n s1 σ1 n1) (h' : Wk s1 σ1 n1 s2 σ2 n2) : Wk s σ n s2 σ2 n2
  | less (s : List AV) (σ σ' : Hp) (n : Nat) (h : ∀ i x, σ' i = some x → ∃ y, σ i = some y ∧ Ob.le x y) : Wk s σ n s σ' n
  | more (s : List AV) (σ : Hp) (n n' : Nat) (h : n ≤ n') : Wk s σ n s σ n'
  | emp (s : List AV) (σ : Hp) (n i k : Nat) (cl : Bool) (h : s[i]? = some .em) : Wk s σ n (s.set i (.ow n k 0 0)) (upd σ n (some (.c ⟨k, [], true, cl⟩))) (n + 16)
  | nil (s : List AV) (σ : Hp) (n i : Nat) (h : s[i]? = some .em) : Wk s σ n (s.set i (.tr [])) σ n
  | any (s : List AV) (σ : Hp) (n i : Nat) : Wk s σ n (s.set i .any) σ n
  | frz (s : List AV) (σ : Hp) (n i : Nat) (v c : AV) (I : List Nat) (h : s[i]? = some v) (hb : brw σ 6 v = some (c, I)) : Wk s σ n (s.set i c) (applyW σ (frz σ I)) n
def Weak (J : List AV → Hp → Nat → Prop) (s : List AV) (σ : Hp) (n : Nat) : Prop := ∃ s' σ' n', Wk s σ n s' σ' n' ∧ n ≤ n' ∧ s'.length = s.length ∧ J s' σ' n'
theorem Weak.refl {J : List AV → Hp → Nat → Prop} {s : List AV} {σ : Hp} {n : Nat} (h : J s σ n) : Weak J s σ n := ⟨s, σ, n, .refl _ _ _, Nat.le_refl _, rfl, h⟩
def LOOP (body : (List AV → Hp → Nat → Prop) → List AV → Hp → Nat → Prop) (s : List AV) (σ : Hp) (n : Nat) : Prop :=
  ∃ I : Nat → List AV → Hp → Nat → Prop, (∃ m, Weak (I m) s σ n) ∧ ∀ m s' σ' n', n ≤ n' → s'.length = s.length → I m s' σ' n' → body (fun s σ n => ∃ m', m' < m ∧ Weak (I m') s σ n) s' σ' n'
structure JOIN (K : List AV → Hp → Nat → Prop) (F : (List AV → Hp → Nat → Prop) → Prop) : Prop where
  h : F K
def COND (c : AV) (A B : Prop) : Prop := match c with
  | .sc (.bool t) => (t = true → A) ∧ (t = false → B)
  | .bo => A ∧ B
  | _ => False
def idx (t : Nat) : List Nat → Nat → Option Nat
  | [], _ => none
  | x :: l, i => if x = t then some i else idx t l (i + 1)
def emb (fr : Regs) (live mods : List Nat) (s : List AV) : Regs := fun t => match idx t live 0 with
  | some i => s.getD i .any
  | none => if mods.contains t then .any else fr t
def swp (P : Program) : SCode → Ks → Kn
  | .skip, Q => Q .normal
  | .reg ops, Q => sops P (Q .normal) (fun v => Q (.pan v)) ops
  | .regD l, Q => fun fr σ n => dops P (Q .normal) (fun v => Q (.pan v)) l (fr, σ) n l [] none
  | .seq a b, Q => swp P a (thenK (swp P b Q) Q)
  | .seqJ live mods a b, Q => fun fr σ n => JOIN (fun s => swp P b Q (emb fr live mods s)) (fun K => swp P a (thenK (fun fr' => K (live.map fr')) Q) fr σ n)
  | .cond c a b, Q => fun fr σ n => COND (c.get fr) (swp P a Q fr σ n) (swp P b Q fr σ n)
  | .block id c, Q => swp P c (blockK id Q)
  | .loop live mods c, Q => fun fr σ n => LOOP (fun K s => swp P c (thenK (fun fr' => K (live.map fr')) Q) (emb fr live mods s)) (live.map fr) σ n
  | .scope l live mods c, Q => fun fr σ n => LOOP (fun K s => swp P c (gotoK l (fun fr' => K (live.map fr')) Q) (emb fr live mods s)) (live.map fr) σ n
  | .exit id, Q => Q (.exit id)
  | .goto l, Q => Q (.goto l)
  | .ret, Q => Q .ret

/-! slots that a piece of code does not tell anew -/
def Keep (M : List Nat) (fr0 : Regs) (K : Kn) : Kn := fun fr σ n => K fr σ n ∧ ∀ t, t ∉ M → fr t = fr0 t
end Go.Proofs.YtodoejfkjimeaaaGreatDoor.Am

set_option linter.unusedSimpArgs false
set_option linter.unusedVariables false
namespace Go.Proofs.YtodoejfkjimeaaaGreatDoor.Am
open Go Go.RowKit

section
variable {P : Program}
theorem bindP_mono {o : Option AV} {K K' : AV → Prop} (h : bindP o K) (hk : ∀ v, K v → K' v) : bindP o K' := by
  unfold bindP at h ⊢
  split at h
  · exact hk _ h
  · exact h.elim
theorem bindH_mono {o : Option (AV × Wr)} {K K' : AV → Wr → Prop} (h : bindH o K) (hk : ∀ v w, K v w → K' v w) : bindH o K' := by
  unfold bindH at h ⊢
  split at h
  · exact hk _ _ h
  · exact h.elim
theorem callC_mono {f : AV} {args : List AV} {σ : Hp} {K K' : AEnd → Wr → List Nat → Prop} (h : callC P f args σ K) (hk : ∀ r wr rd, K r wr rd → K' r wr rd) : callC P f args σ K' := by
  unfold callC at h ⊢
  split at h
  · obtain ⟨cs, I, r, h1, h2, h3⟩ := h; exact ⟨cs, I, r, h1, h2, hk _ _ _ h3⟩
  · exact h.elim
theorem callW_mono {f : AV} {args : List AV} {σ : Hp} {id : Nat} {K K' : AEnd → Wr → List Nat → Prop} (h : callW P f args σ id K) (hk : ∀ r wr rd, K r wr rd → K' r wr rd) : callW P f args σ id K' := by
  unfold callW at h ⊢
  split at h
  · obtain ⟨pre, r, wr, h1, h2, h3⟩ := h; exact ⟨pre, r, wr, h1, h2, hk _ _ _ h3⟩
  · exact h.elim
theorem callH_mono {f : AV} {args : List AV} {σ : Hp} {n : Nat} {K K' : AEnd → Hp → Nat → Prop} (h : callH P f args σ n K) (hk : ∀ r σ n, K r σ n → K' r σ n) : callH P f args σ n K' := by
  unfold callH at h ⊢
  split at h
  · obtain ⟨R, h1, h2⟩ := h; exact ⟨R, h1, fun r σ' n' a b => hk _ _ _ (h2 r σ' n' a b)⟩
  · exact h.elim
theorem callY_mono {f : AV} {args : List AV} {σ : Hp} {n : Nat} {K K' : AEnd → Hp → Nat → Prop} (h : callY P f args σ n K) (hk : ∀ r σ n, K r σ n → K' r σ n) : callY P f args σ n K' := by
  unfold callY at h ⊢
  split at h
  · obtain ⟨R, h1, h2⟩ := h; exact ⟨R, h1, fun r σ' n' a b => hk _ _ _ (h2 r σ' n' a b)⟩
  · exact h.elim
theorem CALL_mono {f : AV} {args : List AV} {σ : Hp} {n : Nat} {K K' : AEnd → Hp → Nat → Prop} (h : CALL P f args σ n K) (hk : ∀ r σ n, K r σ n → K' r σ n) : CALL P f args σ n K' := by
  rcases h with h | h | h | h
  · exact .c (callC_mono h fun _ _ _ h => hk _ _ _ h)
  · exact .w (callW_mono h fun _ _ _ h n' hn => hk _ _ _ (h n' hn))
  · exact .h (callH_mono h hk)
  · exact .y (callY_mono h hk)
theorem PAN_mono {x : AV} {K K' : Value → Prop} (h : PAN x K) (hk : ∀ v, K v → K' v) : PAN x K' := by
  unfold PAN at h ⊢
  split at h
  · exact hk _ h
  · exact h.elim
theorem step_mono {op : SOp} {fr : Regs} {σ : Hp} {n : Nat} {Kp Kp' : Value → Kn} {K K' : AV → Hp → Nat → Prop} (h : step P op fr σ n Kp K) (hk : ∀ v σ n, K v σ n → K' v σ n) (hp : ∀ v fr σ n, Kp v fr σ n → Kp' v fr σ n) : step P op fr σ n Kp' K' := by
  have plain : (if quiet op = true then bindP (semR σ (Opd.get fr) op) (fun v => K v σ n) else bindS (semH σ n (Opd.get fr) op) σ n K) →
      (if quiet op = true then bindP (semR σ (Opd.get fr) op) (fun v => K' v σ n) else bindS (semH σ n (Opd.get fr) op) σ n K') := by
    intro h
    split at h
    · rename_i hq; rw [if_pos hq]; exact bindP_mono h (fun v => hk _ _ _)
    · rename_i hq; rw [if_neg hq]; exact bindH_mono h (fun v w => hk _ _ _)
  cases op with
  | call f args =>
    simp only [step] at h ⊢
    refine CALL_mono h (fun r σ n hr => ?_)
    cases r with
    | ret v => exact hk _ _ _ hr
    | pan x => exact hp _ _ _ _ hr
  | pan x => simp only [step] at h ⊢; exact PAN_mono h (fun v => hp _ _ _ _)
  | len s x => simp only [step] at h ⊢; exact bindP_mono h (fun v h hb => hk _ _ _ (h hb))
  | _ => simp only [step] at h plain ⊢; exact plain h
theorem guardP_mono {g : AV} {want : Bool} {o : Option AV} {K K' : AV → Prop} (h : guardP g want o K) (hk : ∀ v, K v → K' v) : guardP g want o K' := by
  refine ⟨?_⟩
  replace h := h.h
  unfold guardP' at h ⊢
  split at h
  · obtain ⟨v, h1, h2⟩ := h; exact ⟨v, h1, hk _ h2⟩
  · exact hk _ h
  · exact h.elim
theorem guardK_mono {g : AV} {want : Bool} {e e' : (AV → Hp → Nat → Prop) → Prop} {σ : Hp} {n : Nat} {K K' : AV → Hp → Nat → Prop} (h : guardK g want e σ n K) (hk : ∀ v σ n, K v σ n → K' v σ n) (he : e K → e' K') : guardK g want e' σ n K' := by
  refine ⟨?_⟩
  replace h := h.h
  unfold guardK' at h ⊢
  split at h
  · split at h
    · rename_i hb; rw [if_pos hb]; exact he h
    · rename_i hb; rw [if_neg hb]; exact hk _ _ _ h
  · exact hk _ _ _ h
  · exact h.elim
theorem sops_mono {K K' : Kn} {Kp Kp' : Value → Kn} (hp : ∀ v fr σ n, Kp v fr σ n → Kp' v fr σ n) (M : List Nat) (fr0 : Regs) (hk : ∀ fr σ n, K fr σ n → (∀ t, t ∉ M → fr t = fr0 t) → K' fr σ n) : ∀ (l : List SOper) (fr : Regs) (σ : Hp) (n : Nat), (∀ o ∈ l, ∀ d, o.dst = some d → d ∈ M) → (∀ t, t ∉ M → fr t = fr0 t) → sops P K Kp l fr σ n → sops P K' Kp' l fr σ n
  | [], fr, σ, n, _, ha, h => hk fr σ n h ha
  | o :: l, fr, σ, n, hl, ha, h => by
    have hput : ∀ v, ∀ t, t ∉ M → put fr o.dst v t = fr0 t := by
      intro v t ht
      cases hd : o.dst with
      | none => exact ha t ht
      | some d =>
        simp only [put]
        rw [if_neg (fun (e : t = d) => ht (e ▸ hl o (by simp) d hd))]
        exact ha t ht
    have hrest : ∀ v σ n, sops P K Kp l (put fr o.dst v) σ n → sops P K' Kp' l (put fr o.dst v) σ n := fun v σ n h =>
      sops_mono hp M fr0 hk l _ σ n (fun o ho => hl o (List.mem_cons_of_mem _ ho)) (hput v) h
    unfold sops at h ⊢
    split at h
    · exact step_mono h hrest hp
    · split at h
      · rename_i hq; rw [if_pos hq]; exact guardP_mono h (fun v => hrest v σ n)
      · rename_i hq; rw [if_neg hq]; exact guardK_mono h hrest (fun h => step_mono h hrest hp)
theorem side1_mono {anc w r : List Nat} {X Y : Prop} (hxy : X → Y) : ∀ (i : Nat) (l : List (SOper × List Nat)) (es : List Eff), side1 anc w r i l es X → side1 anc w r i l es Y
  | i, [], es, h => hxy h
  | i, (o, a) :: l, [], h => hxy h
  | i, (o, a) :: l, e :: es, h => by
    simp only [side1] at h ⊢
    cases hb : (inert o.op || anc.contains i) with
    | true => rw [hb, cond_true] at h; rw [cond_true]; exact side1_mono hxy _ l es h
    | false => rw [hb, cond_false] at h; rw [cond_false]; exact ⟨h.1, side1_mono hxy _ l es h.2⟩
theorem sideL_mono {l0 : List (SOper × List Nat)} {effs : List Eff} {X Y : Prop} (hxy : X → Y) : ∀ (j : Nat) (l : List (SOper × List Nat)) (es : List Eff), sideL l0 effs j l es X → sideL l0 effs j l es Y
  | j, [], es, h => hxy h
  | j, (o, a) :: l, [], h => hxy h
  | j, (o, a) :: l, e :: es, h => by
    simp only [sideL] at h ⊢
    cases hb : inert o.op with
    | true => rw [hb, cond_true] at h; rw [cond_true]; exact sideL_mono hxy _ l es h
    | false => rw [hb, cond_false] at h; rw [cond_false]; exact side1_mono (fun h => sideL_mono hxy _ l es h) _ _ _ h
theorem dstep_mono {op : SOp} {fr : Regs} {σ : Hp} {id : Nat} {Kp Kp' : Value → List Nat → Prop} {K K' : AV → Wr → List Nat → Prop} (h : dstep P op fr σ id Kp K) (hk : ∀ v w r, K v w r → K' v w r) (hp : ∀ v r, Kp v r → Kp' v r) : dstep P op fr σ id Kp' K' := by
  have plain : (if quiet op = true then bindP (semR σ (Opd.get fr) op) (fun v => K v [] (rdR (Opd.get fr) op)) else bindH (semH σ id (Opd.get fr) op) (fun v wr => K v wr (rdH (Opd.get fr) op wr))) →
      (if quiet op = true then bindP (semR σ (Opd.get fr) op) (fun v => K' v [] (rdR (Opd.get fr) op)) else bindH (semH σ id (Opd.get fr) op) (fun v wr => K' v wr (rdH (Opd.get fr) op wr))) := by
    intro h
    split at h
    · rename_i hq; rw [if_pos hq]; exact bindP_mono h (fun v => hk _ _ _)
    · rename_i hq; rw [if_neg hq]; exact bindH_mono h (fun v w => hk _ _ _)
  cases op with
  | call f args =>
    simp only [dstep] at h ⊢
    refine callD_mono h (fun r wr rd hr => ?_)
    cases r with
    | ret v => exact hk _ _ _ hr
    | pan x => exact hp _ _ hr
  | pan x => simp only [dstep] at h ⊢; exact PAN_mono h (fun v => hp _ _)
  | _ => simp only [dstep] at h plain ⊢; exact plain h
theorem guardD_mono {g : AV} {want : Bool} {e e' : (AV → Wr → List Nat → Prop) → Prop} {K K' : AV → Wr → List Nat → Prop} (h : guardD g want e K) (hk : ∀ v w r, K v w r → K' v w r) (he : e K → e' K') : guardD g want e' K' := by
  refine ⟨?_⟩
  replace h := h.h
  unfold guardD' at h ⊢
  split at h
  · split at h
    · rename_i hb; rw [if_pos hb]; exact he h
    · rename_i hb; rw [if_neg hb]; exact hk _ _ _ h
  · exact hk _ _ _ h
  · exact h.elim
theorem stL_keep {M : List Nat} {L : Nat → Bool} : ∀ (i : Nat) (es : List Eff) (st : St), (∀ e ∈ es, ∀ d, e.dst = some d → d ∈ M) → ∀ t, t ∉ M → (stL L i es st).1 t = st.1 t
  | i, [], st, _, t, _ => rfl
  | i, e :: es, st, h, t, ht => by
    simp only [stL]
    rw [stL_keep (i + 1) es _ (fun e he => h e (List.mem_cons_of_mem _ he)) t ht]
    cases L i with
    | false => rfl
    | true =>
      simp only [cond_true, effApp]
      cases hd : e.dst with
      | none => rfl
      | some d => simp only [put]; rw [if_neg (fun (hh : t = d) => ht (hh ▸ h e (by simp) d hd))]
theorem dops_mono {K K' : Kn} {Kp Kp' : Value → Kn} {l0 : List (SOper × List Nat)} {st0 : St} {n : Nat} (hp : ∀ v fr σ n, Kp v fr σ n → Kp' v fr σ n) (M : List Nat) (hk : ∀ fr σ n, K fr σ n → (∀ t, t ∉ M → fr t = st0.1 t) → K' fr σ n) :
    ∀ (l : List (SOper × List Nat)) (effs : List Eff) (pn : Option Value), (∀ p ∈ l, ∀ d, p.1.dst = some d → d ∈ M) → (∀ e ∈ effs, ∀ d, e.dst = some d → d ∈ M) → dops P K Kp l0 st0 n l effs pn → dops P K' Kp' l0 st0 n l effs pn
  | [], effs, none, _, he, h => by simp only [dops] at h ⊢; exact sideL_mono (fun h n' hn => hk _ _ _ (h n' hn) (fun t ht => stL_keep 0 effs st0 he t ht)) _ _ _ h
  | [], effs, some x, _, _, h => by simp only [dops] at h ⊢; exact sideL_mono (fun h fr σ n => hp _ _ _ _ (h fr σ n)) _ _ _ h
  | (o, anc) :: l, effs, pn, hl, he, h => by
    have hrest : ∀ (e : Eff) pn, e.dst = o.dst → dops P K Kp l0 st0 n l (effs ++ [e]) pn → dops P K' Kp' l0 st0 n l (effs ++ [e]) pn := fun e pn hed h =>
      dops_mono hp M hk l _ pn (fun p hp => hl p (List.mem_cons_of_mem _ hp)) (fun f hf => by
        rcases List.mem_append.1 hf with hf | hf
        · exact he f hf
        · simp only [List.mem_singleton] at hf; subst hf; intro d hd; exact hl (o, anc) (by simp) d (by rw [← hed]; exact hd)) h
    unfold dops at h ⊢
    cases hb : anc.any (fun i => (effs[i]?).any (·.dead)) with
    | true => rw [hb, cond_true] at h; rw [cond_true]; exact hrest _ _ rfl h
    | false =>
      rw [hb, cond_false] at h
      rw [cond_false]
      split at h
      · exact dstep_mono h (fun v w r => hrest _ _ rfl) (fun v r h => once_iff.2 ((once_iff.1 h).imp id (hrest _ _ rfl)))
      · split at h
        · rename_i hq; rw [if_pos hq]; exact guardP_mono h (fun v => hrest _ _ rfl)
        · rename_i hq; rw [if_neg hq]; exact guardD_mono h (fun v w r => hrest _ _ rfl) (fun h => dstep_mono h (fun v w r => hrest _ _ rfl) (fun v r h => once_iff.2 ((once_iff.1 h).imp id (hrest _ _ rfl))))
def modsW : SCode → List Nat
  | .reg ops => ops.filterMap (·.dst)
  | .regD ops => ops.filterMap (·.1.dst)
  | .seq a b => modsW a ++ modsW b
  | .seqJ live mods a b => live ++ mods ++ modsW a ++ modsW b
  | .cond _ a b => modsW a ++ modsW b
  | .block _ c => modsW c
  | .loop live mods c => live ++ mods ++ modsW c
  | .scope _ live mods c => live ++ mods ++ modsW c
  | _ => []
theorem emb_keep {fr : Regs} {live mods : List Nat} {s : List AV} {t : Nat} (h1 : t ∉ live) (h2 : t ∉ mods) : emb fr live mods s t = fr t := by
  have : ∀ (l : List Nat) (i : Nat), t ∉ l → idx t l i = none := by
    intro l
    induction l with
    | nil => intro i _; rfl
    | cons x l ih => intro i h; simp only [List.mem_cons, not_or] at h; simp only [idx]; rw [if_neg (Ne.symm h.1)]; exact ih _ h.2
  unfold emb
  rw [this live 0 h1]
  simp only
  rw [if_neg (by simpa using h2)]
theorem swp_mono : ∀ (c : SCode) (Q Q' : Ks) (M : List Nat) (fr0 : Regs), (∀ t ∈ modsW c, t ∈ M) → (∀ v fr σ n, Q (.pan v) fr σ n → Q' (.pan v) fr σ n) → (∀ e fr σ n, (∀ v, e ≠ .pan v) → Q e fr σ n → (∀ t, t ∉ M → fr t = fr0 t) → Q' e fr σ n) →
    ∀ (fr : Regs) (σ : Hp) (n : Nat), (∀ t, t ∉ M → fr t = fr0 t) → swp P c Q fr σ n → swp P c Q' fr σ n := by
  intro c
  induction c with
  | skip => intro Q Q' M fr0 hM hp hk fr σ n ha h; exact hk .normal fr σ n (fun v h => by cases h) h ha
  | reg ops =>
    intro Q Q' M fr0 hM hp hk fr σ n ha h
    exact sops_mono hp M fr0 (fun fr σ n h ha => hk .normal fr σ n (fun v h => by cases h) h ha) ops fr σ n (fun o ho d hd => hM d (List.mem_filterMap.2 ⟨o, ho, hd⟩)) ha h
  | regD ops =>
    intro Q Q' M fr0 hM hp hk fr σ n ha h
    exact dops_mono hp M (fun fr' σ n h ha' => hk .normal fr' σ n (fun v h => by cases h) h (fun t ht => (ha' t ht).trans (ha t ht))) ops [] none (fun p hp d hd => hM d (List.mem_filterMap.2 ⟨p, hp, hd⟩)) (fun e he => by cases he) h
  | seq a b iha ihb =>
    intro Q Q' M fr0 hM hp hk fr σ n ha h
    refine iha (thenK (swp P b Q) Q) (thenK (swp P b Q') Q') M fr0 (fun t ht => hM t (List.mem_append_left _ ht)) hp (fun e fr σ n he hq ha => ?_) fr σ n ha h
    cases e with
    | normal => exact ihb Q Q' M fr0 (fun t ht => hM t (List.mem_append_right _ ht)) hp hk fr σ n ha hq
    | pan v => exact absurd rfl (he v)
    | exit id => exact hk (.exit id) _ _ _ he hq ha
    | goto l => exact hk (.goto l) _ _ _ he hq ha
    | ret => exact hk .ret _ _ _ he hq ha
  | seqJ live mods a b iha ihb =>
    intro Q Q' M fr0 hM hp hk fr σ n ha h
    simp only [swp] at h ⊢
    refine ⟨?_⟩
    replace h := h.h
    try simp only at h ⊢
    have hM0 : ∀ t ∈ live ++ mods, t ∈ M := fun t ht => hM t (List.mem_append_left _ (List.mem_append_left _ ht))
    have hMa : ∀ t ∈ modsW a, t ∈ M := fun t ht => hM t (List.mem_append_left _ (List.mem_append_right _ ht))
    have hemb : ∀ s t, t ∉ M → emb fr live mods s t = fr0 t := fun s t ht => (emb_keep (fun h => ht (hM0 t (List.mem_append_left _ h))) (fun h => ht (hM0 t (List.mem_append_right _ h)))).trans (ha t ht)
    refine iha (thenK (fun fr' => swp P b Q (emb fr live mods (live.map fr'))) Q) (thenK (fun fr' => swp P b Q' (emb fr live mods (live.map fr'))) Q') M fr0 hMa hp (fun e fr1 σ n he hq ha1 => ?_) fr σ n ha h
    cases e with
    | normal => exact ihb Q Q' M fr0 (fun t ht => hM t (List.mem_append_right _ ht)) hp hk _ σ n (hemb _) hq
    | pan v => exact absurd rfl (he v)
    | exit id => exact hk (.exit id) _ _ _ he hq ha1
    | goto l => exact hk (.goto l) _ _ _ he hq ha1
    | ret => exact hk .ret _ _ _ he hq ha1
  | cond c a b iha ihb =>
    intro Q Q' M fr0 hM hp hk fr σ n ha h
    simp only [swp, COND] at h ⊢
    split at h
    · exact ⟨fun ht => iha Q Q' M fr0 (fun t ht => hM t (List.mem_append_left _ ht)) hp hk fr σ n ha (h.1 ht), fun ht => ihb Q Q' M fr0 (fun t ht => hM t (List.mem_append_right _ ht)) hp hk fr σ n ha (h.2 ht)⟩
    · exact ⟨iha Q Q' M fr0 (fun t ht => hM t (List.mem_append_left _ ht)) hp hk fr σ n ha h.1, ihb Q Q' M fr0 (fun t ht => hM t (List.mem_append_right _ ht)) hp hk fr σ n ha h.2⟩
    · exact h.elim
  | block id c ih =>
    intro Q Q' M fr0 hM hp hk fr σ n ha h
    refine ih (blockK id Q) (blockK id Q') M fr0 hM hp (fun e fr σ n he hq ha => ?_) fr σ n ha h
    cases e with
    | normal => exact hk .normal _ _ _ he hq ha
    | pan v => exact absurd rfl (he v)
    | exit id' =>
      simp only [blockK] at hq ⊢
      split at hq
      · rename_i e; rw [if_pos e]; exact hk .normal _ _ _ (fun v h => by cases h) hq ha
      · rename_i e; rw [if_neg e]; exact hk (.exit id') _ _ _ he hq ha
    | goto l => exact hk (.goto l) _ _ _ he hq ha
    | ret => exact hk .ret _ _ _ he hq ha
  | loop live mods c ih =>
    intro Q Q' M fr0 hM hp hk fr σ n ha h
    obtain ⟨I, h0, hr⟩ := h
    refine ⟨I, h0, fun m s σ n hn hs hI => ?_⟩
    have hM1 : ∀ t ∈ modsW c, t ∈ M := fun t ht => hM t (List.mem_append_right _ ht)
    have hemb : ∀ t, t ∉ M → emb fr live mods s t = fr0 t := fun t ht => (emb_keep (fun h => ht (hM t (List.mem_append_left _ (List.mem_append_left _ h)))) (fun h => ht (hM t (List.mem_append_left _ (List.mem_append_right _ h))))).trans (ha t ht)
    refine ih (thenK (fun fr' σ n => ∃ m', m' < m ∧ Weak (I m') (live.map fr') σ n) Q) (thenK (fun fr' σ n => ∃ m', m' < m ∧ Weak (I m') (live.map fr') σ n) Q') M fr0 hM1 hp (fun e fr1 σ n he hq ha => ?_) _ σ n hemb (hr m s σ n hn hs hI)
    cases e with
    | normal => exact hq
    | pan v => exact absurd rfl (he v)
    | exit id => exact hk (.exit id) _ _ _ he hq ha
    | goto l => exact hk (.goto l) _ _ _ he hq ha
    | ret => exact hk .ret _ _ _ he hq ha
  | scope l live mods c ih =>
    intro Q Q' M fr0 hM hp hk fr σ n ha h
    obtain ⟨I, h0, hr⟩ := h
    refine ⟨I, h0, fun m s σ n hn hs hI => ?_⟩
    have hM1 : ∀ t ∈ modsW c, t ∈ M := fun t ht => hM t (List.mem_append_right _ ht)
    have hemb : ∀ t, t ∉ M → emb fr live mods s t = fr0 t := fun t ht => (emb_keep (fun h => ht (hM t (List.mem_append_left _ (List.mem_append_left _ h)))) (fun h => ht (hM t (List.mem_append_left _ (List.mem_append_right _ h))))).trans (ha t ht)
    refine ih (gotoK l (fun fr' σ n => ∃ m', m' < m ∧ Weak (I m') (live.map fr') σ n) Q) (gotoK l (fun fr' σ n => ∃ m', m' < m ∧ Weak (I m') (live.map fr') σ n) Q') M fr0 hM1 hp (fun e fr1 σ n he hq ha => ?_) _ σ n hemb (hr m s σ n hn hs hI)
    cases e with
    | normal => exact hk .normal _ _ _ he hq ha
    | pan v => exact absurd rfl (he v)
    | exit id => exact hk (.exit id) _ _ _ he hq ha
    | goto l' =>
      simp only [gotoK] at hq ⊢
      split at hq
      · rename_i e; rw [if_pos e]; exact hq
      · exact hq.elim
    | ret => exact hk .ret _ _ _ he hq ha
  | exit id => intro Q Q' M fr0 hM hp hk fr σ n ha h; exact hk (.exit id) fr σ n (fun v h => by cases h) h ha
  | goto l => intro Q Q' M fr0 hM hp hk fr σ n ha h; exact hk (.goto l) fr σ n (fun v h => by cases h) h ha
  | ret => intro Q Q' M fr0 hM hp hk fr σ n ha h; exact hk .ret fr σ n (fun v h => by cases h) h ha
theorem mem_dedup {t : Nat} : ∀ {l : List Nat}, t ∈ dedup l → t ∈ l
  | x :: l, h => by
    simp only [dedup, List.foldr_cons] at h
    split at h
    · exact List.mem_cons_of_mem _ (mem_dedup h)
    · rcases List.mem_cons.1 h with rfl | h
      · exact List.mem_cons_self
      · exact List.mem_cons_of_mem _ (mem_dedup h)
theorem live_mods (X : List Nat) (sc : SCode) : ∀ t ∈ liveOf X sc, t ∈ modsOf sc := fun t ht => mem_dedup (List.mem_filter.1 ht).1
theorem modsW_of {S : Nat} {X : List Nat} : ∀ (c : Code) (sc : SCode), cmpC P S X c = some sc → ∀ t ∈ modsW sc, t ∈ modsOf sc
  | .region id ops true, sc, h, t, ht => by obtain ⟨_, _, rfl⟩ := Option.map_eq_some_iff.1 h; exact ht
  | .region id ops false, sc, h, t, ht => by obtain ⟨_, _, rfl⟩ := Option.map_eq_some_iff.1 h; exact ht
  | .seq a b, sc, h, t, ht => by
    simp only [cmpC] at h
    split at h
    · rename_i x y h1 h2
      split at h
      · cases h
        rcases List.mem_append.1 ht with ht | ht
        · rcases List.mem_append.1 ht with ht | ht
          · rcases List.mem_append.1 ht with ht | ht
            · exact List.mem_append_left _ (live_mods X x t ht)
            · exact List.mem_append_left _ ht
          · exact List.mem_append_left _ (modsW_of a x h1 t ht)
        · exact List.mem_append_right _ (modsW_of b y h2 t ht)
      · cases h
        rcases List.mem_append.1 ht with ht | ht
        · exact List.mem_append_left _ (modsW_of a x h1 t ht)
        · exact List.mem_append_right _ (modsW_of b y h2 t ht)
    · cases h
  | .cond c a b, sc, h, t, ht => by
    simp only [cmpC] at h
    split at h
    · rename_i x y h1 h2; cases h
      rcases List.mem_append.1 ht with ht | ht
      · exact List.mem_append_left _ (modsW_of a x h1 t ht)
      · exact List.mem_append_right _ (modsW_of b y h2 t ht)
    · cases h
  | .block id c, sc, h, t, ht => by obtain ⟨x, h1, rfl⟩ := Option.map_eq_some_iff.1 h; exact modsW_of c x h1 t ht
  | .loop c, sc, h, t, ht => by
    obtain ⟨x, h1, rfl⟩ := Option.map_eq_some_iff.1 h
    rcases List.mem_append.1 ht with ht | ht
    · rcases List.mem_append.1 ht with ht | ht
      · exact live_mods X x t ht
      · exact ht
    · exact modsW_of c x h1 t ht
  | .scope (.seq (.label l) c), sc, h, t, ht => by
    obtain ⟨x, h1, rfl⟩ := Option.map_eq_some_iff.1 h
    rcases List.mem_append.1 ht with ht | ht
    · rcases List.mem_append.1 ht with ht | ht
      · exact live_mods X x t ht
      · exact ht
    · exact modsW_of c x h1 t ht
  | .skip, sc, h, t, ht => by cases h; cases ht
  | .exit id, sc, h, t, ht => by cases h; cases ht
  | .goto l, sc, h, t, ht => by cases h; cases ht
  | .ret, sc, h, t, ht => by cases h; cases ht
end
end Go.Proofs.YtodoejfkjimeaaaGreatDoor.Am

set_option linter.unusedSimpArgs false
set_option linter.unusedVariables false
namespace Go.Proofs.YtodoejfkjimeaaaGreatDoor.Am
open Go Go.RowKit

section
variable {rr : Option Nat} {P : Program} {T : Nat} {U : Nat → Prop} {N : Nat → Prop} {w0 : World} {M0 : Nat → Prop} {β0 : Nat → Option Nat} {ds : List Deferred}
theorem idx_some {t : Nat} : ∀ (l : List Nat) (i j : Nat), idx t l i = some j → i ≤ j ∧ l[j - i]? = some t
  | [], i, j, h => by cases h
  | x :: l, i, j, h => by
    simp only [idx] at h
    split at h
    · rename_i e; cases h; subst e; simp
    · obtain ⟨h1, h2⟩ := idx_some l (i + 1) j h
      refine ⟨by omega, ?_⟩
      rw [show j - i = (j - (i + 1)) + 1 by omega, List.getElem?_cons_succ]; exact h2
theorem Wk.le {s s' : List AV} {σ σ' : Hp} {n n' : Nat} (h : Wk s σ n s' σ' n') : n ≤ n' := by
  induction h with
  | trans _ _ h1 h2 => omega
  | more _ _ _ _ h => exact h
  | _ => omega
theorem Wk.sound {fr : Regs} {lv md : List Nat} {s s' : List AV} {σ σ' : Hp} {n n' : Nat} (h : Wk s σ n s' σ' n') : ∀ {β : Nat → Option Nat} {a : Act} {w : World}, T ≤ n → SRel N w0 M0 β0 ds β (emb fr lv md s) σ (Fn T U n) a w → SRel N w0 M0 β0 ds β (emb fr lv md s') σ' (Fn T U n') a w := by
  have set : ∀ {β : Nat → Option Nat} {σ : Hp} {F : Nat → Prop} {a : Act} {w : World} {s : List AV} {i : Nat} {v : AV}, SRel N w0 M0 β0 ds β (emb fr lv md s) σ F a w → (∀ t, idx t lv 0 = some i → Rel (live N β σ) w β (a.tmps.getD t undef) v) → SRel N w0 M0 β0 ds β (emb fr lv md (s.set i v)) σ F a w := by
    intro β σ F a w s i v R hv
    refine R.other (fun t => ?_)
    have := R.regs t
    unfold emb at this ⊢
    cases hi : idx t lv 0 with
    | none => rw [hi] at this; exact this
    | some j =>
      rw [hi] at this
      simp only at this ⊢
      by_cases hij : i = j
      · subst hij
        rw [List.getD_eq_getElem?_getD, List.getElem?_set]
        simp only [if_true]
        by_cases hlt : i < s.length
        · rw [if_pos hlt]; exact hv t hi
        · rw [if_neg hlt]; exact .any _
      · rw [List.getD_eq_getElem?_getD, List.getElem?_set, if_neg hij, ← List.getD_eq_getElem?_getD]; exact this
  have at_ : ∀ {β : Nat → Option Nat} {σ : Hp} {F : Nat → Prop} {a : Act} {w : World} {s : List AV} {i t : Nat} {v : AV}, SRel N w0 M0 β0 ds β (emb fr lv md s) σ F a w → s[i]? = some v → idx t lv 0 = some i → Rel (live N β σ) w β (a.tmps.getD t undef) v := by
    intro β σ F a w s i t v R hs hi
    have := R.regs t
    unfold emb at this
    rw [hi] at this
    simp only [List.getD_eq_getElem?_getD, hs, Option.getD_some] at this
    exact this
  have fnle : ∀ {n n' : Nat}, n ≤ n' → ∀ i, Fn T U n' i → Fn T U n i := fun h i hi => hi.imp (fun h' => by omega) (fun h => h)
  induction h with
  | refl => exact fun _ R => R
  | trans h1 h2 ih1 ih2 => exact fun hT R => ih2 (Nat.le_trans hT h1.le) (ih1 hT R)
  | less s σ σ' n h => exact fun _ R => (R.less h).1
  | more s σ n n' h => exact fun _ R => R.free (fnle h)
  | emp s σ n i k cl h =>
    intro β a w hT R
    obtain ⟨R1, up⟩ := R.imagine n (.inl (Nat.le_refl n)) k cl
    refine (set (R1.free (F' := Fn T U (n + 16)) (fun j hj => ⟨fnle (by omega) j hj, by rcases hj with h | ⟨_, h⟩ <;> omega⟩)) (fun t ht => ?_))
    have := at_ R h ht
    generalize a.tmps.getD t undef = u at this
    cases this with
    | em A => exact .ow0 A n k
  | nil s σ n i h =>
    intro β a w hT R
    refine set R (fun t ht => ?_)
    have := at_ R h ht
    generalize a.tmps.getD t undef = u at this
    cases this with
    | em A => exact .tr A 0 1 [] (fun _ _ => undef) (by omega) (by simp) (by simp) (by simp) (by simp) (by simp) (by simp)
  | any s σ n i => exact fun _ R => set R (fun t _ => .any _)
  | frz s σ n i v c I h hb =>
    intro β a w hT R
    obtain ⟨R1, up⟩ := R.less (frz_less σ I)
    refine set R1 (fun t ht => ?_)
    obtain ⟨l1, l2⟩ := frz_off R.heap (brw_some σ 6 v c I hb)
    exact (brw_rel R.heap l1 6 v c I _ hb (at_ R h ht) l2).lift
theorem fnle {n n' : Nat} (h : n ≤ n') : ∀ i, Fn T U n' i → Fn T U n i := fun _ hi => hi.imp (fun h' => Nat.le_trans h h') (fun h => h)
theorem emb_at {fr : Regs} {lv md : List Nat} {s : List AV} {β : Nat → Option Nat} {fr1 : Regs} {σ : Hp} {F : Nat → Prop} {a : Act} {w : World} (R : SRel N w0 M0 β0 ds β fr1 σ F a w) (h : ∀ t, t ∉ md → fr1 t = emb fr lv md s t) : SRel N w0 M0 β0 ds β (emb fr lv md (lv.map fr1)) σ F a w := by
  refine R.other (fun t => ?_)
  unfold emb
  cases hi : idx t lv 0 with
  | some i =>
    obtain ⟨_, h2⟩ := idx_some lv 0 i hi
    rw [Nat.sub_zero] at h2
    simp only [List.getD_eq_getElem?_getD, List.getElem?_map, h2, Option.map_some, Option.getD_some]
    exact R.regs t
  | none =>
    simp only
    by_cases hm : md.contains t = true
    · rw [if_pos hm]; exact .any _
    · rw [if_neg hm]
      have := h t (by simpa using hm)
      unfold emb at this
      rw [hi] at this
      simp only at this
      rw [if_neg hm] at this
      rw [← this]; exact R.regs t
theorem emb_at' {fr : Regs} {lv md : List Nat} {β : Nat → Option Nat} {fr1 : Regs} {σ : Hp} {F : Nat → Prop} {a : Act} {w : World} (R : SRel N w0 M0 β0 ds β fr1 σ F a w) (h : ∀ t, t ∉ md → fr1 t = fr t) : SRel N w0 M0 β0 ds β (emb fr lv md (lv.map fr1)) σ F a w := by
  refine R.other (fun t => ?_)
  unfold emb
  cases hi : idx t lv 0 with
  | some i =>
    obtain ⟨_, h2⟩ := idx_some lv 0 i hi
    rw [Nat.sub_zero] at h2
    simp only [List.getD_eq_getElem?_getD, List.getElem?_map, h2, Option.map_some, Option.getD_some]
    exact R.regs t
  | none =>
    simp only
    by_cases hm : md.contains t = true
    · rw [if_pos hm]; exact .any _
    · rw [if_neg hm]
      rw [← h t (by simpa using hm)]; exact R.regs t
theorem emb_map {fr : Regs} {lv md : List Nat} {β : Nat → Option Nat} {σ : Hp} {F : Nat → Prop} {a : Act} {w : World} (R : SRel N w0 M0 β0 ds β fr σ F a w) : SRel N w0 M0 β0 ds β (emb fr lv md (lv.map fr)) σ F a w := by
  refine R.other (fun t => ?_)
  unfold emb
  cases hi : idx t lv 0 with
  | some i =>
    obtain ⟨_, h2⟩ := idx_some lv 0 i hi
    rw [Nat.sub_zero] at h2
    simp only [List.getD_eq_getElem?_getD, List.getElem?_map, h2, Option.map_some, Option.getD_some]
    exact R.regs t
  | none =>
    simp only
    by_cases hm : md.contains t = true
    · rw [if_pos hm]; exact .any _
    · rw [if_neg hm]; exact R.regs t
theorem loop_sound {S : Nat} {lv md : List Nat} {fr : Regs} {body : (List AV → Hp → Nat → Prop) → List AV → Hp → Nat → Prop} {c : Code} {W : (Act → World → Prop) → Exit → Act → World → Prop} {β : Nat → Option Nat} {s : List AV} {σ : Hp} {n : Nat} {a : Act} {w : World}
    (round : ∀ (K : List AV → Hp → Nat → Prop) (J : Act → World → Prop), (∀ β s' σ n' a w, T ≤ n' → n ≤ n' → a.tmps.size = S → s'.length = s.length → SRel N w0 M0 β0 ds β (emb fr lv md s') σ (Fn T U n') a w → K s' σ n' → J a w) → ∀ β s' σ n' a w, T ≤ n' → n ≤ n' → a.tmps.size = S → s'.length = s.length → SRel N w0 M0 β0 ds β (emb fr lv md s') σ (Fn T U n') a w → body K s' σ n' → c.wpIn (FW rr) 0 P (W J) a w)
    (hT : T ≤ n) (hS : a.tmps.size = S) (R : SRel N w0 M0 β0 ds β (emb fr lv md s) σ (Fn T U n) a w) (h : LOOP body s σ n) :
    ∃ J : Nat → Act → World → Prop, (∃ m, J m a w) ∧ ∀ m a w, J m a w → c.wpIn (FW rr) 0 P (W (fun a w => ∃ m', m' < m ∧ J m' a w)) a w := by
  obtain ⟨I, ⟨m0, s0, σ0, n0, hw, hn0, hs0, hI0⟩, hround⟩ := h
  refine ⟨fun m a w => ∃ β s' σ n', T ≤ n' ∧ n ≤ n' ∧ a.tmps.size = S ∧ s'.length = s.length ∧ SRel N w0 M0 β0 ds β (emb fr lv md s') σ (Fn T U n') a w ∧ I m s' σ n', ⟨m0, β, s0, σ0, n0, by omega, hn0, hS, hs0, hw.sound hT R, hI0⟩, ?_⟩
  rintro m a w ⟨β, s1, σ1, n1, hT1, hn1, hS1, hs1, R1, hI1⟩
  refine round _ _ ?_ β s1 σ1 n1 a w hT1 hn1 hS1 hs1 R1 (hround m s1 σ1 n1 hn1 hs1 hI1)
  rintro β s2 σ2 n2 a w hT2 hn2 hS2 hs2 R2 ⟨m', hm', s3, σ3, n3, hw3, hn3, hs3, hI3⟩
  exact ⟨m', hm', β, s3, σ3, n3, by omega, by omega, hS2, by omega, hw3.sound hT2 R2, hI3⟩
theorem fn_up {n n' : Nat} (hT : T ≤ n) (i : Nat) : Fn n (fun i => U i ∧ i < T) n' i ↔ Fn T U n' i :=
  ⟨fun h => h.imp (fun h => h) (fun h => h.1), fun h => h.imp (fun h => h) (fun h => ⟨h, Nat.lt_of_lt_of_le h.2 hT⟩)⟩
def noScope : Code → Bool
  | .scope _ => false
  | .seq a b => noScope a && noScope b
  | .cond _ a b => noScope a && noScope b
  | .block _ a => noScope a
  | .loop a => noScope a
  | _ => true
theorem scope_FW {rr : Option Nat} (hrr : rr = none) {P : Program} {a : Act} {w : World} {Q : Exit → Act → World → Prop} {l : Nat} {c : Code} (J : Nat → Act → World → Prop) (n₀ : Nat) (h0 : J n₀ a w)
    (pass : ∀ n a w, J n a w → c.wpIn (FW rr) 0 P (Exit.jump l (fun a' w' => ∃ n', n' < n ∧ J n' a' w') Q) a w) : (Code.scope (.seq (.label l) c)).wpIn (FW rr) 0 P Q a w := by
  subst hrr
  exact wpIn_wide.2 (wp_scope_label J n₀ h0 fun n a w hj => wpIn_wide.1 (pass n a w hj))
theorem scL {rr : Option Nat} {a b : Code} (h : rr = none ∨ (noScope a && noScope b) = true) : rr = none ∨ noScope a = true := h.imp (fun h => h) (fun h => (Bool.and_eq_true_iff.1 h).1)
theorem scR {rr : Option Nat} {a b : Code} (h : rr = none ∨ (noScope a && noScope b) = true) : rr = none ∨ noScope b = true := h.imp (fun h => h) (fun h => (Bool.and_eq_true_iff.1 h).2)
theorem swp_sound {S : Nat} {X : List Nat} : ∀ (c : Code) (sc : SCode), cmpC P S X c = some sc → (rr = none ∨ noScope c = true) → ∀ (T : Nat) (U : Nat → Prop) (Q : Ks) (Q' : Exit → Act → World → Prop),
    (∀ e β fr σ n a w, T ≤ n → a.tmps.size = S → SRel N w0 M0 β0 ds β fr σ (Fn T U n) a w → Q e fr σ n → Q' e.conv a w) →
    ∀ (β : Nat → Option Nat) (fr : Regs) (σ : Hp) (n : Nat) (a : Act) (w : World), T ≤ n → a.tmps.size = S → SRel N w0 M0 β0 ds β fr σ (Fn T U n) a w → swp P sc Q fr σ n → c.wpIn (FW rr) 0 P Q' a w
  | .skip, sc, hc, hsc, T, U, Q, Q', hQ, β, fr, σ, n, a, w, hT, hS, R, h => by
    cases hc
    exact wpIn_skip (hQ .normal _ _ _ _ _ _ hT hS R h)
  | .region id ops true, sc, hc, hsc, T, U, Q, Q', hQ, β, fr, σ, n, a, w, hT, hS, R, h => by
    obtain ⟨l, hl, rfl⟩ := Option.map_eq_some_iff.1 hc
    unfold cmpD at hl
    split at hl
    · rename_i sl hsl
      split at hl
      · rename_i hcd
        obtain ⟨h1, h2, h3⟩ := hcd
        cases hl
        obtain ⟨effs, Tr⟩ := trace_of (K := Q .normal) (Kp := fun v => Q (.pan v)) _ [] none rfl (Nat.zero_le _) (fun i o anc e _ h => by simp at h) (fun ⟨e, he, _⟩ => by cases he) (fun h => by cases h) h
        have hlen : (sl.zip (ancOf ops.toList)).length = ops.size := by
          have := (cmpL_get _ _ hsl).1
          have h4 : (ancOf ops.toList).length = ops.toList.length := by
            unfold ancOk at h1
            simp only [Bool.and_eq_true, decide_eq_true_eq] at h1
            exact h1.1
          simp [this, h4]
        refine wpIn_region_any h3 ?_
        refine dops_sound (rr := rr) (T := T) (U := U) (ds := ds) (n := n) (fun β fr σ n a w hT hS R h => hQ .normal β fr σ n a w hT hS R h) (fun x β fr σ n a w hT hS R h => hQ (.pan x) β fr σ n a w hT hS R h) hT hsl h1 h2 Tr ops.size _ (n + 16 * ops.size) β a _ (Nat.le_refl _) (by simp) ?_ hS ?_ ?_ ?_
        · have := List.length_filter_le (fun i => !(Array.replicate ops.size false).getD i false) (List.range ops.size)
          simpa using this
        · intro i anc _ hl
          simp [Array.getD_eq_getD_getElem?, Array.getElem?_replicate] at hl
          split at hl <;> simp at hl
        · intro i e _ hl
          simp [Array.getD_eq_getD_getElem?, Array.getElem?_replicate] at hl
          split at hl <;> simp at hl
        · rw [stL_none 0 effs (fr, σ) (fun j _ _ => by simp [Array.getD_eq_getD_getElem?, Array.getElem?_replicate]; split <;> rfl)]
          have R' := drew_world R
          refine R'.free (fun j hj => ?_)
          rcases hj with ⟨h, _⟩ | h | h
          · exact .inl h
          · exact .inl (by omega)
          · exact .inr h
      · cases hl
    · cases hl
  | .region id ops false, sc, hc, hsc, T, U, Q, Q', hQ, β, fr, σ, n, a, w, hT, hS, R, h => by
    obtain ⟨sl, hsl, rfl⟩ := Option.map_eq_some_iff.1 hc
    exact wpIn_region_list (sops_sound (rr := rr) (K := Q .normal) (Kp := fun v => Q (.pan v)) (fun β fr σ n a w hT hS R h => hQ .normal β fr σ n a w hT hS R h) (fun x β fr σ n a w hT hS R h => hQ (.pan x) β fr σ n a w hT hS R h) _ _ β fr σ n a w hsl hT hS R h)
  | .seq x y, sc, hc, hsc, T, U, Q, Q', hQ, β, fr, σ, n, a, w, hT, hS, R, h => by
    simp only [cmpC] at hc
    split at hc
    · rename_i sx sy h1 h2
      split at hc
      · cases hc
        simp only [swp] at h
        replace h := h.h
        try simp only at h
        have h' := swp_mono sx (thenK (fun fr' => swp P sy Q (emb fr (liveOf X sx) (modsOf sx) ((liveOf X sx).map fr'))) Q) (fun e => match e with | .pan v => Q (.pan v) | .normal => Keep (modsOf sx) fr (fun fr' => swp P sy Q (emb fr (liveOf X sx) (modsOf sx) ((liveOf X sx).map fr'))) | e => Q e) (modsOf sx) fr (modsW_of x sx h1) (fun v fr σ n h => h) (fun e fr1 σ n he hq ha => by
          cases e with
          | normal => exact ⟨hq, ha⟩
          | pan v => exact absurd rfl (he v)
          | exit id => exact hq
          | goto l => exact hq
          | ret => exact hq) fr σ n (fun t _ => rfl) h
        refine wpIn_seq (swp_sound x sx h1 (scL hsc) T U _ _ ?_ β fr σ n a w hT hS R h')
        intro e β fr1 σ n a w hT hS R h
        cases e with
        | normal =>
          obtain ⟨h, hk⟩ := h
          refine swp_sound y sy h2 (scR hsc) T U Q Q' hQ β _ σ n a w hT hS (emb_at' R (fun t ht => hk t ht)) h
        | exit id => exact hQ (.exit id) β fr1 σ n a w hT hS R h
        | goto l => exact hQ (.goto l) β fr1 σ n a w hT hS R h
        | ret => exact hQ .ret β fr1 σ n a w hT hS R h
        | pan v => exact hQ (.pan v) β fr1 σ n a w hT hS R h
      · cases hc
        refine wpIn_seq (swp_sound x sx h1 (scL hsc) T U _ _ ?_ β fr σ n a w hT hS R h)
        intro e β fr σ n a w hT hS R h
        cases e with
        | normal => exact swp_sound y sy h2 (scR hsc) T U Q Q' hQ β fr σ n a w hT hS R h
        | exit id => exact hQ (.exit id) β fr σ n a w hT hS R h
        | goto l => exact hQ (.goto l) β fr σ n a w hT hS R h
        | ret => exact hQ .ret β fr σ n a w hT hS R h
        | pan v => exact hQ (.pan v) β fr σ n a w hT hS R h
    · cases hc
  | .cond cc x y, sc, hc, hsc, T, U, Q, Q', hQ, β, fr, σ, n, a, w, hT, hS, R, h => by
    simp only [cmpC] at hc
    split at hc
    · rename_i sx sy h1 h2
      cases hc
      simp only [swp, COND] at h
      split at h
      · rename_i t ht
        have hr := rel_get R cc
        rw [ht] at hr
        refine wpIn_cond (rel_sc hr) ?_
        cases t
        · exact swp_sound y sy h2 (scR hsc) T U Q Q' hQ β fr σ n a w hT hS R (h.2 rfl)
        · exact swp_sound x sx h1 (scL hsc) T U Q Q' hQ β fr σ n a w hT hS R (h.1 rfl)
      · rename_i ht
        have hr := rel_get R cc
        rw [ht] at hr
        generalize hu : a.eval cc = u at hr
        cases hr with
        | bo t =>
          refine wpIn_cond hu ?_
          cases t
          · exact swp_sound y sy h2 (scR hsc) T U Q Q' hQ β fr σ n a w hT hS R h.2
          · exact swp_sound x sx h1 (scL hsc) T U Q Q' hQ β fr σ n a w hT hS R h.1
      · exact h.elim
    · cases hc
  | .block id x, sc, hc, hsc, T, U, Q, Q', hQ, β, fr, σ, n, a, w, hT, hS, R, h => by
    obtain ⟨sx, h1, rfl⟩ := Option.map_eq_some_iff.1 hc
    refine wpIn_block (swp_sound x sx h1 hsc T U _ _ ?_ β fr σ n a w hT hS R h)
    intro e β fr σ n a w hT hS R h
    cases e with
    | normal => exact hQ .normal β fr σ n a w hT hS R h
    | exit id' =>
      simp only [blockK] at h
      simp only [SExit.conv, Exit.inBlock]
      split
      · rename_i e; rw [if_pos e] at h; exact hQ .normal β fr σ n a w hT hS R h
      · rename_i e; rw [if_neg e] at h; exact hQ (.exit id') β fr σ n a w hT hS R h
    | goto l => exact hQ (.goto l) β fr σ n a w hT hS R h
    | ret => exact hQ .ret β fr σ n a w hT hS R h
    | pan v => exact hQ (.pan v) β fr σ n a w hT hS R h
  | .loop x, sc, hc, hsc, T, U, Q, Q', hQ, β, fr, σ, n, a, w, hT, hS, R, h => by
    obtain ⟨sx, h1, rfl⟩ := Option.map_eq_some_iff.1 hc
    have R0 : SRel N w0 M0 β0 ds β (emb fr (liveOf X sx) (modsOf sx) ((liveOf X sx).map fr)) σ (Fn T U n) a w := emb_map R
    have round : ∀ (K : List AV → Hp → Nat → Prop) (J : Act → World → Prop), (∀ β s' σ n' a w, T ≤ n' → n ≤ n' → a.tmps.size = S → s'.length = ((liveOf X sx).map fr).length → SRel N w0 M0 β0 ds β (emb fr (liveOf X sx) (modsOf sx) s') σ (Fn T U n') a w → K s' σ n' → J a w) →
        ∀ β s' σ n' a w, T ≤ n' → n ≤ n' → a.tmps.size = S → s'.length = ((liveOf X sx).map fr).length → SRel N w0 M0 β0 ds β (emb fr (liveOf X sx) (modsOf sx) s') σ (Fn T U n') a w →
        swp P sx (thenK (fun fr' => K ((liveOf X sx).map fr')) Q) (emb fr (liveOf X sx) (modsOf sx) s') σ n' → x.wpIn (FW rr) 0 P (Exit.then J Q') a w := by
      intro K J hKJ β s' σ n' a w hT' hn hS hs R h
      have h' := swp_mono sx (thenK (fun fr' => K ((liveOf X sx).map fr')) Q) (fun e => match e with | .pan v => Q (.pan v) | .normal => Keep (modsOf sx) (emb fr (liveOf X sx) (modsOf sx) s') (fun fr' => K ((liveOf X sx).map fr')) | e => Q e) (modsOf sx) (emb fr (liveOf X sx) (modsOf sx) s') (modsW_of x sx h1) (fun v fr σ n h => h) (fun e fr σ n he hq ha => by
        cases e with
        | normal => exact ⟨hq, ha⟩
        | pan v => exact absurd rfl (he v)
        | exit id => exact hq
        | goto l => exact hq
        | ret => exact hq) _ σ n' (fun t _ => rfl) h
      refine swp_sound x sx h1 hsc n (fun i => U i ∧ i < T) _ (Exit.then J Q') ?_ β _ σ n' a w hn hS (R.free (fun i hi => (fn_up hT i).1 hi)) h'
      intro e β fr1 σ n1 a w hn1 hS R h
      have R := R.free (fun i hi => (fn_up hT i).2 hi)
      cases e with
      | normal => exact hKJ β _ σ n1 a w (by omega) hn1 hS (by simp) (emb_at R h.2) h.1
      | exit id => exact hQ (.exit id) β fr1 σ n1 a w (by omega) hS R h
      | goto l => exact hQ (.goto l) β fr1 σ n1 a w (by omega) hS R h
      | ret => exact hQ .ret β fr1 σ n1 a w (by omega) hS R h
      | pan v => exact hQ (.pan v) β fr1 σ n1 a w (by omega) hS R h
    obtain ⟨J, ⟨m0, hm0⟩, hJ⟩ := loop_sound (c := x) (W := fun J => Exit.then J Q') (S := S) round hT hS R0 h
    refine wpIn_loop (fun a w => ∃ m, J m a w) (fun a w => leastOf (fun m => J m a w)) ⟨m0, hm0⟩ ?_
    intro a w hjm
    refine wpIn_mono (hJ _ a w (leastOf_spec hjm).1) ?_
    intro e a' w' hq
    cases e <;> first
      | exact hq
      | (obtain ⟨m', hlt, hj⟩ := hq
         exact ⟨⟨m', hj⟩, Nat.lt_of_le_of_lt ((leastOf_spec ⟨m', hj⟩).2 m' hj) hlt⟩)
  | .scope (.seq (.label l) x), sc, hc, hsc, T, U, Q, Q', hQ, β, fr, σ, n, a, w, hT, hS, R, h => by
    have hrr : rr = none := hsc.resolve_right (by simp [noScope])
    obtain ⟨sx, h1, rfl⟩ := Option.map_eq_some_iff.1 hc
    have R0 : SRel N w0 M0 β0 ds β (emb fr (liveOf X sx) (modsOf sx) ((liveOf X sx).map fr)) σ (Fn T U n) a w := emb_map R
    have round : ∀ (K : List AV → Hp → Nat → Prop) (J : Act → World → Prop), (∀ β s' σ n' a w, T ≤ n' → n ≤ n' → a.tmps.size = S → s'.length = ((liveOf X sx).map fr).length → SRel N w0 M0 β0 ds β (emb fr (liveOf X sx) (modsOf sx) s') σ (Fn T U n') a w → K s' σ n' → J a w) →
        ∀ β s' σ n' a w, T ≤ n' → n ≤ n' → a.tmps.size = S → s'.length = ((liveOf X sx).map fr).length → SRel N w0 M0 β0 ds β (emb fr (liveOf X sx) (modsOf sx) s') σ (Fn T U n') a w →
        swp P sx (gotoK l (fun fr' => K ((liveOf X sx).map fr')) Q) (emb fr (liveOf X sx) (modsOf sx) s') σ n' → x.wpIn (FW rr) 0 P (Exit.jump l J Q') a w := by
      intro K J hKJ β s' σ n' a w hT' hn hS hs R h
      have h' := swp_mono sx (gotoK l (fun fr' => K ((liveOf X sx).map fr')) Q) (fun e => match e with | .pan v => Q (.pan v) | .goto l' => if l' = l then Keep (modsOf sx) (emb fr (liveOf X sx) (modsOf sx) s') (fun fr' => K ((liveOf X sx).map fr')) else (fun _ _ _ => False) | e => Q e) (modsOf sx) (emb fr (liveOf X sx) (modsOf sx) s') (modsW_of x sx h1) (fun v fr σ n h => h) (fun e fr σ n he hq ha => by
        cases e with
        | normal => exact hq
        | pan v => exact absurd rfl (he v)
        | exit id => exact hq
        | goto l' =>
          simp only [gotoK] at hq ⊢
          split at hq
          · rename_i e; rw [if_pos e]; exact ⟨hq, ha⟩
          · exact hq.elim
        | ret => exact hq) _ σ n' (fun t _ => rfl) h
      refine swp_sound x sx h1 (.inl hrr) n (fun i => U i ∧ i < T) _ (Exit.jump l J Q') ?_ β _ σ n' a w hn hS (R.free (fun i hi => (fn_up hT i).1 hi)) h'
      intro e β fr1 σ n1 a w hn1 hS R hh
      clear h
      have R := R.free (fun i hi => (fn_up hT i).2 hi)
      cases e with
      | normal => exact hQ .normal β fr1 σ n1 a w (by omega) hS R hh
      | exit id => exact hQ (.exit id) β fr1 σ n1 a w (by omega) hS R hh
      | goto l' =>
        simp only at hh
        simp only [SExit.conv, Exit.jump]
        by_cases hl : l' = l
        · rw [if_pos hl] at hh
          subst hl
          exact ⟨rfl, hKJ β _ σ n1 a w (by omega) hn1 hS (by simp) (emb_at R hh.2) hh.1⟩
        · rw [if_neg hl] at hh
          exact hh.elim
      | ret => exact hQ .ret β fr1 σ n1 a w (by omega) hS R hh
      | pan v => exact hQ (.pan v) β fr1 σ n1 a w (by omega) hS R hh
    obtain ⟨J, ⟨m0, hm0⟩, hJ⟩ := loop_sound (c := x) (W := fun J => Exit.jump l J Q') (S := S) round hT hS R0 h
    exact scope_FW hrr J m0 hm0 hJ
  | .exit id, sc, hc, hsc, T, U, Q, Q', hQ, β, fr, σ, n, a, w, hT, hS, R, h => by
    cases hc
    exact wpIn_exit (hQ (.exit id) _ _ _ _ _ _ hT hS R h)
  | .goto l, sc, hc, hsc, T, U, Q, Q', hQ, β, fr, σ, n, a, w, hT, hS, R, h => by
    cases hc
    exact wpIn_goto (hQ (.goto l) _ _ _ _ _ _ hT hS R h)
  | .ret, sc, hc, hsc, T, U, Q, Q', hQ, β, fr, σ, n, a, w, hT, hS, R, h => by
    cases hc
    exact wpIn_ret (hQ .ret _ _ _ _ _ _ hT hS R h)
theorem swp_soundW {S : Nat} {X : List Nat} (c : Code) (sc : SCode) (hc : cmpC P S X c = some sc) (T : Nat) (U : Nat → Prop) (Q : Ks) (Q' : Exit → Act → World → Prop)
    (hQ : ∀ e β fr σ n a w, T ≤ n → a.tmps.size = S → SRel N w0 M0 β0 ds β fr σ (Fn T U n) a w → Q e fr σ n → Q' e.conv a w)
    (β : Nat → Option Nat) (fr : Regs) (σ : Hp) (n : Nat) (a : Act) (w : World) (hT : T ≤ n) (hS : a.tmps.size = S) (R : SRel N w0 M0 β0 ds β fr σ (Fn T U n) a w) (h : swp P sc Q fr σ n) : c.wp P Q' a w :=
  wpIn_wide.1 (swp_sound (rr := none) c sc hc (.inl rfl) T U Q Q' hQ β fr σ n a w hT hS R h)
end
end Go.Proofs.YtodoejfkjimeaaaGreatDoor.Am

set_option linter.unusedSimpArgs false
set_option linter.unusedVariables false
namespace Go.Proofs.YtodoejfkjimeaaaGreatDoor.Am
open Go Go.RowKit

inductive RV where
  | t (i : Nat)
  | c (i : Nat) (m : Option Nat)
def resT (P : Program) : List ResultVar → Option (List RV)
  | [] => some []
  | .tmp t :: l => (resT P l).map (.t t :: ·)
  | .cell a ty :: l => match aggT P ty, resT P l with
    | some m, some r => some (.c a m :: r)
    | _, _ => none
def resV (σ : Hp) (fr : Regs) : List RV → Option (List AV)
  | [] => some []
  | .t i :: l => (resV σ fr l).map (fr i :: ·)
  | .c i m :: l => match aLd σ m (fr i), resV σ fr l with
    | some v, some r => some (v :: r)
    | _, _ => none
def tupA : List AV → AV
  | [x] => x
  | l => .tp l
def retC (σ : Hp) (fr : Regs) : List RV → (List AV → Prop) → Prop
  | [], K => K []
  | .t i :: l, K => retC σ fr l (fun r => K (fr i :: r))
  | .c i m :: l, K => bindP (aLd σ m (fr i)) (fun v => retC σ fr l (fun r => K (v :: r)))
theorem retC_of {σ : Hp} {fr : Regs} : ∀ {l : List RV} {K : List AV → Prop}, retC σ fr l K → ∃ vs, resV σ fr l = some vs ∧ K vs
  | [], K, h => ⟨[], rfl, h⟩
  | .t i :: l, K, h => by
    obtain ⟨vs, h1, h2⟩ := retC_of (l := l) h
    exact ⟨fr i :: vs, by simp [resV, h1], h2⟩
  | .c i m :: l, K, h => by
    simp only [retC] at h
    unfold bindP at h
    split at h
    · rename_i v hv
      obtain ⟨vs, h1, h2⟩ := retC_of (l := l) h
      exact ⟨v :: vs, by simp [resV, h1, hv], h2⟩
    · exact h.elim
def retQ (rs : List RV) (R : AEnd → Hp → Nat → Prop) : Ks
  | .normal => fun fr σ n => retC σ fr rs (fun vs => R (.ret (tupA vs)) σ n)
  | .ret => fun fr σ n => retC σ fr rs (fun vs => R (.ret (tupA vs)) σ n)
  | .pan v => fun _ σ n => R (.pan v) σ n
  | .exit _ => fun _ _ _ => False
  | .goto _ => fun _ _ _ => False
def entry (args : List AV) : Regs := fun i => args.getD i (.tp [])
section
variable {P : Program} {N : Nat → Prop} {w0 : World} {M0 : Nat → Prop} {β0 : Nat → Option Nat} {ds : List Deferred} {β : Nat → Option Nat} {fr : Regs} {σ : Hp} {F : Nat → Prop} {a : Act} {w : World}
theorem run_res (R : SRel N w0 M0 β0 ds β fr σ F a w) (g : ResultVar → Sem Value) (hg1 : ∀ t, g (.tmp t) = pure (a.tmps.getD t undef)) (hg2 : ∀ i ty, g (.cell i ty) = (do loadVar ty (← asAddr (a.tmps.getD i undef)))) : ∀ (l : List ResultVar) (rs : List RV) (vs : List AV), resT P l = some rs → resV σ fr rs = some vs →
    ∃ us : List Value, (l.mapM g).run P w = .ok us w ∧ us.length = vs.length ∧ ∀ (i : Nat) (u : Value) (z : AV), us[i]? = some u → vs[i]? = some z → Rel (live N β σ) w β u z
  | [], rs, vs, h1, h2 => by
    simp only [resT, Option.some.injEq] at h1; subst h1
    simp only [resV, Option.some.injEq] at h2; subst h2
    exact ⟨[], rfl, rfl, fun i u z h => by simp at h⟩
  | .tmp t :: l, rs, vs, h1, h2 => by
    simp only [resT] at h1
    obtain ⟨rs', h3, rfl⟩ := Option.map_eq_some_iff.1 h1
    simp only [resV] at h2
    obtain ⟨vs', h4, rfl⟩ := Option.map_eq_some_iff.1 h2
    obtain ⟨us, e1, e2, e3⟩ := run_res R g hg1 hg2 l rs' vs' h3 h4
    refine ⟨a.tmps.getD t undef :: us, ?_, by simp [e2], fun i u z hu hz => ?_⟩
    · rw [List.mapM_cons, hg1]
      simp only [Sem.run_bind, e1, pure_bind, Result.andThen_ok]
      rfl
    · cases i with
      | zero =>
        simp only [List.getElem?_cons_zero, Option.some.injEq] at hu hz
        subst hu hz; exact R.regs t
      | succ i => exact e3 i u z (by simpa using hu) (by simpa using hz)
  | .cell t ty :: l, rs, vs, h1, h2 => by
    simp only [resT] at h1
    split at h1
    · rename_i m r hm h3
      cases h1
      simp only [resV] at h2
      split at h2
      · rename_i v vs' hv h4
        cases h2
        obtain ⟨us, e1, e2, e3⟩ := run_res R g hg1 hg2 l r vs' h3 h4
        obtain ⟨u, hu, hur⟩ := good_ld (P := P) R (o := { (default : Oper) with op := .load ty (.tmp t) }) (x := .tmp t) rfl hm hv
        refine ⟨u :: us, ?_, by simp [e2], fun i u' z hu' hz => ?_⟩
        · have hl : (do loadVar ty (← asAddr (a.tmps.getD t undef)) : Sem Value).run P w = .ok u w := by
            have hrt := R.regs t
            unfold aLd at hv
            generalize hxt : fr t = x at hv hrt
            cases x <;> simp only [reduceCtorEq] at hv
            all_goals
              generalize hav : a.tmps.getD t undef = av at hrt
              cases hrt
              simp only [execOp, Act.eval, hav, Instr.loadAt, Instr.sureAddr] at hu
              simp only [Sem.run_bind, asAddr]
              revert hu
              simp
              generalize (loadVar ty _).run P w = q
              intro hu
              cases q with
              | ok v' w' => simp at hu ⊢; exact hu
              | halt h w' => simp at hu
          rw [List.mapM_cons, hg2]
          simp only [Sem.run_bind] at hl ⊢
          rw [hl]
          simp only [Result.andThen_ok, e1]
          rfl
        · cases i with
          | zero => simp at hu' hz; subst hu' hz; exact hur
          | succ i => exact e3 i u' z (by simpa using hu') (by simpa using hz)
      · cases h2
    · cases h1
def resG (tmps : Array Value) : ResultVar → Sem Value
  | .tmp t => pure (tmps.getD t undef)
  | .cell i t => do loadVar t (← asAddr (tmps.getD i undef))
theorem results_eq (fn : Func) (tmps : Array Value) : results fn tmps = (do
    let vs ← fn.results.mapM (resG tmps)
    pure (if h : vs.size = 1 then vs[0] else .tuple vs)) := by
  first
    | rfl
    | (unfold results
       congr 1)
theorem results_run (R : SRel N w0 M0 β0 ds β fr σ F a w) {fn : Func} {rs : List RV} {vs : List AV} (h1 : resT P fn.results.toList = some rs) (h2 : resV σ fr rs = some vs) : ∃ v, (results fn a.tmps).run P w = .ok v w ∧ Rel (live N β σ) w β v (tupA vs) := by
  obtain ⟨us, e1, e2, e3⟩ := run_res R (P := P) (resG a.tmps) (fun _ => rfl) (fun _ _ => rfl) _ rs vs h1 h2
  refine ⟨if h : us.toArray.size = 1 then us.toArray[0] else .tuple us.toArray, ?_, ?_⟩
  · rw [results_eq, Array.mapM_eq_mapM_toList]
    simp only [Sem.run_bind, Sem.run_map]
    rw [e1]
    simp only [Result.andThen_ok]
    rfl
  · match us, vs, e2, e3 with
    | [], [], _, _ => exact .tp #[] [] rfl (fun i u z h _ => by simp at h)
    | [u], [z], _, e3 => exact e3 0 u z rfl rfl
    | u :: u' :: us, z :: z' :: vs, e2, e3 =>
      simp only [List.size_toArray, List.length_cons, show ¬ (us.length + 1 + 1 = 1) by omega, dite_false]
      exact .tp _ _ (by simpa using e2) (fun i u y hu hy => e3 i u y (by rw [List.getElem?_toArray] at hu; exact hu) hy)
theorem conH_of {f : FuncId} {fn : Func} {sc : SCode} {args : List AV} {n : Nat} {R : AEnd → Hp → Nat → Prop} (rs : List RV) (hf : P.funcs[f]? = some fn) (X : List Nat) (hc : fn.body.bind (cmpC P fn.ntmps X) = some sc) (hgo : goFn P f = true) (hS : decide (args.length ≤ fn.ntmps) = true)
    (hres : resT P fn.results.toList = some rs) (h : swp P sc (retQ rs R) (entry args) σ n) : ConH P f args σ n R := by
  obtain ⟨c, hb, hc⟩ := Option.bind_eq_some_iff.1 hc
  have hS := of_decide_eq_true hS
  refine ⟨hgo, fun N T U β w vs hT hN H hargs => ?_⟩
  have hsz : vs.size = args.length := hargs.1
  refine calls_of_wp hf hb ?_
  have R0 : SRel N w (own β σ) β [] β (entry args) σ (Fn n (fun i => U i ∧ i < T) n) { tmps := vs ++ Array.replicate (fn.ntmps - vs.size) undef, defers := [] } w := by
    refine ⟨⟨fun i hi => H.dom i ((fn_up hT i).1 hi), H.off, H.inj, H.blk, H.map, H.lp, H.df⟩, fun t => ?_, Fr.refl _ _, fun b h _ => h, hN, rfl, fun _ _ h => h⟩
    unfold entry
    by_cases ht : t < args.length
    · have e1 : (vs ++ Array.replicate (fn.ntmps - vs.size) undef).getD t undef = vs[t] := by
        rw [Array.getD_eq_getD_getElem?, Array.getElem?_append_left (by omega)]; simp [hsz, ht]
      have e2 : args.getD t (.tp []) = args[t] := by simp [List.getD, ht]
      simp only [e1, e2]
      exact hargs.2 t vs[t] args[t] (by simp [hsz, ht]) (by simp [ht])
    · have e1 : (vs ++ Array.replicate (fn.ntmps - vs.size) undef).getD t undef = undef := by
        rw [Array.getD_eq_getD_getElem?, Array.getElem?_append_right (by omega), Array.getElem?_replicate]
        split <;> rfl
      have e2 : args.getD t (.tp []) = .tp [] := by simp [List.getD, List.getElem?_eq_none (Nat.le_of_not_lt ht)]
      simp only [e1, e2]
      exact .tp #[] [] rfl (fun i u z h _ => by simp at h)
  have hsize : (vs ++ Array.replicate (fn.ntmps - vs.size) undef).size = fn.ntmps := by simp; omega
  refine swp_soundW c sc hc n (fun i => U i ∧ i < T) (retQ rs R) _ ?_ β _ σ n _ w (Nat.le_refl n) hsize R0 h
  have fin : ∀ β' fr σ' n' a w', n ≤ n' → SRel N w (own β σ) β [] β' fr σ' (Fn n (fun i => U i ∧ i < T) n') a w' → retC σ' fr rs (fun vs => R (.ret (tupA vs)) σ' n') →
      a.defers = [] ∧ ∃ v, (results fn a.tmps).run P w' = .ok v w' ∧ ∃ β' r σ' n', R r σ' n' ∧ n ≤ n' ∧ Leaves N β σ w (.returned v) w' β' σ' (Fn T U n') r := by
    intro β' fr σ' n' a w' hn Rf h
    obtain ⟨vs, hv, h⟩ := retC_of h
    obtain ⟨v, e1, e2⟩ := results_run Rf hres hv
    exact ⟨Rf.defers, v, e1, β', _, σ', n', h, hn, Rf.ext, (Rf.free (fun i hi => (fn_up hT i).2 hi)).heap, e2, Rf.frame, Rf.old⟩
  intro e β' fr σ' n' a w' hn _ Rf h
  cases e with
  | normal => exact fin β' fr σ' n' a w' hn Rf h
  | ret => exact fin β' fr σ' n' a w' hn Rf h
  | exit id => exact h.elim
  | goto l => exact h.elim
  | pan v => exact ⟨Rf.defers, β', _, σ', n', h, hn, Rf.ext, (Rf.free (fun i hi => (fn_up hT i).2 hi)).heap, rfl, Rf.frame, Rf.old⟩
theorem ConH.mono {f : FuncId} {args : List AV} {n : Nat} {R R' : AEnd → Hp → Nat → Prop} (h : ConH P f args σ n R) (hr : ∀ r σ' n', n ≤ n' → R r σ' n' → R' r σ' n') : ConH P f args σ n R' :=
  ⟨h.1, fun N T U β w vs hT hN H hargs => (h.2 N T U β w vs hT hN H hargs).mono fun _ _ ⟨β', r, σ', n', a, b, c⟩ => ⟨β', r, σ', n', hr _ _ _ b a, b, c⟩⟩
def RC (r0 : AEnd) : AEnd → Hp → Nat → Prop := fun r σ _ => match r with
  | .ret v => (match brw σ 6 v with
    | some (c, _) => r0 = .ret c
    | none => False)
  | .pan x => r0 = .pan x
theorem con_of {f : FuncId} {args : List AV} {r0 : AEnd} (h : ConH P f args (fun _ => none) 0 (RC r0)) : Con P f args r0 := by
  refine ⟨h.1, fun M w vs hM hargs => ?_⟩
  have hl : ∀ b, live M nob (fun _ => none) b ↔ M b := fun b => ⟨fun h => h.elim (fun h => h) (fun ⟨i, x, h, _⟩ => by cases h), .inl⟩
  refine (h.2 M 0 (fun _ => False) nob w vs (Nat.le_refl _) ⟨hM.1, hM.2.1, (fun ⟨i, x, h, _⟩ => by cases h), hM.2.2.2⟩ ⟨fun _ _ => ⟨rfl, rfl⟩, (by intro i x b h; cases h), (by intro i j b h; cases h), (by intro i x h; cases h), (by intro i es wr h; cases h), (by intro i L fr S st pe wr h; cases h), (by intro i o wr h; cases h)⟩ ⟨hargs.1, fun i u z hu hz => (hargs.2 i u z hu hz).sub (fun b hb => (hl b).1 hb)⟩).mono ?_
  rintro e w' ⟨β', r, σ', n', hr, _, h1, h2, h3, h4, h5⟩
  refine ⟨?_, ⟨h4.os, h4.tape, h4.output, h4.size, fun b hb _ => h4.block b hb (fun ⟨i, x, h, _⟩ => by cases h), h4.shape⟩⟩
  cases r with
  | pan x =>
    simp only [RC] at hr
    subst hr
    cases e <;> exact h3
  | ret v =>
    simp only [RC] at hr
    split at hr
    · rename_i c I hb
      subst hr
      cases e with
      | returned u => exact brw_rel h2 (fun b hb => .inl hb) 6 v c I u hb h3 (fun i hi b hb' => by
          obtain ⟨x, hx⟩ := Option.isSome_iff_exists.1 (brw_some σ' 6 v c I hb i hi)
          exact h2.off i x b hx hb')
      | panicked ch => exact h3.elim
      | outgrown => exact h3.elim
    · exact hr.elim
inductive Rn (ρ : List (Nat × Nat)) : AV → AV → Prop
  | same (a : AV) : Rn ρ a a
  | ow (j i k off len : Nat) (h : (j, i) ∈ ρ) : Rn ρ (.ow j k off len) (.ow i k off len)
  | rf (j i k r c : Nat) (h : (j, i) ∈ ρ) : Rn ρ (.rf j k r c) (.rf i k r c)
  | mp (j i : Nat) (h : (j, i) ∈ ρ) : Rn ρ (.mp j) (.mp i)
  | ag (l l' : List AV) (hn : l.length = l'.length) (h : ∀ (q : Nat) (x y : AV), l[q]? = some x → l'[q]? = some y → Rn ρ x y) : Rn ρ (.ag l) (.ag l')
  | tp (l l' : List AV) (hn : l.length = l'.length) (h : ∀ (q : Nat) (x y : AV), l[q]? = some x → l'[q]? = some y → Rn ρ x y) : Rn ρ (.tp l) (.tp l')
theorem Rn.sound {ρ : List (Nat × Nat)} {x y : AV} (h : Rn ρ x y) {M : Nat → Prop} (hρ : ∀ p ∈ ρ, ∀ b, β p.1 = some b → β p.2 = some b) : ∀ {v : Value}, Rel M w β v x → Rel M w β v y := by
  induction h with
  | same a => exact fun hr => hr
  | ow j i k off len h =>
    intro v hr
    cases hr with
    | ow _ _ _ _ cap b e n hb hl hs hn => exact .ow i k off len cap b e n (hρ _ h b hb) hl hs hn
    | ow0 A => exact .ow0 A i k
  | rf j i k r c h =>
    intro v hr
    cases hr with
    | rf _ _ _ _ b hb => exact .rf i k r c b (hρ _ h b hb)
  | mp j i h =>
    intro v hr
    cases hr with
    | mp _ b hb => exact .mp i b (hρ _ h b hb)
  | ag l l' hn h ih =>
    intro v hr
    cases hr with
    | ag vs _ hn' hr => exact .ag vs l' (hn'.trans hn) (fun i u z hu hz => by
        have hlt : i < l.length := by rw [hn]; exact (List.getElem?_eq_some_iff.1 hz).1
        exact ih i l[i] z (List.getElem?_eq_getElem hlt) hz (hr i u _ hu (List.getElem?_eq_getElem hlt)))
  | tp l l' hn h ih =>
    intro v hr
    cases hr with
    | tp vs _ hn' hr => exact .tp vs l' (hn'.trans hn) (fun i u z hu hz => by
        have hlt : i < l.length := by rw [hn]; exact (List.getElem?_eq_some_iff.1 hz).1
        exact ih i l[i] z (List.getElem?_eq_getElem hlt) hz (hr i u _ hu (List.getElem?_eq_getElem hlt)))
inductive Wn (id : Nat) : AEnd → Hp → List (Nat × Nat) → List Nat → AEnd → Hp → Prop
  | done (r : AEnd) (σ : Hp) (ρ : List (Nat × Nat)) (us : List Nat) : Wn id r σ ρ us r σ
  | less (r : AEnd) (σ : Hp) (ρ : List (Nat × Nat)) (us : List Nat) (σ' : Hp) (r2 : AEnd) (σ2 : Hp) (h : ∀ i x, σ' i = some x → ∃ y, σ i = some y ∧ Ob.le x y) (h2 : Wn id r σ' ρ us r2 σ2) : Wn id r σ ρ us r2 σ2
  | move (r : AEnd) (σ : Hp) (ρ : List (Nat × Nat)) (us : List Nat) (j i : Nat) (x : Ob) (r2 : AEnd) (σ2 : Hp) (hx : σ j = some x) (hi : i < 16) (hu : i ∉ us) (hj : ∀ q, q < 16 → j ≠ id + q)
      (h2 : Wn id r (upd (upd σ j none) (id + i) (some x)) ((j, id + i) :: ρ) (i :: us) r2 σ2) : Wn id r σ ρ us r2 σ2
  | cells (r : AEnd) (σ : Hp) (ρ : List (Nat × Nat)) (us : List Nat) (i k : Nat) (rows rows' : List (List AV)) (wr : Bool) (r2 : AEnd) (σ2 : Hp) (hx : σ i = some (.c ⟨k, rows, wr, false⟩)) (hn : rows.length = rows'.length)
      (hr : ∀ (p : Nat) (x y : List AV), rows[p]? = some x → rows'[p]? = some y → x.length = y.length ∧ ∀ (q : Nat) (a b : AV), x[q]? = some a → y[q]? = some b → Rn ρ a b)
      (h2 : Wn id r (upd σ i (some (.c ⟨k, rows', wr, false⟩))) ρ us r2 σ2) : Wn id r σ ρ us r2 σ2
  | ret (v v' : AV) (σ : Hp) (ρ : List (Nat × Nat)) (us : List Nat) (r2 : AEnd) (σ2 : Hp) (h : Rn ρ v v') (h2 : Wn id (.ret v') σ ρ us r2 σ2) : Wn id (.ret v) σ ρ us r2 σ2
theorem Leaves.move {e : Ending} {w' : World} {β' : Nat → Option Nat} {σ' : Hp} {F' : Nat → Prop} {r : AEnd} (hN : Aw N (own β σ) w) (h : Leaves N β σ w e w' β' σ' F' r) {j i : Nat} {x : Ob} {b : Nat} (hx : σ' j = some x) (hb : β' j = some b) (hi : F' i) (hne : j ≠ i) :
    Leaves N β σ w e w' (upd β' i (some b)) (upd (upd σ' j none) i (some x)) (fun q => F' q ∧ q ≠ i) r := by
  obtain ⟨h1, h2, h3, h4, h5⟩ := h
  have R : SRel N w (own β σ) β [] β' (fun _ => .tp []) σ' F' { tmps := #[], defers := [] } w' := ⟨h2, fun t => .tp #[] [] rfl (fun i u z h _ => by simp at h), h4, h5, hN, rfl, h1⟩
  obtain ⟨R', up⟩ := R.move hx hb hi hne
  refine ⟨R'.ext, R'.heap, ?_, R'.frame, R'.old⟩
  cases e <;> cases r <;> first | exact h3.elim | exact up h3 | exact h3
theorem Leaves.less {e : Ending} {w' : World} {β' : Nat → Option Nat} {σ' σ2 : Hp} {F' : Nat → Prop} {r : AEnd} (h : Leaves N β σ w e w' β' σ' F' r) (hl : ∀ i x, σ2 i = some x → ∃ y, σ' i = some y ∧ Ob.le x y) : Leaves N β σ w e w' β' σ2 F' r := by
  obtain ⟨h1, h2, h3, h4, h5⟩ := h
  obtain ⟨g1, g2, g3⟩ := h2.less hl
  refine ⟨h1, g1, ?_, h4, fun b hb => h5 b (g2 b hb)⟩
  cases e <;> cases r <;> first | exact h3.elim | exact g3 h3 | exact h3
theorem HRel.cells' {ρ : List (Nat × Nat)} (H : HRel N β σ F w) (hρ : ∀ p ∈ ρ, ∀ b, β p.1 = some b → β p.2 = some b) {i k : Nat} {rows rows' : List (List AV)} {wr : Bool} (hx : σ i = some (.c ⟨k, rows, wr, false⟩)) (hn : rows.length = rows'.length)
    (hr : ∀ (p : Nat) (x y : List AV), rows[p]? = some x → rows'[p]? = some y → x.length = y.length ∧ ∀ (q : Nat) (a b : AV), x[q]? = some a → y[q]? = some b → Rn ρ a b) :
    HRel N β (upd σ i (some (.c ⟨k, rows', wr, false⟩))) F w ∧ (∀ b, live N β (upd σ i (some (.c ⟨k, rows', wr, false⟩))) b ↔ live N β σ b) := by
  have hown : ∀ b, own β (upd σ i (some (.c ⟨k, rows', wr, false⟩))) b ↔ own β σ b := by
    intro b
    constructor
    · rintro ⟨j, x, h1, h2, h3⟩
      by_cases e : j = i
      · subst e; rw [upd_same] at h1; cases h1; exact ⟨j, _, hx, h2, h3⟩
      · rw [upd_ne _ _ e] at h1; exact ⟨j, x, h1, h2, h3⟩
    · rintro ⟨j, x, h1, h2, h3⟩
      by_cases e : j = i
      · subst e; rw [hx] at h1; cases h1; exact ⟨j, .c ⟨k, rows', wr, false⟩, by rw [upd_same], h2, h3⟩
      · exact ⟨j, x, by rw [upd_ne _ _ e]; exact h1, h2, h3⟩
  have hlv : ∀ b, live N β (upd σ i (some (.c ⟨k, rows', wr, false⟩))) b ↔ live N β σ b := fun b => or_congr Iff.rfl (hown b)
  have sub : ∀ {β' : Nat → Option Nat} {v : Value} {a : AV}, Rel (live N β σ) w β' v a → Rel (live N β (upd σ i (some (.c ⟨k, rows', wr, false⟩)))) w β' v a := fun h => h.sub (fun b hb => (hlv b).1 hb)
  have hs : ∀ j, ((upd σ i (some (.c ⟨k, rows', wr, false⟩))) j).isSome → (σ j).isSome := by
    intro j h
    by_cases e : j = i
    · subst e; simp [hx]
    · rwa [upd_ne _ _ e] at h
  have hne : ∀ {j : Nat} {x : Ob}, (upd σ i (some (.c ⟨k, rows', wr, false⟩))) j = some x → (∀ y, x ≠ .c y) → σ j = some x := by
    intro j x hx hx'
    by_cases e : j = i
    · subst e; rw [upd_same] at hx; cases hx; exact absurd rfl (hx' _)
    · rw [upd_ne _ _ e] at hx; exact hx
  refine ⟨⟨fun j hj => ?_, fun j x b hj hb => ?_, fun j1 j2 b h1 h2 s1 s2 => H.inj j1 j2 b h1 h2 (hs j1 s1) (hs j2 s2), fun j x hj => ?_, fun j es wr' hj => ?_, fun j L fr S st pe wr hj => (let ⟨b, tm, D, h1, h2⟩ := H.lp j L fr S st pe wr (hne hj (fun _ h => by cases h)); ⟨b, tm, D, h1, h2.1, h2.2.1, h2.2.2.1, fun t => sub (h2.2.2.2 t)⟩), fun j o wr hj => H.df j o wr (hne hj (fun _ h => by cases h))⟩, hlv⟩
  · have hne : j ≠ i := fun e => by subst e; rw [(H.dom j hj).2] at hx; cases hx
    rw [upd_ne _ _ hne]; exact H.dom j hj
  · by_cases e : j = i
    · subst e; exact H.off j _ b hx hb
    · rw [upd_ne _ _ e] at hj; exact H.off j x b hj hb
  · by_cases e : j = i
    · subst e
      rw [upd_same] at hj; cases hj
      rcases H.blk j _ hx with ⟨h1, h2⟩ | ⟨b, cells, ee, h1, h2⟩
      · refine .inl ⟨h1, ?_⟩
        simp only at h2
        rw [h2] at hn
        exact List.eq_nil_of_length_eq_zero hn.symm
      · refine .inr ⟨b, cells, ee, h1, h2.1, by have := h2.2.1; simp only at this ⊢; rw [← hn]; exact this, fun r' hr' => ?_, by have := h2.2.2.2.1; simp only at this ⊢; omega, fun p q r' a' hp hq => ?_⟩
        · obtain ⟨p, hp⟩ := List.mem_iff_getElem?.1 hr'
          have hlt : p < rows.length := by rw [hn]; exact (List.getElem?_eq_some_iff.1 hp).1
          rw [← (hr p rows[p] r' (List.getElem?_eq_getElem hlt) hp).1]
          exact h2.2.2.1 _ (List.getElem_mem hlt)
        · have hlt : p < rows.length := by rw [hn]; exact (List.getElem?_eq_some_iff.1 hp).1
          obtain ⟨hl, hc⟩ := hr p rows[p] r' (List.getElem?_eq_getElem hlt) hp
          have hql : q < rows[p].length := by rw [hl]; exact (List.getElem?_eq_some_iff.1 hq).1
          obtain ⟨u, hu, hrel⟩ := h2.2.2.2.2 p q rows[p] rows[p][q] (List.getElem?_eq_getElem hlt) (List.getElem?_eq_getElem hql)
          refine ⟨u, hu, ?_⟩
          have hrel : Rel (live N β σ) w β u rows[p][q] := hrel
          exact sub ((hc q _ a' (List.getElem?_eq_getElem hql) hq).sound hρ hrel)
    · rw [upd_ne _ _ e] at hj
      rcases H.blk j x hj with h0 | ⟨b, cells, ee, h1, h2⟩
      · exact .inl h0
      · exact .inr ⟨b, cells, ee, h1, h2.1, h2.2.1, h2.2.2.1, h2.2.2.2.1, fun p q r a hp hq => let ⟨u, hu, hr⟩ := h2.2.2.2.2 p q r a hp hq; ⟨u, hu, sub hr⟩⟩
  · by_cases e : j = i
    · subst e; rw [upd_same] at hj; cases hj
    · rw [upd_ne _ _ e] at hj
      obtain ⟨b, ms, cl, h1, h2⟩ := H.map j es wr' hj
      exact ⟨b, ms, cl, h1, h2.1, h2.2.1, fun p e m hp hm => ⟨sub (h2.2.2 p e m hp hm).1, sub (h2.2.2 p e m hp hm).2⟩⟩
theorem Wn.sound {id : Nat} {e : Ending} {w' : World} {us : List Nat} {ρ : List (Nat × Nat)} {r r2 : AEnd} {σ' σ2 : Hp} (hN : Aw N (own β σ) w) (h : Wn id r σ' ρ us r2 σ2) : ∀ {β' : Nat → Option Nat} {F' : Nat → Prop}, (∀ p ∈ ρ, ∀ q, q < 16 → p.1 ≠ id + q) → (∀ p ∈ ρ, ∀ b, β' p.1 = some b → β' p.2 = some b) → (∀ i, i < 16 → i ∉ us → F' (id + i)) →
    Leaves N β σ w e w' β' σ' F' r → ∃ β2, Leaves N β σ w e w' β2 σ2 (fun j => F' j ∧ ¬ (id ≤ j ∧ j < id + 16)) r2 := by
  induction h with
  | done r σ' ρ us =>
    intro β' F' hρ0 hρ hF h
    exact ⟨β', h.1, ⟨fun i hi => h.2.1.dom i hi.1, h.2.1.off, h.2.1.inj, h.2.1.blk, h.2.1.map, h.2.1.lp, h.2.1.df⟩, h.2.2.1, h.2.2.2.1, h.2.2.2.2⟩
  | less r σ' ρ us σ1 r2 σ2 hl h2 ih => exact fun hρ0 hρ hF h => ih hρ0 hρ hF (h.less hl)
  | move r σ' ρ us j i x r2 σ2 hx hi hu hj h2 ih =>
    intro β' F' hρ0 hρ hF h
    have hne : j ≠ id + i := hj i hi
    have hFi := hF i hi hu
    have hβi := (h.2.1.dom _ hFi).1
    have hρ0' : ∀ p ∈ (j, id + i) :: ρ, ∀ q, q < 16 → p.1 ≠ id + q := fun p hp => by
      rcases List.mem_cons.1 hp with rfl | hp
      · exact hj
      · exact hρ0 p hp
    cases hb : β' j with
    | some b =>
      have hm := h.move hN hx hb hFi hne
      obtain ⟨β2, hk⟩ := ih (β' := upd β' (id + i) (some b)) (F' := fun q => F' q ∧ q ≠ id + i) hρ0' (fun p hp b' hb' => by
        rcases List.mem_cons.1 hp with rfl | hp
        · simp only at hb' ⊢
          rw [upd_ne _ _ hne, hb] at hb'
          cases hb'; rw [upd_same]
        · by_cases e1 : p.1 = id + i
          · exact absurd e1 (hρ0 p hp i hi)
          · rw [upd_ne _ _ e1] at hb'
            have := hρ p hp b' hb'
            by_cases e2 : p.2 = id + i
            · rw [e2] at this; rw [hβi] at this; cases this
            · rw [upd_ne _ _ e2]; exact this) (fun q hq hqu => ⟨hF q hq (fun h => hqu (List.mem_cons_of_mem _ h)), fun e => hqu (by rw [show q = i by omega]; exact List.mem_cons_self)⟩) hm
      exact ⟨β2, hk.1, ⟨fun q hq => hk.2.1.dom q ⟨⟨hq.1, fun e => hq.2 ⟨by omega, by omega⟩⟩, hq.2⟩, hk.2.1.off, hk.2.1.inj, hk.2.1.blk, hk.2.1.map, hk.2.1.lp, hk.2.1.df⟩, hk.2.2.1, hk.2.2.2.1, hk.2.2.2.2⟩
    | none =>
      obtain ⟨q1, q2, q3, q4, q5⟩ := h
      cases x with
      | m es wr => obtain ⟨b, _, _, h1, _⟩ := q2.map j es wr hx; rw [hb] at h1; cases h1
      | lp L fr S st pe wr => obtain ⟨b, _, _, h1, _⟩ := q2.lp j _ _ _ _ _ _ hx; rw [hb] at h1; cases h1
      | df o wr => obtain ⟨b, h1, _⟩ := q2.df j _ _ hx; rw [hb] at h1; cases h1
      | c y =>
        obtain ⟨k, rows, wr, cl⟩ := y
        have hrows : rows = [] := by
          rcases q2.blk j _ hx with ⟨_, h2⟩ | ⟨b, _, _, h1, _⟩
          · exact h2
          · rw [hb] at h1; cases h1
        subst hrows
        have R : SRel N w (own β σ) β [] β' (fun _ => .tp []) σ' F' { tmps := #[], defers := [] } w' := ⟨q2, fun t => .tp #[] [] rfl (fun i u z h _ => by simp at h), q4, q5, hN, rfl, q1⟩
        obtain ⟨R1, up1⟩ := R.less (σ' := upd σ' j none) (fun q x hq => by
          by_cases e : q = j
          · subst e; simp at hq
          · rw [upd_ne _ _ e] at hq; exact ⟨x, hq, .refl x⟩)
        obtain ⟨R2, up2⟩ := R1.imagine (id + i) hFi k cl
        obtain ⟨R3, up3⟩ := R2.less (σ' := upd (upd σ' j none) (id + i) (some (.c ⟨k, [], wr, cl⟩))) (fun q x hq => by
          by_cases e : q = id + i
          · subst e
            rw [upd_same] at hq ⊢
            cases hq
            exact ⟨_, rfl, .c _ _ _ _ _ (fun _ => rfl)⟩
          · rw [upd_ne _ _ e] at hq ⊢; exact ⟨x, hq, .refl x⟩)
        obtain ⟨β2, hk⟩ := ih (β' := β') (F' := fun q => F' q ∧ q ≠ id + i) hρ0' (fun p hp b' hb' => by
          rcases List.mem_cons.1 hp with rfl | hp
          · simp only at hb'; rw [hb] at hb'; cases hb'
          · exact hρ p hp b' hb') (fun q hq hqu => ⟨hF q hq (fun h => hqu (List.mem_cons_of_mem _ h)), fun e => hqu (by rw [show q = i by omega]; exact List.mem_cons_self)⟩)
          ⟨q1, R3.heap, by cases e <;> cases r <;> first | exact q3.elim | exact up3 (up2 (up1 q3)) | exact q3, R3.frame, R3.old⟩
        exact ⟨β2, hk.1, ⟨fun q hq => hk.2.1.dom q ⟨⟨hq.1, fun e => hq.2 ⟨by omega, by omega⟩⟩, hq.2⟩, hk.2.1.off, hk.2.1.inj, hk.2.1.blk, hk.2.1.map, hk.2.1.lp, hk.2.1.df⟩, hk.2.2.1, hk.2.2.2.1, hk.2.2.2.2⟩
  | cells r σ' ρ us i k rows rows' wr r2 σ2 hx hn hr h2 ih =>
    intro β' F' hρ0 hρ hF h
    obtain ⟨g1, g2⟩ := h.2.1.cells' hρ hx hn hr
    refine ih hρ0 hρ hF ⟨h.1, g1, ?_, h.2.2.2.1, fun b hb => h.2.2.2.2 b ?_⟩
    · obtain ⟨_, _, h3, _, _⟩ := h
      cases e <;> cases r <;> first | exact h3.elim | exact h3.sub (fun b hb => (g2 b).1 hb) | exact h3
    · obtain ⟨j, x, a1, a2, a3⟩ := hb
      by_cases e : j = i
      · subst e; rw [upd_same] at a1; cases a1; exact ⟨j, _, hx, a2, a3⟩
      · rw [upd_ne _ _ e] at a1; exact ⟨j, x, a1, a2, a3⟩
  | ret v v' σ' ρ us r2 σ2 hr h2 ih =>
    intro β' F' hρ0 hρ hF h
    refine ih hρ0 hρ hF ⟨h.1, h.2.1, ?_, h.2.2.2⟩
    obtain ⟨_, _, h3, _, _⟩ := h
    cases e <;> first | exact hr.sound hρ h3 | exact h3.elim
theorem conW_of {f : FuncId} {args : List AV} {pre : List (Nat × Ob)} {id : Nat} {r : AEnd} {wr : Wr} (hgo : goFn P f = true) (h : ∀ (σ : Hp) (n : Nat), (∀ p ∈ pre, σ p.1 = some p.2) → id + 16 ≤ n → ConH P f args σ n (fun r' σ' _ => Wn id r' σ' [] [] r (applyW σ wr))) : ConW P f args pre id r wr := by
  refine ⟨hgo, fun N β σ F w vs hpre hid T hT hF hN H hargs => ?_⟩
  have H' : HRel N β σ (Fn T F T) w := ⟨fun i hi => H.dom i (hi.elim (hF i) (fun h => h.1)), H.off, H.inj, H.blk, H.map, H.lp, H.df⟩
  refine ((h σ T hpre hT).2 N T F β w vs (Nat.le_refl _) hN H' hargs).mono ?_
  rintro e w' ⟨β', r', σ', n', hw, hn, hl⟩
  obtain ⟨β2, h2⟩ := hw.sound hN (fun p hp => by cases hp) (fun p hp => by cases hp) (fun i hi _ => Or.inr ⟨hid _ (by omega) (by omega), by omega⟩) hl
  refine ⟨β2, n', hn, h2.1, ⟨fun i hi => h2.2.1.dom i ⟨?_, hi.2.1⟩, h2.2.1.off, h2.2.1.inj, h2.2.1.blk, h2.2.1.map, h2.2.1.lp, h2.2.1.df⟩, h2.2.2.1, h2.2.2.2.1, h2.2.2.2.2⟩
  rcases hi.2.2 with h | h
  · exact .inr ⟨hi.1, h⟩
  · exact .inl h
end
end Go.Proofs.YtodoejfkjimeaaaGreatDoor.Am

set_option linter.unusedSimpArgs false
set_option linter.unusedVariables false
namespace Go.Proofs.YtodoejfkjimeaaaGreatDoor.Am
open Go Go.RowKit

def resSlots : List RV → List Nat
  | [] => []
  | .t i :: l => i :: resSlots l
  | .c i _ :: l => i :: resSlots l
end Go.Proofs.YtodoejfkjimeaaaGreatDoor.Am

set_option linter.unusedSimpArgs false
set_option linter.unusedVariables false
namespace Go.Proofs.YtodoejfkjimeaaaGreatDoor.Am
open Go Go.RowKit

theorem bindP_congr {o o' : Option AV} {K : AV → Prop} (h : o = o') : bindP o K = bindP o' K := by rw [h]
theorem bindS_congr {o o' : Option (AV × Wr)} {σ : Hp} {n : Nat} {K : AV → Hp → Nat → Prop} (h : o = o') : bindS o σ n K = bindS o' σ n K := by rw [h]
theorem bindH_congr {o o' : Option (AV × Wr)} {K : AV → Wr → Prop} (h : o = o') : bindH o K = bindH o' K := by rw [h]
theorem CALL_congr {P : Program} {f f' : AV} {args args' : List AV} {σ : Hp} {n : Nat} {K : AEnd → Hp → Nat → Prop} (h : f = f') (h' : args = args') : CALL P f args σ n K = CALL P f' args' σ n K := by rw [h, h']
theorem callD_congr {P : Program} {f f' : AV} {args args' : List AV} {σ σ' : Hp} {n : Nat} {K : AEnd → Wr → List Nat → Prop} (h : f = f') (h' : args = args') (h2 : σ = σ') : callD P f args σ n K = callD P f' args' σ' n K := by rw [h, h', h2]
theorem LOOP_congr {body : (List AV → Hp → Nat → Prop) → List AV → Hp → Nat → Prop} {s s' : List AV} {σ : Hp} {n : Nat} (h : s = s') : LOOP body s σ n = LOOP body s' σ n := by rw [h]
theorem COND_congr {c c' : AV} {A B : Prop} (h : c = c') : COND c A B = COND c' A B := by rw [h]
theorem guardP_congr {g g' : AV} {want : Bool} {o : Option AV} {K : AV → Prop} (h : g = g') : guardP g want o K = guardP g' want o K := by rw [h]
theorem guardK_congr {g g' : AV} {want : Bool} {e : (AV → Hp → Nat → Prop) → Prop} {σ : Hp} {n : Nat} {K : AV → Hp → Nat → Prop} (h : g = g') : guardK g want e σ n K = guardK g' want e σ n K := by rw [h]
theorem guardD_congr {g g' : AV} {want : Bool} {e : (AV → Wr → List Nat → Prop) → Prop} {K : AV → Wr → List Nat → Prop} (h : g = g') : guardD g want e K = guardD g' want e K := by rw [h]
theorem PAN_congr {x x' : AV} {K : Value → Prop} (h : x = x') : PAN x K = PAN x' K := by rw [h]
theorem onEnd_congr {r r' : AEnd} {K : AV → Prop} {Kp : Value → Prop} (h : r = r') : onEnd r K Kp = onEnd r' K Kp := by rw [h]
attribute [congr] bindP_congr bindS_congr bindH_congr CALL_congr callD_congr LOOP_congr COND_congr guardP_congr guardK_congr guardD_congr PAN_congr onEnd_congr

theorem bindP_some (v : AV) (K : AV → Prop) : bindP (some v) K = K v := rfl
theorem bindS_some (v : AV) (wr : Wr) (σ : Hp) (n : Nat) (K : AV → Hp → Nat → Prop) : bindS (some (v, wr)) σ n K = K v (applyW σ wr) (n + 16) := rfl
theorem bindH_some (v : AV) (wr : Wr) (K : AV → Wr → Prop) : bindH (some (v, wr)) K = K v wr := rfl
theorem onEnd_ret (v : AV) (K : AV → Prop) (Kp : Value → Prop) : onEnd (.ret v) K Kp = K v := id rfl
theorem onEnd_pan (x : Value) (K : AV → Prop) (Kp : Value → Prop) : onEnd (.pan x) K Kp = Kp x := id rfl
theorem onEnd_ite {c : Prop} [Decidable c] (a b : AEnd) (K : AV → Prop) (Kp : Value → Prop) : onEnd (if c then a else b) K Kp = ((c → onEnd a K Kp) ∧ (¬ c → onEnd b K Kp)) := by
  by_cases h : c <;> simp [h]
theorem onEnd_cond {c : Bool} (a b : AEnd) (K : AV → Prop) (Kp : Value → Prop) : onEnd (cond c a b) K Kp = ((c = true → onEnd a K Kp) ∧ (c = false → onEnd b K Kp)) := by
  cases c <;> simp
theorem PAN_iface (t : TypeId) (v : Value) (K : Value → Prop) : PAN (.sc (.iface t v)) K = K (.iface t v) := rfl
theorem COND_bool (t : Bool) (A B : Prop) : COND (.sc (.bool t)) A B = ((t = true → A) ∧ (t = false → B)) := rfl
theorem COND_bo (A B : Prop) : COND .bo A B = (A ∧ B) := rfl
theorem COND_true (A B : Prop) : COND (.sc (.bool true)) A B = A := by simp [COND]
theorem COND_false (A B : Prop) : COND (.sc (.bool false)) A B = B := by simp [COND]
theorem guardP_on (w : Bool) (o : Option AV) (K : AV → Prop) : guardP (.sc (.bool w)) w o K = bindP o K := by
  refine propext ⟨fun h => ?_, fun h => ⟨?_⟩⟩
  · obtain ⟨v, hv, h⟩ := h.h
    simp only [beq_self_eq_true, cond_true] at h
    rw [hv rfl]; exact h
  · unfold bindP at h
    split at h
    · rename_i v; exact ⟨v, fun _ => rfl, by simpa using h⟩
    · exact h.elim
theorem guardP_t (o : Option AV) (K : AV → Prop) : guardP (.sc (.bool true)) false o K = K (.tp []) :=
  propext ⟨fun h => (by obtain ⟨v, _, h⟩ := h.h; exact h), fun h => ⟨.any, (fun h => by cases h), h⟩⟩
theorem guardP_f (o : Option AV) (K : AV → Prop) : guardP (.sc (.bool false)) true o K = K (.tp []) :=
  propext ⟨fun h => (by obtain ⟨v, _, h⟩ := h.h; exact h), fun h => ⟨.any, (fun h => by cases h), h⟩⟩
theorem guardP_none (w : Bool) (o : Option AV) (K : AV → Prop) : guardP (.tp []) w o K = K (.tp []) := propext ⟨fun h => h.h, fun h => ⟨h⟩⟩
theorem guardP_if (b w : Bool) (o : Option AV) (K : AV → Prop) : guardP (.sc (.bool b)) w o K = ((b = w → bindP o K) ∧ (b = !w → K (.tp []))) := by
  cases b <;> cases w <;> simp [guardP_on, guardP_t, guardP_f]
theorem guardK_on (w : Bool) (e : (AV → Hp → Nat → Prop) → Prop) (σ : Hp) (n : Nat) (K : AV → Hp → Nat → Prop) : guardK (.sc (.bool w)) w e σ n K = e K := by
  refine propext ⟨fun h => ?_, fun h => ⟨?_⟩⟩
  · have := h.h; simpa [guardK'] using this
  · simpa [guardK'] using h
theorem guardK_t (e : (AV → Hp → Nat → Prop) → Prop) (σ : Hp) (n : Nat) (K : AV → Hp → Nat → Prop) : guardK (.sc (.bool true)) false e σ n K = K (.tp []) σ n := propext ⟨fun h => h.h, fun h => ⟨h⟩⟩
theorem guardK_f (e : (AV → Hp → Nat → Prop) → Prop) (σ : Hp) (n : Nat) (K : AV → Hp → Nat → Prop) : guardK (.sc (.bool false)) true e σ n K = K (.tp []) σ n := propext ⟨fun h => h.h, fun h => ⟨h⟩⟩
theorem guardK_none (w : Bool) (e : (AV → Hp → Nat → Prop) → Prop) (σ : Hp) (n : Nat) (K : AV → Hp → Nat → Prop) : guardK (.tp []) w e σ n K = K (.tp []) σ n := propext ⟨fun h => h.h, fun h => ⟨h⟩⟩
theorem guardK_if (b w : Bool) (e : (AV → Hp → Nat → Prop) → Prop) (σ : Hp) (n : Nat) (K : AV → Hp → Nat → Prop) : guardK (.sc (.bool b)) w e σ n K = ((b = w → e K) ∧ (b = !w → K (.tp []) σ n)) := by
  cases b <;> cases w <;> simp [guardK_on, guardK_t, guardK_f]
theorem guardD_on (w : Bool) (e : (AV → Wr → List Nat → Prop) → Prop) (K : AV → Wr → List Nat → Prop) : guardD (.sc (.bool w)) w e K = e K := by
  refine propext ⟨fun h => ?_, fun h => ⟨?_⟩⟩
  · have := h.h; simpa [guardD'] using this
  · simpa [guardD'] using h
theorem guardD_t (e : (AV → Wr → List Nat → Prop) → Prop) (K : AV → Wr → List Nat → Prop) : guardD (.sc (.bool true)) false e K = K (.tp []) [] [] := propext ⟨fun h => h.h, fun h => ⟨h⟩⟩
theorem guardD_f (e : (AV → Wr → List Nat → Prop) → Prop) (K : AV → Wr → List Nat → Prop) : guardD (.sc (.bool false)) true e K = K (.tp []) [] [] := propext ⟨fun h => h.h, fun h => ⟨h⟩⟩
theorem guardD_none (w : Bool) (e : (AV → Wr → List Nat → Prop) → Prop) (K : AV → Wr → List Nat → Prop) : guardD (.tp []) w e K = K (.tp []) [] [] := propext ⟨fun h => h.h, fun h => ⟨h⟩⟩
theorem guardD_if (b w : Bool) (e : (AV → Wr → List Nat → Prop) → Prop) (K : AV → Wr → List Nat → Prop) : guardD (.sc (.bool b)) w e K = ((b = w → e K) ∧ (b = !w → K (.tp []) [] [])) := by
  cases b <;> cases w <;> simp [guardD_on, guardD_t, guardD_f]
theorem beqI (a b : Int) : (a == b) = decide (a = b) := by by_cases h : a = b <;> simp [h]
theorem beqL (a b : List UInt8) : (a == b) = decide (a = b) := by by_cases h : a = b <;> simp [h]
theorem beqB (a b : Bool) : (a == b) = decide (a = b) := by cases a <;> cases b <;> rfl
theorem COND_decide (p : Prop) [Decidable p] (A B : Prop) : COND (.sc (.bool (decide p))) A B = ((p → A) ∧ (¬ p → B)) := by simp [COND]
theorem COND_not (b : Bool) (A B : Prop) : COND (.sc (.bool (!b))) A B = COND (.sc (.bool b)) B A := by cases b <;> simp [COND]
theorem guardP_decT (p : Prop) [Decidable p] (o : Option AV) (K : AV → Prop) : guardP (.sc (.bool (decide p))) true o K = ((p → bindP o K) ∧ (¬ p → K (.tp []))) := by
  simp [guardP_if]
theorem guardP_decF (p : Prop) [Decidable p] (o : Option AV) (K : AV → Prop) : guardP (.sc (.bool (decide p))) false o K = ((¬ p → bindP o K) ∧ (p → K (.tp []))) := by
  simp [guardP_if]
theorem guardP_notT (b : Bool) (o : Option AV) (K : AV → Prop) : guardP (.sc (.bool (!b))) true o K = guardP (.sc (.bool b)) false o K := by
  cases b <;> simp [guardP_on, guardP_f, guardP_t]
theorem guardP_notF (b : Bool) (o : Option AV) (K : AV → Prop) : guardP (.sc (.bool (!b))) false o K = guardP (.sc (.bool b)) true o K := by
  cases b <;> simp [guardP_on, guardP_f, guardP_t]
theorem guardK_decT (p : Prop) [Decidable p] (e : (AV → Hp → Nat → Prop) → Prop) (σ : Hp) (n : Nat) (K : AV → Hp → Nat → Prop) : guardK (.sc (.bool (decide p))) true e σ n K = ((p → e K) ∧ (¬ p → K (.tp []) σ n)) := by
  simp [guardK_if]
theorem guardK_decF (p : Prop) [Decidable p] (e : (AV → Hp → Nat → Prop) → Prop) (σ : Hp) (n : Nat) (K : AV → Hp → Nat → Prop) : guardK (.sc (.bool (decide p))) false e σ n K = ((¬ p → e K) ∧ (p → K (.tp []) σ n)) := by
  simp [guardK_if]
theorem guardK_notT (b : Bool) (e : (AV → Hp → Nat → Prop) → Prop) (σ : Hp) (n : Nat) (K : AV → Hp → Nat → Prop) : guardK (.sc (.bool (!b))) true e σ n K = guardK (.sc (.bool b)) false e σ n K := by
  cases b <;> simp [guardK_on, guardK_f, guardK_t]
theorem guardK_notF (b : Bool) (e : (AV → Hp → Nat → Prop) → Prop) (σ : Hp) (n : Nat) (K : AV → Hp → Nat → Prop) : guardK (.sc (.bool (!b))) false e σ n K = guardK (.sc (.bool b)) true e σ n K := by
  cases b <;> simp [guardK_on, guardK_f, guardK_t]
theorem COND_bif (b : Bool) (x y : AV) (A B : Prop) : COND (bif b then x else y) A B = ((b = true → COND x A B) ∧ (b = false → COND y A B)) := by cases b <;> simp
theorem COND_bifd (p : Prop) [Decidable p] (x y : AV) (A B : Prop) : COND (bif decide p then x else y) A B = ((p → COND x A B) ∧ (¬ p → COND y A B)) := by by_cases h : p <;> simp [h]
theorem JOIN_eq (K : List AV → Hp → Nat → Prop) (F : (List AV → Hp → Nat → Prop) → Prop) : JOIN K F = F K := propext ⟨fun h => h.h, fun h => ⟨h⟩⟩
theorem applyW_nil (σ : Hp) : applyW σ [] = σ := rfl
theorem applyW_cons (σ : Hp) (i : Nat) (x : Option Ob) (l : Wr) : applyW σ ((i, x) :: l) = applyW (upd σ i x) l := rfl
theorem upd_is {σ : Hp} {i j : Nat} {x : Option Ob} (h : j = i) : upd σ i x j = x := by subst h; simp [upd]
theorem upd_not {σ : Hp} {i j : Nat} {x : Option Ob} (h : j ≠ i) : upd σ i x j = σ j := by simp [upd, h]
theorem brwL_nil (σ : Hp) (d : Nat) : brwL σ d [] = some ([], []) := rfl
theorem brwL_cons (σ : Hp) (d : Nat) (a : AV) (l : List AV) : brwL σ d (a :: l) = match brw σ d a, brwL σ d l with
  | some (c, I), some (cs, J) => some (c :: cs, I ++ J)
  | _, _ => none := rfl
theorem brw_ag (σ : Hp) (d : Nat) (l : List AV) : brw σ (d + 1) (.ag l) = (brwL σ d l).map fun p => (.ag p.1, p.2) := by cases l <;> rfl
theorem brw_tp (σ : Hp) (d : Nat) (l : List AV) : brw σ (d + 1) (.tp l) = (brwL σ d l).map fun p => (.tp p.1, p.2) := by cases l <;> rfl
theorem brw_fn (σ : Hp) (d f : Nat) (l : List AV) : brw σ (d + 1) (.fn f l) = (brwL σ d l).map fun p => (.fn f p.1, p.2) := by cases l <;> rfl
theorem brw_sc (σ : Hp) (d : Nat) (v : Value) : brw σ d (.sc v) = some (.sc v, []) := by cases d <;> rfl
theorem brw_s (σ : Hp) (d : Nat) (l : List UInt8) : brw σ d (.s l) = some (.s l, []) := by cases d <;> rfl
theorem brw_em (σ : Hp) (d : Nat) : brw σ d .em = some (.tr [], []) := by cases d <;> rfl
theorem brw_tr (σ : Hp) (d : Nat) (rows : List (List AV)) : brw σ d (.tr rows) = some (.tr rows, []) := by cases d <;> rfl
theorem brw_fp (σ : Hp) (d : Nat) (l : List AV) : brw σ d (.fp l) = some (.fp l, []) := by cases d <;> rfl
theorem RC_ret {v c : AV} {I : List Nat} {σ : Hp} {n : Nat} {r0 : AEnd} (h : brw σ 6 v = some (c, I)) (hr : r0 = .ret c) : RC r0 (.ret v) σ n := by
  simp only [RC, h]; exact hr
theorem RC_pan {x : Value} {σ : Hp} {n : Nat} {r0 : AEnd} (hr : r0 = .pan x) : RC r0 (.pan x) σ n := hr
section
variable {P : Program}
def wrOf (r : AEnd) (σ : Hp) (I : List Nat) : Wr := match r with
  | .ret v => if scal v = true then [] else frz σ I
  | .pan _ => []
theorem CALL_con {g : FuncId} {caps args cs : List AV} {I : List Nat} {r : AEnd} {σ : Hp} {n : Nat} {K : AEnd → Hp → Nat → Prop} (h : Con P g cs r) (hb : brwL σ 6 (args ++ caps) = some (cs, I))
    (hk : K r (applyW σ (wrOf r σ I)) n) : CALL P (.fn g caps) args σ n K := .c ⟨cs, I, r, hb, h, by cases r <;> exact hk⟩
theorem CALL_con0 {g : FuncId} {caps args cs : List AV} {r : AEnd} {σ : Hp} {n : Nat} {K : AEnd → Hp → Nat → Prop} (h : Con P g cs r) (hb : brwL σ 6 (args ++ caps) = some (cs, []))
    (hk : K r σ n) : CALL P (.fn g caps) args σ n K := by
  refine CALL_con h hb ?_
  cases r with
  | ret v => by_cases hs : scal v = true <;> simpa [wrOf, hs, frz, applyW] using hk
  | pan x => simpa [wrOf, applyW] using hk
theorem LOOP_up {body : (List AV → Hp → Nat → Prop) → List AV → Hp → Nat → Prop} {s : List AV} {σ : Hp} {n : Nat} (N : Nat) (S : Nat → List AV → Hp → Nat → Prop) (h0 : Weak (S 0) s σ n)
    (hb : ∀ i K s' σ' n', n ≤ n' → i ≤ N → s'.length = s.length → S i s' σ' n' → (∀ s2 σ2 n2, i < N → Weak (S (i + 1)) s2 σ2 n2 → K s2 σ2 n2) → body K s' σ' n') : LOOP body s σ n := by
  refine ⟨fun m s σ n => m ≤ N ∧ S (N - m) s σ n, ⟨N, ?_⟩, fun m s' σ' n' hn hl h => ?_⟩
  · obtain ⟨s', σ', n', a, b, c, d⟩ := h0
    exact ⟨s', σ', n', a, b, c, Nat.le_refl _, by simpa using d⟩
  · refine hb (N - m) _ s' σ' n' hn (by omega) hl h.2 (fun s2 σ2 n2 hi hw => ?_)
    obtain ⟨s3, σ3, n3, a, b, c, d⟩ := hw
    refine ⟨m - 1, by omega, s3, σ3, n3, a, b, c, by omega, ?_⟩
    rw [show N - (m - 1) = N - m + 1 by omega]; exact d
theorem LOOP_still {body : (List AV → Hp → Nat → Prop) → List AV → Hp → Nat → Prop} {s : List AV} {σ : Hp} {n : Nat} (N : Nat) (S : Nat → List AV → Prop) (h0 : S 0 s)
    (hb : ∀ i K s' n', n ≤ n' → i ≤ N → s'.length = s.length → S i s' → (∀ s2 n2, n' ≤ n2 → i < N → S (i + 1) s2 → K s2 σ n2) → body K s' σ n') : LOOP body s σ n := by
  refine LOOP_up N (fun i s' σ' n' => S i s' ∧ σ' = σ) (.refl ⟨h0, rfl⟩) ?_
  rintro i K s' σ' n' hn hi hl ⟨h, rfl⟩ hK
  exact hb i K s' n' hn hi hl h (fun s2 n2 _ h1 h2 => hK s2 _ n2 h1 (.refl ⟨h2, rfl⟩))
theorem LOOP_list {α : Type} {body : (List AV → Hp → Nat → Prop) → List AV → Hp → Nat → Prop} {s : List AV} {σ : Hp} {n : Nat} (xs : List α) (S : Nat → List AV → Prop) (h0 : S 0 s)
    (h1 : ∀ i x K s' n', xs[i]? = some x → i < xs.length → (i : Int) < xs.length → n ≤ n' → S i s' → (∀ s2 n2, n' ≤ n2 → S (i + 1) s2 → K s2 σ n2) → body K s' σ n')
    (h2 : ∀ K s' n', n ≤ n' → S xs.length s' → body K s' σ n') : LOOP body s σ n := by
  refine LOOP_still xs.length S h0 (fun i K s' n' hn hi _ hs hK => ?_)
  rcases Nat.lt_or_ge i xs.length with h | h
  · exact h1 i xs[i] K s' n' (List.getElem?_eq_getElem h) h (by omega) hn hs (fun s2 n2 hn2 hs2 => hK s2 n2 hn2 h hs2)
  · have e : i = xs.length := by omega
    subst e
    exact h2 K s' n' hn hs
theorem LOOP_listM {α : Type} {body : (List AV → Hp → Nat → Prop) → List AV → Hp → Nat → Prop} {s : List AV} {σ : Hp} {n : Nat} (xs : List α) (S : Nat → List AV → Hp → Nat → Prop) (h0 : Weak (S 0) s σ n)
    (h1 : ∀ i x K s' σ' n', xs[i]? = some x → i < xs.length → (i : Int) < xs.length → n ≤ n' → S i s' σ' n' → (∀ s2 σ2 n2, Weak (S (i + 1)) s2 σ2 n2 → K s2 σ2 n2) → body K s' σ' n')
    (h2 : ∀ K s' σ' n', n ≤ n' → S xs.length s' σ' n' → body K s' σ' n') : LOOP body s σ n := by
  refine LOOP_up xs.length S h0 (fun i K s' σ' n' hn hi _ hs hK => ?_)
  rcases Nat.lt_or_ge i xs.length with h | h
  · exact h1 i xs[i] K s' σ' n' (List.getElem?_eq_getElem h) h (by omega) hn hs (fun s2 σ2 n2 hs2 => hK s2 σ2 n2 h hs2)
  · have e : i = xs.length := by omega
    subst e
    exact h2 K s' σ' n' hn hs
theorem all_take {α : Type} {p : α → Bool} {xs : List α} {i : Nat} {x : α} (hx : xs[i]? = some x) : (xs.take (i + 1)).all p = ((xs.take i).all p && p x) := by
  rw [List.take_add_one, List.all_append, hx]; simp
theorem any_take {α : Type} {p : α → Bool} {xs : List α} {i : Nat} {x : α} (hx : xs[i]? = some x) : (xs.take (i + 1)).any p = ((xs.take i).any p || p x) := by
  rw [List.take_add_one, List.any_append, hx]; simp
theorem all_not {α : Type} {p : α → Bool} {xs : List α} {i : Nat} {x : α} (hx : xs[i]? = some x) (h : p x = false) : xs.all p = false := by
  rw [List.all_eq_false]; exact ⟨x, List.mem_of_getElem? hx, by simp [h]⟩
theorem wrapI {n : Int} (h0 : -9223372036854775808 ≤ n) (h1 : n ≤ 9223372036854775807) : IntKind.i64.wrap n = n := by rw [IntKind.wrap_i64]; omega
theorem wrapB {n : Int} (h0 : 0 ≤ n) (h1 : n < 256) : IntKind.u8.wrap n = n := by rw [IntKind.wrap_u8]; omega
theorem aPick_b (t : Bool) (a b : AV) : aPick (.sc (.bool t)) a b = some (cond t a b) := rfl
theorem aMxn_max (k k' : IntKind) (a b : Int) : aMxn true (.sc (.int k a)) (.sc (.int k' b)) = some (.sc (.int k (if b > a then b else a))) := rfl
theorem aMxn_min (k k' : IntKind) (a b : Int) : aMxn false (.sc (.int k a)) (.sc (.int k' b)) = some (.sc (.int k (if b < a then b else a))) := rfl
attribute [go_sem] aMxn_max aMxn_min
theorem aFad_rf (off i k r c : Nat) : aFad off (.rf i k r c) = some (.rf i k r (c + off)) := rfl
theorem aFad_fp (off : Nat) (l : List AV) : aFad off (.fp l) = if off < l.length then some (.fp (l.drop off)) else none := rfl
theorem part_none (row : List AV) (c : Nat) : part row c none = row[c]? := rfl
theorem part_some (row : List AV) (c m : Nat) : part row c (some m) = if c + m ≤ row.length then some (.ag ((row.drop c).take m)) else none := rfl
theorem aFld_ag (m : Option Nat) (off : Nat) (l : List AV) : aFld m off (.ag l) = part l off m := rfl
theorem aIad_tr (k : Nat) (kd : IntKind) (n : Int) (rows : List (List AV)) : aIad k (.tr rows) (.sc (.int kd n)) = if 0 ≤ n then (match rows[n.toNat]? with | some row => if row.length = k then some (.fp row) else none | none => none) else none := rfl
theorem aIad_ow (k : Nat) (kd : IntKind) (n : Int) (j k' off len : Nat) : aIad k (.ow j k' off len) (.sc (.int kd n)) = if k' = k ∧ 0 ≤ n ∧ n < len then some (.rf j k (off + n.toNat) 0) else none := rfl
theorem aIstr_s (l : List UInt8) (kd : IntKind) (n : Int) : aIstr (.s l) (.sc (.int kd n)) = if 0 ≤ n then (match l[n.toNat]? with | some b => some (.sc (.int .u8 b.toNat)) | none => none) else none := rfl
theorem aIarr_ag (m : Option Nat) (k len : Nat) (l : List AV) (kd : IntKind) (n : Int) : aIarr m k len (.ag l) (.sc (.int kd n)) = if 0 ≤ n ∧ n < len then part l (n.toNat * k) m else none := rfl
theorem aUn_not (b : Bool) : aUn .not (.sc (.bool b)) = some (.sc (.bool (!b))) := rfl
theorem aUn_neg (k : IntKind) (n : Int) : aUn .neg (.sc (.int k n)) = some (.sc (.int k (k.wrap (0 - n)))) := rfl
theorem aCvi_int (k k' : IntKind) (n : Int) : aCvi k (.sc (.int k' n)) = some (.sc (.int k (k.wrap n))) := rfl
theorem aCvs_s (l : List UInt8) : aCvs (.s l) = some (.s l) := rfl
theorem aIdp_rf (k n id k' r c : Nat) (kk : IntKind) (j : Int) : aIdp k n (.rf id k' r c) (.sc (.int kk j)) = if 0 ≤ j ∧ j < n then some (.rf id k' r (c + j.toNat * k)) else none := rfl
attribute [go_sem] aIdp_rf
theorem aCvs_int (k : IntKind) (n : Int) : aCvs (.sc (.int k n)) = if 0 ≤ n ∧ n < 128 then some (.s [UInt8.ofNat n.toNat]) else none := rfl
attribute [go_sem] aCvs_int
theorem aLen_s (l : List UInt8) : aLen true (.s l) = some (.sc (.int .i64 l.length)) := rfl
theorem aLen_em : aLen false .em = some (.sc (.int .i64 0)) := rfl
theorem aLen_tr (rows : List (List AV)) : aLen false (.tr rows) = some (.sc (.int .i64 rows.length)) := rfl
theorem aLen_ow (i k off len : Nat) : aLen false (.ow i k off len) = some (.sc (.int .i64 len)) := rfl
theorem asI_int (k : IntKind) (n : Int) : asI (.sc (.int k n)) = some n := rfl
theorem aSlc_em (k : Nat) (lo hi mx : Option AV) : aSlc k .em lo hi mx = (match optI 0 lo, optI 0 hi, optI 0 mx with | some l, some h, some m => if l = 0 ∧ h = 0 ∧ m = 0 ∧ (mx.isSome = true → hi.isSome = true) then some .em else none | _, _, _ => none) := rfl
theorem aSlc_tr (k : Nat) (rows : List (List AV)) (lo hi : Option AV) : aSlc k (.tr rows) lo hi none = (match optI 0 lo, optI rows.length hi with | some l, some h => if rows.all (fun r => r.length == k) = true ∧ 0 ≤ l ∧ l ≤ h ∧ h ≤ rows.length then some (.tr ((rows.take h.toNat).drop l.toNat)) else none | _, _ => none) := by simp only [aSlc]; cases optI 0 lo <;> cases optI rows.length hi <;> rfl
theorem aSlc_ow (k j k' off len : Nat) (lo hi : Option AV) : aSlc k (.ow j k' off len) lo hi none = (match optI 0 lo, optI len hi with | some l, some h => if k' = k ∧ 0 ≤ l ∧ l ≤ h ∧ h ≤ len ∧ (l = 0 ∨ l < len) then some (.ow j k (off + l.toNat) (h.toNat - l.toNat)) else none | _, _ => none) := by simp only [aSlc]; cases optI 0 lo <;> cases optI len hi <;> rfl
theorem aSstr_s (s : List UInt8) (lo hi : Option AV) : aSstr (.s s) lo hi = (match optI 0 lo, optI s.length hi with | some l, some h => if 0 ≤ l ∧ l ≤ h ∧ h ≤ s.length then some (.s ((s.take h.toNat).drop l.toNat)) else none | _, _ => none) := rfl
theorem aExt_tp (l : List AV) (i : Nat) : aExt (.tp l) i = l[i]? := rfl
theorem aNck_rf (i k r c : Nat) : aNck (.rf i k r c) = some (.rf i k r c) := rfl
theorem aNck_rt (i k t : Nat) : aNck (.rt i k t) = some (.rt i k t) := rfl
theorem aFad_rt (off i k t : Nat) : aFad off (.rt i k t) = if off = 0 then some (.rt i k t) else some (.rf i k 0 off) := rfl
theorem aLd_rt (σ : Hp) (m : Option Nat) (i k t : Nat) : aLd σ m (.rt i k t) = aLd σ m (.rf i k 0 0) := rfl
theorem hSt_rt (σ : Hp) (m i k t : Nat) (v : AV) : hSt σ m (.rt i k t) v = hSt σ m (.rf i k 0 0) v := rfl
theorem hAps_em (σ : Hp) (id bytes : Nat) (l : List UInt8) : hAps σ id bytes .em (.s l) = if l.length * bytes ≤ 140737488355328 then (match l with | [] => some (.em, []) | _ :: _ => some (.ob id l.length, [(id, some (.c ⟨1, byteRows l, true, true⟩))])) else none := rfl
theorem hAps_ob (σ : Hp) (id bytes i len : Nat) (l : List UInt8) : hAps σ id bytes (.ob i len) (.s l) = (match σ i with | some (.c b) => if b.k = 1 ∧ b.wr = true ∧ b.cl = true ∧ b.rows.length = len ∧ (len + l.length) * bytes ≤ 140737488355328 ∧ i ≠ id ∧ 0 < len + l.length then some (.ob id (len + l.length), [(i, none), (id, some (.c ⟨1, b.rows ++ byteRows l, true, true⟩))]) else none | _ => none) := rfl
theorem leaf_rt (i k t : Nat) : leafok (.rt i k t) = true := rfl
theorem leaf_ob (i n : Nat) : leafok (.ob i n) = true := rfl
theorem cells_rt (i k t : Nat) : (AV.rt i k t).cells = some [.rt i k t] := rfl
theorem cells_ob (i n : Nat) : (AV.ob i n).cells = some [.ob i n] := rfl
theorem aNck_fp (l : List AV) : aNck (.fp l) = some (.fp l) := rfl
theorem aNck_fn (f : Nat) (l : List AV) : aNck (.fn f l) = some (.fn f l) := rfl
theorem aMki_sc (t : TypeId) (v : Value) : aMki t (.sc v) = some (.sc (.iface t v)) := rfl
theorem aTas_iface (t t' : TypeId) (z v : Value) : aTas t z (.sc (.iface t' v)) = if t' = t then some (.tp [ofV v, bb true]) else some (.tp [ofV z, bb false]) := rfl
theorem aTas_nil (t : TypeId) (z : Value) : aTas t z (.sc .nilIface) = some (.tp [ofV z, bb false]) := rfl
theorem aLd_rf (σ : Hp) (m : Option Nat) (i k r c : Nat) : aLd σ m (.rf i k r c) = (match σ i with | some (.c b) => if b.k = k then (match b.rows[r]? with | some row => part row c m | none => none) else none | _ => none) := rfl
theorem aLd_fp (σ : Hp) (m : Option Nat) (l : List AV) : aLd σ m (.fp l) = part l 0 m := rfl
theorem aEqs_ag (ks : List Nat) (neg : Bool) (l m : List AV) : aEqs ks neg (.ag l) (.ag m) = (eqK ks l m).map fun p => bb (if neg then !p else p) := rfl
theorem aEqb_b (neg p q : Bool) : aEqb neg (.sc (.bool p)) (.sc (.bool q)) = some (bb (if neg then !(p == q) else p == q)) := rfl
theorem aEqp_eq (neg : Bool) (x y : AV) : aEqp neg x y = (eqP x y).map fun p => bb (if neg then !p else p) := rfl
theorem eqP_nr (i k r c : Nat) : eqP (.sc (.pointer none)) (.rf i k r c) = some false := rfl
theorem eqP_rn (i k r c : Nat) : eqP (.rf i k r c) (.sc (.pointer none)) = some false := rfl
theorem eqP_nf (l : List AV) : eqP (.sc (.pointer none)) (.fp l) = some false := rfl
theorem eqP_fn (l : List AV) : eqP (.fp l) (.sc (.pointer none)) = some false := rfl
theorem eqP_nn : eqP (.sc (.pointer none)) (.sc (.pointer none)) = some true := rfl
theorem eqP_rr (i k r c i' k' r' c' : Nat) : eqP (.rf i k r c) (.rf i' k' r' c') = if i = i' ∧ k = k' ∧ c < k ∧ c' < k then some (r == r' && c == c') else none := rfl
theorem bin_add (k : IntKind) (a b : Int) : semBin .add (.sc (.int k a)) (.sc (.int k b)) = some (.sc (.int k (k.wrap (a + b)))) := by simp [semBin]
theorem bin_sub (k : IntKind) (a b : Int) : semBin .sub (.sc (.int k a)) (.sc (.int k b)) = some (.sc (.int k (k.wrap (a - b)))) := by simp [semBin]
theorem bin_mul (k : IntKind) (a b : Int) : semBin .mul (.sc (.int k a)) (.sc (.int k b)) = some (.sc (.int k (k.wrap (a * b)))) := by simp [semBin]
theorem bin_and (k : IntKind) (a b : Int) : semBin .and (.sc (.int k a)) (.sc (.int k b)) = some (.sc (.int k (bits .and k a b))) := by simp [semBin]
theorem bin_or (k : IntKind) (a b : Int) : semBin .or (.sc (.int k a)) (.sc (.int k b)) = some (.sc (.int k (bits .or k a b))) := by simp [semBin]
theorem bin_xor (k : IntKind) (a b : Int) : semBin .xor (.sc (.int k a)) (.sc (.int k b)) = some (.sc (.int k (bits .xor k a b))) := by simp [semBin]
theorem bin_andNot (k : IntKind) (a b : Int) : semBin .andNot (.sc (.int k a)) (.sc (.int k b)) = some (.sc (.int k (bits .andNot k a b))) := by simp [semBin]
theorem bin_quo (k : IntKind) (a b : Int) : semBin .quo (.sc (.int k a)) (.sc (.int k b)) = if b = 0 then none else some (.sc (.int k (k.wrap (a.tdiv b)))) := by simp [semBin]
theorem bin_rem (k : IntKind) (a b : Int) : semBin .rem (.sc (.int k a)) (.sc (.int k b)) = if b = 0 then none else some (.sc (.int k (a.tmod b))) := by simp [semBin]
theorem bin_eql (k : IntKind) (a b : Int) : semBin .eql (.sc (.int k a)) (.sc (.int k b)) = some (.sc (.bool (decide (a = b)))) := by simp [semBin, bb, beqI]
theorem bin_lss (k : IntKind) (a b : Int) : semBin .lss (.sc (.int k a)) (.sc (.int k b)) = some (.sc (.bool (decide (a < b)))) := by simp [semBin, bb, beqI]
theorem bin_leq (k : IntKind) (a b : Int) : semBin .leq (.sc (.int k a)) (.sc (.int k b)) = some (.sc (.bool (decide (a ≤ b)))) := by simp [semBin, bb, beqI]
theorem bin_gtr (k : IntKind) (a b : Int) : semBin .gtr (.sc (.int k a)) (.sc (.int k b)) = some (.sc (.bool (decide (b < a)))) := by simp [semBin, bb, beqI]
theorem bin_geq (k : IntKind) (a b : Int) : semBin .geq (.sc (.int k a)) (.sc (.int k b)) = some (.sc (.bool (decide (b ≤ a)))) := by simp [semBin, bb, beqI]
theorem bin_neq (k : IntKind) (a b : Int) : semBin .neq (.sc (.int k a)) (.sc (.int k b)) = some (.sc (.bool (!decide (a = b)))) := by simp [semBin, bb, bne, beqI]
theorem bin_shl (k k' : IntKind) (a b : Int) : semBin .shl (.sc (.int k a)) (.sc (.int k' b)) = if b < 0 then none else some (.sc (.int k (k.wrap (a * 2 ^ (min b.toNat k.bits))))) := rfl
theorem bin_shr (k k' : IntKind) (a b : Int) : semBin .shr (.sc (.int k a)) (.sc (.int k' b)) = if b < 0 then none else some (.sc (.int k (a.fdiv (2 ^ (min b.toNat k.bits))))) := rfl
theorem binS_add (a b : List UInt8) : semBin .add (.s a) (.s b) = if a.length + b.length ≤ 9223372036854775807 then some (.s (a ++ b)) else none := rfl
theorem binS_eql (a b : List UInt8) : semBin .eql (.s a) (.s b) = some (.sc (.bool (decide (a = b)))) := by simp [semBin, bb, beqL]
theorem binS_neq (a b : List UInt8) : semBin .neq (.s a) (.s b) = some (.sc (.bool (!decide (a = b)))) := by simp [semBin, bb, beqL]
theorem binS_lss (a b : List UInt8) : semBin .lss (.s a) (.s b) = some (.sc (.bool (Op.bytesLess a b))) := rfl
theorem binS_leq (a b : List UInt8) : semBin .leq (.s a) (.s b) = some (.sc (.bool (Op.bytesLess a b || (a == b)))) := rfl
theorem binS_gtr (a b : List UInt8) : semBin .gtr (.s a) (.s b) = some (.sc (.bool (!(Op.bytesLess a b || (a == b))))) := rfl
theorem binS_geq (a b : List UInt8) : semBin .geq (.s a) (.s b) = some (.sc (.bool (!(Op.bytesLess a b)))) := rfl
theorem rowsOf_em (σ : Hp) (k : Nat) : rowsOf σ k .em = some [] := rfl
theorem rowsOf_tr (σ : Hp) (k : Nat) (rows : List (List AV)) : rowsOf σ k (.tr rows) = if rows.all (fun r => r.length == k) = true then some rows else none := rfl
theorem rowsOf_ow (σ : Hp) (k i k' off len : Nat) : rowsOf σ k (.ow i k' off len) = if k' = k then (match σ i with | some (.c x) => if x.k = k ∧ x.cl = true ∧ off + len ≤ x.rows.length then some ((x.rows.drop off).take len) else none | _ => none) else none := rfl
theorem hSt_rf (σ : Hp) (m i k r c : Nat) (v : AV) : hSt σ m (.rf i k r c) v = (match σ i with | some (.c b) => if b.k = k ∧ b.wr = true then (match b.rows[r]?, v.cells with | some row, some l => if l.length = m ∧ c + m ≤ row.length ∧ l.all leafok = true then some (.tp [], [(i, some (.c ⟨k, b.rows.set r (splice row c l), true, b.cl && l.all clo⟩))]) else none | _, _ => none) else none | _ => none) := rfl
theorem aCvb_em (σ : Hp) : aCvb σ .em = some (.s []) := rfl
theorem bytesOf_map {α : Type} (f : α → Int) (l : List α) : bytesOf (l.map fun x => [.sc (.int .u8 (f x))]) = some (l.map f) := by
  induction l with
  | nil => rfl
  | cons x l ih => simp only [List.map_cons, bytesOf, ih]; rfl
theorem aCvb_all {σ : Hp} {i len : Nat} {α : Type} {f : α → Int} {l : List α} {w : Bool} (h : σ i = some (.c ⟨1, l.map fun x => [.sc (.int .u8 (f x))], w, true⟩)) (hl : l.length = len) (hb : len ≤ 9223372036854775807) :
    aCvb σ (.ow i 1 0 len) = some (.s (l.map fun x => UInt8.ofNat (f x).toNat)) := by
  subst hl
  have hr : rowsOf σ 1 (.ow i 1 0 l.length) = some (l.map fun x => [.sc (.int .u8 (f x))]) := by
    simp only [rowsOf, if_true, h]
    rw [if_pos ⟨trivial, trivial, by simp⟩, List.drop_zero, List.take_of_length_le (by simp)]
  unfold aCvb
  rw [hr]
  simp only [List.length_map]
  rw [if_pos hb, bytesOf_map, Option.map_some, List.map_map]; rfl
theorem aEqn_em (neg : Bool) : aEqn neg .em = some .bo := rfl
theorem aEqn_nil (neg : Bool) : aEqn neg (.tr []) = some .bo := rfl
theorem aEqn_cons (neg : Bool) (r : List AV) (rs : List (List AV)) : aEqn neg (.tr (r :: rs)) = some (.sc (.bool neg)) := rfl
theorem aEqn_ow0 (neg : Bool) (i k off : Nat) : aEqn neg (.ow i k off 0) = some .bo := rfl
theorem aEqn_ow (neg : Bool) (i k off n : Nat) : aEqn neg (.ow i k off (n + 1)) = some (.sc (.bool neg)) := rfl
def setOf (ks : List (List UInt8)) : List (AV × AV) := ks.map fun k => (.s k, .sc (.bool true))
theorem hMkm_set (id : Nat) : hMkm id = some (.mp id, [(id, some (.m (setOf []) true))]) := rfl
attribute [go_sem] hMkm_set
attribute [go_sem] aCvb_em aEqn_em aEqn_nil aEqn_cons aEqn_ow0 aEqn_ow COND_bo
theorem hApp_em (σ : Hp) (id k bytes : Nat) (y : AV) : hApp σ id k bytes .em y = (match rowsOf σ k y with | some news => if news.all (fun r => r.all leafok) = true then (if news.length * bytes ≤ 140737488355328 then (match news with | [] => some (.em, []) | _ :: _ => some (.ow id k 0 news.length, [(id, some (.c ⟨k, news, true, true⟩))])) else none) else none | none => none) := rfl
theorem hApp_ow (σ : Hp) (id k bytes i k' len : Nat) (y : AV) : hApp σ id k bytes (.ow i k' 0 len) y = (match rowsOf σ k y with | some news => if news.all (fun r => r.all leafok) = true then (match σ i with | some (.c b) => if k' = k ∧ b.k = k ∧ b.wr = true ∧ b.cl = true ∧ b.rows.length = len ∧ (len + news.length) * bytes ≤ 140737488355328 ∧ i ≠ id then some (.ow id k 0 (len + news.length), [(i, none), (id, some (.c ⟨k, b.rows ++ news, true, true⟩))]) else none | _ => none) else none | none => none) := rfl
theorem cells_bool (x : Bool) : (.sc (.bool x) : AV).cells = some [.sc (.bool x)] := rfl
theorem leaf_bool (x : Bool) : leafok (.sc (.bool x)) = true := rfl
theorem clo_bool (x : Bool) : clo (.sc (.bool x)) = true := rfl
theorem cells_int (k : IntKind) (x : Int) : (.sc (.int k x) : AV).cells = some [.sc (.int k x)] := rfl
theorem leaf_int (k : IntKind) (x : Int) : leafok (.sc (.int k x)) = true := rfl
theorem clo_int (k : IntKind) (x : Int) : clo (.sc (.int k x)) = true := rfl
theorem cells_iface (t : TypeId) (x : Value) : (.sc (.iface t x) : AV).cells = some [.sc (.iface t x)] := rfl
theorem leaf_iface (t : TypeId) (x : Value) : leafok (.sc (.iface t x)) = true := rfl
theorem clo_iface (t : TypeId) (x : Value) : clo (.sc (.iface t x)) = true := rfl
theorem cells_nilI : (.sc .nilIface : AV).cells = some [.sc .nilIface] := rfl
theorem leaf_nilI : leafok (.sc .nilIface) = true := rfl
theorem clo_nilI : clo (.sc .nilIface) = true := rfl
theorem cells_ptr (x : Option Addr) : (.sc (.pointer x) : AV).cells = some [.sc (.pointer x)] := rfl
theorem leaf_ptr (x : Option Addr) : leafok (.sc (.pointer x)) = true := rfl
theorem clo_ptr (x : Option Addr) : clo (.sc (.pointer x)) = true := rfl
theorem cells_s (x : List UInt8) : (.s x : AV).cells = some [.s x] := rfl
theorem leaf_s (x : List UInt8) : leafok (.s x) = true := rfl
theorem clo_s (x : List UInt8) : clo (.s x) = true := rfl
theorem cells_em : (.em : AV).cells = some [.em] := rfl
theorem leaf_em : leafok (.em) = true := rfl
theorem clo_em : clo (.em) = true := rfl
theorem cells_tr (x : List (List AV)) : (.tr x : AV).cells = some [.tr x] := rfl
theorem leaf_tr (x : List (List AV)) : leafok (.tr x) = true := rfl
theorem clo_tr (x : List (List AV)) : clo (.tr x) = true := rfl
theorem cells_ow (i k off len : Nat) : (.ow i k off len : AV).cells = some [.ow i k off len] := rfl
theorem leaf_ow (i k off len : Nat) : leafok (.ow i k off len) = true := rfl
theorem clo_ow (i k off len : Nat) : clo (.ow i k off len) = false := rfl
theorem cells_rf (i k r c : Nat) : (.rf i k r c : AV).cells = some [.rf i k r c] := rfl
theorem leaf_rf (i k r c : Nat) : leafok (.rf i k r c) = true := rfl
theorem clo_rf (i k r c : Nat) : clo (.rf i k r c) = false := rfl
theorem cells_mp (i : Nat) : (.mp i : AV).cells = some [.mp i] := rfl
theorem leaf_mp (i : Nat) : leafok (.mp i) = true := rfl
theorem clo_mp (i : Nat) : clo (.mp i) = false := rfl
theorem cells_fp (x : List AV) : (.fp x : AV).cells = some [.fp x] := rfl
theorem leaf_fp (x : List AV) : leafok (.fp x) = true := rfl
theorem clo_fp (x : List AV) : clo (.fp x) = true := rfl
theorem cells_fn (f : Nat) (x : List AV) : (.fn f x : AV).cells = some [.fn f x] := rfl
theorem leaf_fn (f : Nat) (x : List AV) : leafok (.fn f x) = true := rfl
theorem clo_fn (f : Nat) (x : List AV) : clo (.fn f x) = false := rfl
theorem cells_ag (x : List AV) : (.ag x : AV).cells = some x := rfl
end
attribute [go_sem] aNck_rt aFad_rt aLd_rt hSt_rt leaf_rt leaf_ob cells_rt cells_ob
attribute [go_sem] aPick_b aFad_rf aFad_fp part_none part_some aFld_ag aIad_tr aIad_ow aIstr_s aIarr_ag aUn_not aUn_neg aCvi_int aCvs_s aLen_s aLen_em aLen_tr aLen_ow asI_int aSlc_em aSlc_tr aSlc_ow aSstr_s aExt_tp aNck_rf aNck_fp aNck_fn aMki_sc aTas_iface aTas_nil aLd_rf aLd_fp aEqs_ag aEqb_b aEqp_eq eqP_nr eqP_rn eqP_nf eqP_fn eqP_nn eqP_rr bin_add bin_sub bin_mul bin_and bin_or bin_xor bin_andNot bin_quo bin_rem bin_eql bin_lss bin_leq bin_gtr bin_geq bin_neq bin_shl bin_shr binS_add binS_eql binS_neq binS_lss binS_leq binS_gtr binS_geq rowsOf_em rowsOf_tr rowsOf_ow hSt_rf hApp_em hApp_ow cells_bool leaf_bool clo_bool cells_int leaf_int clo_int cells_iface leaf_iface clo_iface cells_nilI leaf_nilI clo_nilI cells_ptr leaf_ptr clo_ptr cells_s leaf_s clo_s cells_em leaf_em clo_em cells_tr leaf_tr clo_tr cells_ow leaf_ow clo_ow cells_rf leaf_rf clo_rf cells_mp leaf_mp clo_mp cells_fp leaf_fp clo_fp cells_fn leaf_fn clo_fn cells_ag
attribute [go_sem] bindP_some bindS_some bindH_some onEnd_ret onEnd_pan onEnd_ite PAN_iface COND_bifd COND_true COND_false COND_decide COND_not guardP_on guardP_t guardP_f guardP_none guardP_decT guardP_decF guardP_notT guardP_notF guardK_on guardK_t guardK_f guardK_none guardK_decT guardK_decF guardK_notT guardK_notF guardD_on guardD_t guardD_f guardD_none JOIN_eq applyW_nil applyW_cons hAlloc hAllt hBox hBsl fillR fillA aBuild eqK splice ofC ofV optI bb ii frz tupA brw_sc brw_s brw_em brw_tr brw_fp brw_ag brw_tp brw_fn brwL_nil brwL_cons beqI beqL beqB decide_eq_false_iff_not
attribute [go_sem] List.getD_cons_zero List.getD_cons_succ List.getElem?_cons_zero List.getElem?_cons_succ List.length_cons List.length_nil List.take_succ_cons List.take_zero List.drop_succ_cons List.drop_zero List.take_nil List.drop_nil List.cons_append List.nil_append List.append_nil List.map_cons List.map_nil List.foldr_cons List.foldr_nil List.all_cons List.all_nil List.set_cons_zero List.set_cons_succ List.replicate_succ List.replicate_zero Option.map_some Option.map_none Option.bind_some Bool.and_true Bool.true_and Bool.and_self Bool.not_true Bool.not_false Bool.not_not Bool.false_eq_true Bool.true_eq_false ite_true ite_false if_true if_false and_true true_and and_self and_false false_and or_true true_or or_false false_or not_true_eq_false not_false_eq_true ne_eq beq_self_eq_true true_implies forall_const false_implies implies_true cond_true cond_false Int.toNat_natCast Int.natCast_nonneg Int.toNat_zero Nat.lt_add_one Int.le_refl Nat.le_refl decide_true decide_false decide_eq_true_eq
attribute [go_sem] List.length_map Int.lt_irrefl List.getElem?_map bnd ge_iff_le gt_iff_lt
attribute [go_sem] COND_bool guardP_if guardK_if guardD_if COND_bif onEnd_cond decide_eq_false_iff_not Bool.not_eq_true' Bool.not_eq_false'
attribute [go_sem ↓] guardP_if guardP_on guardP_t guardP_f guardP_none guardK_if guardK_on guardK_t guardK_f guardK_none guardD_if guardD_on guardD_t guardD_f guardD_none COND_bool COND_true COND_false onEnd_ret onEnd_pan onEnd_ite onEnd_cond bindP_some bindS_some bindH_some JOIN_eq PAN_iface
end Go.Proofs.YtodoejfkjimeaaaGreatDoor.Am
