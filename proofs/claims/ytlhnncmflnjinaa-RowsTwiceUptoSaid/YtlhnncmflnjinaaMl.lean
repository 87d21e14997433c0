/- The abstract machine: regions whose order is open are sound: every order. -/
import Derived.Test.YtlhnncmflnjinaaMk
set_option linter.unusedSimpArgs false
set_option linter.unusedVariables false
namespace Go.Proofs.Ytlhnncmflnjinaa.Am
open Go Go.RowKit

theorem cmpL_get {P : Program} {S : Nat} {ops : Array Oper} : ∀ (l : List Oper) (sl : List SOper), cmpL P S ops l = some sl → sl.length = l.length ∧ ∀ (i : Nat) (o : Oper), l[i]? = some o → ∃ so, sl[i]? = some so ∧ cmpO P ops o = some so ∧ dstOk S o.dst = true ∧ okTag o.op so.op = true
  | [], sl, h => by simp only [cmpL, Option.some.injEq] at h; subst h; exact ⟨rfl, fun i o h => by simp at h⟩
  | o :: l, sl, h => by
    unfold cmpL at h
    split at h
    · rename_i so sl' hso hsl
      split at h
      · rename_i hc
        cases h
        obtain ⟨h1, h2⟩ := cmpL_get l sl' hsl
        refine ⟨by simp [h1], fun i o' hi => ?_⟩
        cases i with
        | zero => simp at hi; subst hi; exact ⟨so, rfl, hso, hc.1, hc.2⟩
        | succ i => exact h2 i o' (by simpa using hi)
      · cases h
    · cases h
theorem inert_wr {P : Program} {Kp : Value → Kn} {st : St} {id : Nat} {o : SOper} {e : Eff} (h : OpOk P Kp st id o e) (hi : inert o.op = true) (hw : e.dead = false) : names e.wr = [] ∧ e.rd = [] := by
  have hq : quiet o.op = true ∧ ∀ g, rdR g o.op = [] := by
    generalize o.op = op at hi
    cases op <;> first | exact ⟨rfl, fun _ => rfl⟩ | (simp [inert, quiet] at hi)
  rcases h with ⟨_, ⟨_, _, h2, h3⟩ | ⟨_, h⟩⟩ | ⟨hd, _⟩
  · exact ⟨by rw [h2]; rfl, h3 hi⟩
  · rcases h with ⟨_, _, h3, h4⟩ | ⟨h1, _⟩ | ⟨f, args, h1, _⟩
    · exact ⟨by rw [h3]; rfl, by rw [h4]; exact hq.2 _⟩
    · exfalso
      generalize o.op = op at hq h1
      cases op <;> first | (simp [semH] at h1; done) | (simp [quiet] at hq)
    · rw [h1] at hq; simp [quiet] at hq
  · rw [hw] at hd; cases hd
section
variable {P : Program} {T : Nat} {U : Nat → Prop} {N : Nat → Prop} {w0 : World} {M0 : Nat → Prop} {β0 : Nat → Option Nat} {ds : List Deferred}
theorem setD_get (A : Array Bool) (i j : Nat) (hi : i < A.size) : (A.setIfInBounds i true).getD j false = (A.getD j false || j == i) := by
  simp only [Array.getD_eq_getD_getElem?, Array.getElem?_setIfInBounds]
  by_cases h : i = j
  · subst h; simp [hi]
  · simp [h, Ne.symm h]
/-- names not used while a region goes on -/
def FL (T : Nat) (U : Nat → Prop) (n m : Nat) (L : Nat → Bool) (tl : Nat) : Nat → Prop := fun j => (n ≤ j ∧ j < n + 16 * m ∧ ∀ i, i < m → L i = true → ¬ (n + 16 * i ≤ j ∧ j < n + 16 * i + 16)) ∨ tl ≤ j ∨ (U j ∧ j < T)
set_option maxHeartbeats 2000000 in
theorem dops_sound {S : Nat} {ops : Array Oper} {K : Kn} {Kp : Value → Kn} {Q : Exit → Act → World → Prop} {sl : List SOper} {ancs : List (List Nat)} {st0 : St} {n : Nat} {effs : List Eff}
    (hK : ∀ β fr σ n a w, T ≤ n → a.tmps.size = S → SRel N w0 M0 β0 ds β fr σ (Fn T U n) a w → K fr σ n → Q .normal a w)
    (hKp : ∀ x β fr σ n a w, T ≤ n → a.tmps.size = S → SRel N w0 M0 β0 ds β fr σ (Fn T U n) a w → Kp x fr σ n → Q (.panic [{ v := x, recovered := false }]) a w) (hT : T ≤ n)
    (hsl : cmpL P S ops ops.toList = some sl) (hanc : ancOk ops.toList ancs = true) (htmp : tmpOk (sl.zip ancs) = true) (Tr : Trace P K Kp (sl.zip ancs) st0 n effs) :
    ∀ (fuel : Nat) (listed : Array Bool) (tl : Nat) (β : Nat → Option Nat) (a : Act) (w : World), n + 16 * ops.size ≤ tl → listed.size = ops.size → ((List.range ops.size).filter fun i => !listed.getD i false).length ≤ fuel → a.tmps.size = S →
      (∀ (i : Nat) (anc : List Nat), ancs[i]? = some anc → listed.getD i false = true → ∀ k ∈ anc, listed.getD k false = true) → (∀ (i : Nat) (e : Eff), effs[i]? = some e → listed.getD i false = true → e.dead = false) →
      SRel N w0 M0 β0 ds β (stL (fun i => listed.getD i false) 0 effs st0).1 (stL (fun i => listed.getD i false) 0 effs st0).2 (FL T U n ops.size (fun i => listed.getD i false) tl) a w →
      wpAny P .any ops Q fuel listed a w := by
  obtain ⟨hlen1, hget⟩ := cmpL_get _ _ hsl
  simp only [Array.length_toList] at hlen1
  have hal : ancs.length = ops.size := by
    unfold ancOk at hanc
    simp only [Bool.and_eq_true, decide_eq_true_eq] at hanc
    simpa using hanc.1
  have hzl : (sl.zip ancs).length = ops.size := by simp [hlen1, hal]
  have hel : effs.length = ops.size := Tr.len.trans hzl
  -- what is known of an operation
  have anc_spec : ∀ (i : Nat) (o : Oper) (anc : List Nat), ops[i]? = some o → ancs[i]? = some anc → (∀ j ∈ anc, j < i ∧ ((direct o).contains j = true ∨ ∃ d ∈ direct o, (ancs.getD d []).contains j = true)) ∧ (∀ d ∈ direct o, d ∈ anc) := by
    intro i o anc h1 h2
    unfold ancOk at hanc
    simp only [Bool.and_eq_true, List.all_eq_true, List.mem_range, Array.length_toList] at hanc
    have hi : i < ops.size := (Array.getElem?_eq_some_iff.1 h1).1
    have := hanc.2 i hi
    rw [show ops.toList[i]? = some o by simpa using h1, h2] at this
    simp only [Bool.and_eq_true, List.all_eq_true, Bool.or_eq_true, List.any_eq_true, decide_eq_true_eq] at this
    refine ⟨fun j hj => ?_, fun d hd => ?_⟩
    · obtain ⟨⟨q1, _⟩, q2⟩ := this.1 j hj
      exact ⟨q1, q2.imp (fun h => h) (fun ⟨d, h1, h2⟩ => ⟨d, h1, h2⟩)⟩
    · simpa using this.2 d hd
  have tmp_spec : ∀ (i j : Nat) (oi oj : SOper) (ai aj : List Nat), (sl.zip ancs)[i]? = some (oi, ai) → (sl.zip ancs)[j]? = some (oj, aj) → i ≠ j → ∀ d, oj.dst = some d → oi.dst ≠ some d ∧ (d ∈ optmps oi → ai.contains j = true ∨ aj.contains i = true) := by
    intro i j oi oj ai aj h1 h2 hne d hd
    unfold tmpOk at htmp
    simp only [List.all_eq_true, List.mem_range] at htmp
    have := htmp i (List.getElem?_eq_some_iff.1 h1).1 j (List.getElem?_eq_some_iff.1 h2).1
    rw [h1, h2] at this
    simp only [hd, Bool.or_eq_true, beq_iff_eq, hne, false_or, Bool.and_eq_true, bne_iff_ne, Bool.not_eq_true'] at this
    refine ⟨this.1, fun hm => ?_⟩
    rcases this.2 with (h | h) | h
    · rw [show (optmps oi).contains d = true by simpa using hm] at h; cases h
    · exact .inl h
    · exact .inr h
  intro fuel
  induction fuel with
  | zero =>
    intro listed tl β a w htl hls hcnt hS hclosed hnd R
    have hall : ∀ i, i < ops.size → listed.getD i false = true := by
      intro i hi
      cases hl : listed.getD i false with
      | true => rfl
      | false =>
        exfalso
        have : i ∈ (List.range ops.size).filter fun i => !listed.getD i false := List.mem_filter.2 ⟨List.mem_range.2 hi, by rw [hl]; rfl⟩
        have := List.length_pos_of_mem this
        omega
    refine ⟨?_, ?_⟩
    · unfold Region.ready
      rw [List.filter_eq_nil_iff]
      intro i hi
      have h1 := hall i (List.mem_range.1 hi)
      have : listed.getD i true = true := by
        rw [Array.getD_eq_getD_getElem?] at h1 ⊢
        cases hx : listed[i]? with
        | none => rw [hx] at h1; cases h1
        | some b => rw [hx] at h1; exact h1
      simp [this]
    · have hst : stL (fun i => listed.getD i false) 0 effs st0 = stL (fun _ => true) 0 effs st0 := stL_congr 0 effs st0 (fun j _ hj => hall j (by omega))
      rw [hst] at R
      have := Tr.fin (fun e he => by
        obtain ⟨i, hi⟩ := List.mem_iff_getElem?.1 he
        exact hnd i e hi (hall i (by rw [← hel]; exact (List.getElem?_eq_some_iff.1 hi).1)))
      exact hK β _ _ tl a w (by omega) hS (R.free (fun j hj => Or.inr hj)) (this tl (by rw [hzl]; exact htl))
  | succ fuel ih =>
    intro listed tl β a w htl hls hcnt hS hclosed hnd R
    have key : ∀ i, i < ops.size → listed.getD i false = false → (∀ o, ops[i]? = some o → ∀ d ∈ direct o, listed.getD d false = true) → ∃ o so anc e, ops[i]? = some o ∧ sl[i]? = some so ∧ ancs[i]? = some anc ∧ effs[i]? = some e := by
      intro i hi _ _
      have h1 : ops[i]? = some ops[i] := by simp [hi]
      obtain ⟨so, h2, _⟩ := hget i ops[i] (by simp [hi])
      exact ⟨_, so, ancs[i]'(by omega), effs[i]'(by omega), h1, h2, List.getElem?_eq_getElem (by omega), List.getElem?_eq_getElem (by omega)⟩
    have ready_iff : ∀ i, i ∈ Region.ready .any ops listed ↔ i < ops.size ∧ listed.getD i false = false ∧ ∀ o, ops[i]? = some o → ∀ d ∈ direct o, listed.getD d false = true := by
      intro i
      unfold Region.ready
      rw [List.mem_filter, List.mem_range]
      constructor
      · rintro ⟨hi, h⟩
        have h1 : ops[i]? = some ops[i] := by simp [hi]
        rw [h1] at h
        simp only [Bool.and_eq_true, Bool.not_eq_true', Option.map_some, Option.getD_some] at h
        refine ⟨hi, ?_, fun o ho d hd => ?_⟩
        · have h0 := h.1
          have hil : i < listed.size := by rw [hls]; exact hi
          simp only [Array.getD_eq_getD_getElem?, Array.getElem?_eq_getElem hil, Option.getD_some] at h0 ⊢
          exact h0
        · rw [h1] at ho; cases ho
          unfold direct at hd
          obtain ⟨e, he1, he2⟩ := List.mem_filterMap.1 hd
          split at he2
          · rename_i hb
            cases he2
            have := Array.all_eq_true'.1 h.2 e (by simpa using he1)
            simp [hb] at this; simpa using this
          · cases he2
      · rintro ⟨hi, h1, h2⟩
        have ho : ops[i]? = some ops[i] := by simp [hi]
        refine ⟨hi, ?_⟩
        rw [ho]
        simp only [Bool.and_eq_true, Bool.not_eq_true', Option.map_some, Option.getD_some]
        refine ⟨?_, ?_⟩
        · have hil : i < listed.size := by rw [hls]; exact hi
          simp only [Array.getD_eq_getD_getElem?, Array.getElem?_eq_getElem hil, Option.getD_some] at h1 ⊢
          exact h1
        · rw [Array.all_eq_true']
          intro e he
          simp only [Bool.or_eq_true, Bool.not_eq_true']
          cases hb : Region.binds .any e with
          | false => exact .inl rfl
          | true => exact .inr (h2 _ ho e.on (by unfold direct; exact List.mem_filterMap.2 ⟨e, by simpa using he, by simp [hb]⟩))
    refine ⟨fun hnil => ?_, fun i hi => ?_⟩
    · -- none is ready: all are listed
      have hall : ∀ i, i < ops.size → listed.getD i false = true := by
        intro i
        induction i using Nat.strongRecOn with
        | _ i ihi =>
          intro hi
          cases hl : listed.getD i false with
          | true => rfl
          | false =>
            exfalso
            have : i ∈ Region.ready .any ops listed := (ready_iff i).2 ⟨hi, hl, fun o ho d hd => by
              have hanci : ancs[i]? = some (ancs[i]'(by omega)) := List.getElem?_eq_getElem (by omega)
              obtain ⟨q1, q2⟩ := anc_spec i o _ ho hanci
              have := (q1 d (q2 d hd)).1
              exact ihi d this (by omega)⟩
            rw [hnil] at this; cases this
      have hst : stL (fun i => listed.getD i false) 0 effs st0 = stL (fun _ => true) 0 effs st0 := stL_congr 0 effs st0 (fun j _ hj => hall j (by omega))
      rw [hst] at R
      have := Tr.fin (fun e he => by
        obtain ⟨i, hi⟩ := List.mem_iff_getElem?.1 he
        exact hnd i e hi (hall i (by rw [← hel]; exact (List.getElem?_eq_some_iff.1 hi).1)))
      exact hK β _ _ tl a w (by omega) hS (R.free (fun j hj => Or.inr hj)) (this tl (by rw [hzl]; exact htl))
    · obtain ⟨hi, hl, hdir⟩ := (ready_iff i).1 hi
      obtain ⟨o, so, anc, e, ho, hso, hanci, he⟩ := key i hi hl hdir
      obtain ⟨so', hso', hcO, hdst, htag⟩ := hget i o (by simpa using ho)
      rw [hso] at hso'; cases hso'
      have hzi : (sl.zip ancs)[i]? = some (so, anc) := by simp [List.getElem?_zip_eq_some, hso, hanci]
      obtain ⟨hspec1, hspec2⟩ := anc_spec i o anc ho hanci
      have hancl : ∀ k ∈ anc, listed.getD k false = true := by
        intro k hk
        rcases (hspec1 k hk).2 with h | ⟨d, hd, h⟩
        · exact hdir o ho k (by simpa using h)
        · have hdl := hdir o ho d hd
          cases hda : ancs[d]? with
          | none => rw [List.getD_eq_getElem?_getD, hda] at h; simp at h
          | some ad =>
            rw [List.getD_eq_getElem?_getD, hda] at h
            exact hclosed d ad hda hdl k (by simpa using h)
      obtain ⟨hed, hok⟩ := Tr.ok i so anc e hzi he
      have hndanc : deadAnc anc (effs.take i) = false := by
        cases hd : deadAnc anc (effs.take i) with
        | false => rfl
        | true =>
          exfalso
          unfold deadAnc at hd
          obtain ⟨k, hk1, hk2⟩ := List.any_eq_true.1 hd
          cases hek : (effs.take i)[k]? with
          | none => rw [hek] at hk2; cases hk2
          | some f =>
            rw [hek] at hk2
            rw [List.getElem?_take] at hek
            split at hek
            · have := hnd k f hek (hancl k hk1)
              simp [this] at hk2
            · cases hek
      have hok : OpOk P Kp (stL (fun j => anc.contains j) 0 (effs.take i) st0) (n + 16 * i) so e := by
        rcases hok with ⟨h, _⟩ | ⟨_, h⟩
        · rw [hndanc] at h; cases h
        · exact h
      -- the state behind its ancestors and the state behind all that are listed tell it the same
      have hst : stL (fun j => anc.contains j) 0 (effs.take i) st0 = stL (fun j => anc.contains j) 0 effs st0 := by
        have h1 := stL_append (fun j => anc.contains j) 0 (effs.take i) (effs.drop i) st0
        rw [List.take_append_drop] at h1
        rw [h1]
        refine (stL_none _ _ _ (fun j hj _ => ?_)).symm
        cases hc : anc.contains j with
        | false => rfl
        | true =>
          have := (hspec1 j (by simpa using hc)).1
          simp at hj
          omega
      rw [hst] at hok
      generalize hgA : stL (fun j => anc.contains j) 0 effs st0 = stA at hok
      generalize hgL : stL (fun i => listed.getD i false) 0 effs st0 = stB at R
      have order : ∀ (j : Nat) (oj : SOper) (aj : List Nat), (sl.zip ancs)[j]? = some (oj, aj) → (anc.contains j = true → listed.getD j false = true) ∧ (aj.contains i = true → anc.contains j = false ∧ listed.getD j false = false) := by
        intro j oj aj hzj
        obtain ⟨_, hancj⟩ := (List.getElem?_zip_eq_some.1 hzj)
        refine ⟨fun h => hancl j (by simpa using h), fun h => ⟨?_, ?_⟩⟩
        · have hjs : j < ops.size := by rw [← hal]; exact (List.getElem?_eq_some_iff.1 hancj).1
          have h1 := ((anc_spec j ops[j] aj (by simp [hjs]) hancj).1 i (by simpa using h)).1
          cases hc : anc.contains j with
          | false => rfl
          | true => have := (hspec1 j (by simpa using hc)).1; omega
        · cases hc : listed.getD j false with
          | false => rfl
          | true => have := hclosed j aj hancj hc i (by simpa using h); rw [hl] at this; cases this
      have hii : anc.contains i = false := by
        cases hc : anc.contains i with
        | false => rfl
        | true => have := (hspec1 i (by simpa using hc)).1; omega
      have effat : ∀ (j : Nat) (f : Eff), effs[j]? = some f → ∃ oj aj, (sl.zip ancs)[j]? = some (oj, aj) ∧ f.dst = oj.dst := by
        intro j f hf
        have hj : j < (sl.zip ancs).length := by rw [hzl, ← hel]; exact (List.getElem?_eq_some_iff.1 hf).1
        have hz : (sl.zip ancs)[j]? = some (sl.zip ancs)[j] := List.getElem?_eq_getElem hj
        exact ⟨_, _, hz, (Tr.ok j _ _ f hz hf).1⟩
      have hregs : ∀ t ∈ optmps so, stA.1 t = stB.1 t := by
        intro t ht
        rw [← hgA, ← hgL]
        refine stL_reg 0 effs st0 st0 rfl (fun j f hf hd => ?_)
        simp only [Nat.zero_add]
        obtain ⟨oj, aj, hzj, hfd⟩ := effat j f hf
        by_cases hij : i = j
        · subst hij; rw [hii, hl]
        · obtain ⟨_, h2⟩ := tmp_spec i j so oj anc aj hzi hzj hij t (by rw [← hfd]; exact hd)
          rcases h2 ht with h | h
          · rw [h, (order j oj aj hzj).1 h]
          · obtain ⟨q1, q2⟩ := (order j oj aj hzj).2 h
            rw [q1, q2]
      have apart : ∀ (j : Nat) (f : Eff) (oj : SOper) (aj : List Nat), effs[j]? = some f → (sl.zip ancs)[j]? = some (oj, aj) → i ≠ j → f.dead = false → aj.contains i = false → anc.contains j = false → (∀ x ∈ names f.wr, x ∉ e.rd ∧ (e.dead = false → x ∉ names e.wr)) := by
        intro j f oj aj hf hzj hij hfd h1 h2 x hx
        have okj : OpOk P Kp (stL (fun q => aj.contains q) 0 (effs.take j) st0) (n + 16 * j) oj f := by
          rcases (Tr.ok j oj aj f hzj hf).2 with ⟨_, h⟩ | ⟨_, h⟩
          · rw [hfd] at h; cases h
          · exact h
        cases hin : inert oj.op with
        | true => rw [(inert_wr okj hin hfd).1] at hx; cases hx
        | false =>
          cases hin' : inert so.op with
          | true =>
            cases hed' : e.dead with
            | false => have := inert_wr hok hin' hed'; rw [this.1, this.2]; exact ⟨by simp, fun _ => by simp⟩
            | true =>
              refine ⟨?_, fun h => by cases h⟩
              exfalso
              rcases hok with ⟨h, _⟩ | ⟨_, y, _, hp, _⟩
              · rw [hed'] at h; cases h
              · rcases hp with ⟨f', args, h, _⟩ | ⟨y, h, _⟩ <;> (rw [h] at hin'; simp [inert, quiet] at hin')
          | false =>
            rcases Nat.lt_or_ge i j with hlt | hge
            · obtain ⟨p1, p2⟩ := Tr.apt i j so oj anc aj e f hlt hzi hzj he hf hin' hin h1
              exact ⟨p2 x hx, fun _ hx' => (p1 x hx').2 hx⟩
            · obtain ⟨p1, p2⟩ := Tr.apt j i oj so aj anc f e (by omega) hzj hzi hf he hin hin' h2
              exact ⟨(p1 x hx).1, fun _ => (p1 x hx).2⟩
      have hmem : ∀ x ∈ e.rd, stA.2 x = stB.2 x := by
        intro x hx
        rw [← hgA, ← hgL]
        refine stL_mem 0 effs st0 st0 rfl (fun j f hf hd => ?_)
        simp only [Nat.zero_add]
        obtain ⟨oj, aj, hzj, _⟩ := effat j f hf
        by_cases hij : i = j
        · subst hij; rw [hii, hl]
        · obtain ⟨q1, q2⟩ := order j oj aj hzj
          cases h1 : aj.contains i with
          | true => obtain ⟨r1, r2⟩ := q2 h1; rw [r1, r2]
          | false =>
            cases h2 : anc.contains j with
            | true => rw [q1 h2]
            | false =>
              cases h3 : listed.getD j false with
              | false => rfl
              | true => exact absurd hx (apart j f oj aj hf hzj hij (hnd j f hf h3) h1 h2 x hd).1
      have hd : ∀ t, o.dst = some t → t < a.tmps.size := by
        intro t ht
        rw [ht] at hdst
        rw [hS]; simpa [dstOk] using hdst
      obtain ⟨hcop, hdeq⟩ := cmpO_op hcO
      -- the next state
      have hnext : e.dead = false → ∀ β' u w' tl', tl ≤ tl' → SRel N w0 M0 β0 ds β' (Am.put stB.1 o.dst e.v) (applyW stB.2 e.wr) (fun j => FL T U n ops.size (fun i => listed.getD i false) tl j ∧ ¬ (n + 16 * i ≤ j ∧ j < n + 16 * i + 16) ∧ (j < tl ∨ tl' ≤ j)) (a.put o.dst u) w' →
          wpAny P .any ops Q fuel (listed.setIfInBounds i true) (a.put o.dst u) w' := by
        intro hed' β' u w' tl' htl' R'
        have hsz : i < listed.size := by rw [hls]; exact hi
        have hfun : (fun j => (listed.setIfInBounds i true).getD j false) = fun j => listed.getD j false || j == i := by funext j; exact setD_get listed i j hsz
        have hins : stL (fun j => (listed.setIfInBounds i true).getD j false) 0 effs st0 = effApp e stB := by
          rw [hfun, ← hgL]
          have := stL_insert (L := fun j => listed.getD j false) (k := i) 0 effs st0 e he (by rw [Nat.zero_add]; exact hl) (fun j f hij hf hlj => by
            rw [Nat.zero_add] at hlj
            obtain ⟨oj, aj, hzj, hfd⟩ := effat j f hf
            have h1 : aj.contains i = false := by
              cases hc : aj.contains i with
              | false => rfl
              | true => have := ((order j oj aj hzj).2 hc).2; rw [hlj] at this; cases this
            have h2 : anc.contains j = false := by
              cases hc : anc.contains j with
              | false => rfl
              | true => have := (hspec1 j (by simpa using hc)).1; omega
            refine ⟨fun t ht hft => ?_, fun x hx hxf => ?_⟩
            · exact (tmp_spec i j so oj anc aj hzi hzj (by omega) t (by rw [← hfd]; exact hft)).1 (by rw [← hed]; exact ht)
            · exact (apart j f oj aj hf hzj (by omega) (hnd j f hf hlj) h1 h2 x hxf).2 hed' hx)
          simpa using this
        refine ih (listed.setIfInBounds i true) tl' β' _ w' (by omega) (by simpa using hls) ?_ (by rw [put_size, hS]) ?_ ?_ ?_
        · have hlt : ((List.range ops.size).filter fun j => !(listed.setIfInBounds i true).getD j false).length < ((List.range ops.size).filter fun j => !listed.getD j false).length := by
            have : ((List.range ops.size).filter fun j => !(listed.setIfInBounds i true).getD j false) = ((List.range ops.size).filter fun j => !listed.getD j false).filter fun j => j != i := by
              rw [List.filter_filter]
              apply List.filter_congr
              intro j _
              rw [setD_get listed i j hsz]
              cases listed.getD j false <;> cases hji : (j == i) <;> simp_all [bne]
            rw [this]
            refine List.length_filter_lt_length_iff_exists.2 ⟨i, List.mem_filter.2 ⟨List.mem_range.2 hi, by rw [hl]; rfl⟩, by simp⟩
          omega
        · intro j aj haj hlj k hk
          rw [setD_get listed i j hsz] at hlj
          rw [setD_get listed i k hsz]
          rcases Bool.or_eq_true_iff.1 hlj with h | h
          · rw [hclosed j aj haj h k hk]; rfl
          · have : j = i := by simpa using h
            subst this
            rw [hanci] at haj; cases haj
            rw [hancl k hk]; rfl
        · intro j f hf hlj
          rw [setD_get listed i j hsz] at hlj
          rcases Bool.or_eq_true_iff.1 hlj with h | h
          · exact hnd j f hf h
          · have : j = i := by simpa using h
            subst this
            rw [he] at hf; cases hf
            exact hed'
        · rw [hins]
          have : effApp e stB = (Am.put stB.1 o.dst e.v, applyW stB.2 e.wr) := by unfold effApp; rw [hed, hdeq]
          rw [this]
          refine R'.free (fun j hj => ?_)
          rcases hj with ⟨q1, q2, q3⟩ | hj | hj
          · exact ⟨.inl ⟨q1, q2, fun k hk hlk => q3 k hk (by simp only [setD_get listed i k hsz, hlk, Bool.true_or])⟩, q3 i hi (by simp only [setD_get listed i i hsz]; simp), .inl (by omega)⟩
          · exact ⟨.inr (.inl (by omega)), by omega, .inr hj⟩
          · exact ⟨.inr (.inr hj), by have := hj.2; omega, .inl (by have := hj.2; omega)⟩
      have hBnd : ∀ j, tl ≤ j → FL T U n ops.size (fun i => listed.getD i false) tl j := fun j hj => .inr (.inl hj)
      have hidF : ∀ j, n + 16 * i ≤ j → j < n + 16 * i + 16 → FL T U n ops.size (fun i => listed.getD i false) tl j := fun j h1 h2 => .inl ⟨by omega, by omega, fun k hk hlk hc => by
        have : k = i := by omega
        subst this
        simp only at hlk
        rw [hl] at hlk; cases hlk⟩
      have hwin : ∀ j, FL T U n ops.size (fun i => listed.getD i false) tl j → ¬ (n + 16 * i ≤ j ∧ j < n + 16 * i + 16) → True := fun _ _ _ => trivial
      have hpan : ∀ x β' w' tl', tl ≤ tl' → (∀ fr σ n, Kp x fr σ n) → ∀ σ' F', (∀ j, Fn T U tl' j → F' j) → SRel N w0 M0 β0 ds β' stB.1 σ' F' a w' → Q (.panic [{ v := x, recovered := false }]) a w' := fun x β' w' tl' htl' hk σ' F' hF R' =>
        hKp x β' _ _ tl' a w' (by omega) hS (R'.free hF) (hk _ _ _)
      unfold wpOp
      rw [ho]
      simp only
      have guardreg : ∀ d want, so.guard = some (d, want) → stA.1 d = stB.1 d := fun d want hg => hregs d (by unfold optmps; rw [hg]; simp)
      have asked : Asked stA so → Region.wanted o (yielded ops a.tmps) = true := by
        rintro (hg | ⟨d, want, hg, hv⟩)
        · exact wanted_none hcO hg _
        · rw [guardreg d want hg] at hv
          rw [(wanted_of (P := P) R hcO hg).1 want hv]; simp
      rcases hok with ⟨hed', h⟩ | ⟨hed', x, hask, hp, hk⟩
      · rcases h with ⟨⟨d, want, hg, hv⟩, h1, h2, _⟩ | ⟨hask, hr⟩
        · have hw : Region.wanted o (yielded ops a.tmps) = false := by
            rw [guardreg d want hg] at hv
            rcases hv with ⟨b, hb, hne⟩ | hv
            · rw [(wanted_of (P := P) R hcO hg).1 b hb]; simp [hne]
            · exact (wanted_of (P := P) R hcO hg).2 hv
          rw [hw]
          simp only [Bool.false_eq_true, if_false]
          refine hnext hed' β undef w tl (Nat.le_refl _) ?_
          rw [h1, h2]
          exact (put_undef R o.dst hd).free (fun j hj => hj.1)
        · rw [if_pos (asked hask)]
          refine .inl ?_
          have hr := hr.frame hregs hmem
          rcases hr with ⟨hq, hs, hwr, _⟩ | ⟨hs, _⟩ | ⟨f, args, hop, hc⟩
          · obtain ⟨u, hrun, hu⟩ := soundR R hcop hq hs
            unfold Oper.wp
            rw [hrun]
            refine hnext hed' β u w tl (Nat.le_refl _) ?_
            rw [hwr]
            exact (R.put o.dst hd hu).free (fun j hj => hj.1)
          · obtain ⟨u, w', β', g1, g2, g3, g4⟩ := soundH R (hidF _ (Nat.le_refl _) (by omega)) hcop hs
            have R' := (g3.put o.dst hd g4).free (F' := fun j => FL T U n ops.size (fun i => listed.getD i false) tl j ∧ ¬ (n + 16 * i ≤ j ∧ j < n + 16 * i + 16) ∧ (j < tl ∨ tl ≤ j)) (fun j hj => ⟨hj.1, fun h => hj.2.1 ⟨by omega, by omega⟩⟩)
            unfold Oper.wp
            rcases g1 with g1 | ⟨g1, rfl⟩
            · rw [g1]; exact hnext hed' β' u w' tl (Nat.le_refl _) R'
            · rw [g1]; exact hnext hed' β' _ w' tl (Nat.le_refl _) R'
          · rw [hop] at hcop htag
            obtain ⟨c, f', hoc, hcal, rfl, rfl⟩ := cmp_call hcop htag
            have onw : ∀ σ' F' tl', tl ≤ tl' → σ' = applyW stB.2 e.wr → (∀ j, (FL T U n ops.size (fun i => listed.getD i false) tl j ∧ ¬ (n + 16 * i ≤ j ∧ j < n + 16 * i + 16) ∧ (j < tl ∨ tl' ≤ j)) → F' j) → ∀ r, r = .ret e.v → Onward P o N w0 M0 β0 ds stB.1 a (wpAny P .any ops Q fuel (listed.setIfInBounds i true)) Q σ' F' r := by
              rintro σ' F' tl' htl' rfl hF r rfl
              constructor
              · rintro v hv u w' β' R' hu
                cases hv
                exact hnext hed' β' u w' tl' htl' ((R'.put o.dst hd hu).free hF)
              · rintro x hx; cases hx
            rcases hc with hc | hc
            · exact callC_sound R hoc hcal hc (fun r wr I hk _ => onw _ _ tl (Nat.le_refl _) (by rw [hk.2.1]) (fun j hj => hj.1) r hk.1)
            · exact callW_sound R hidF (by omega) hBnd hoc hcal hc (fun r wr I hk tl' htl' => onw _ _ tl' htl' (by rw [hk.2.1]) (fun j hj => hj) r hk.1)
      · rw [if_pos (asked hask)]
        refine .inl ?_
        have hp := hp.frame hregs hmem
        rcases hp with ⟨f, args, hop, hc⟩ | ⟨y, hop, hc⟩
        · rw [hop] at hcop htag
          obtain ⟨c, f', hoc, hcal, rfl, rfl⟩ := cmp_call hcop htag
          have onw : ∀ σ' F' tl', tl ≤ tl' → (∀ j, Fn T U tl' j → F' j) → ∀ r, r = .pan x → Onward P o N w0 M0 β0 ds stB.1 a (wpAny P .any ops Q fuel (listed.setIfInBounds i true)) Q σ' F' r := by
            rintro σ' F' tl' htl' hF r rfl
            constructor
            · rintro v hv; cases hv
            · rintro z hz w' β' R'
              cases hz
              exact hpan x β' w' tl' htl' hk _ _ hF R'
          rcases hc with hc | hc
          · exact callC_sound R hoc hcal hc (fun r wr I hk _ => onw _ _ tl (Nat.le_refl _) (fun j hj => hj.elim (fun h => .inr (.inl h)) (fun h => .inr (.inr h))) r hk.1)
          · exact callW_sound R hidF (by omega) hBnd hoc hcal hc (fun r wr I hk tl' htl' => onw _ _ tl' htl' (fun j hj => hj.elim (fun h => ⟨.inr (.inl (by omega)), by omega, .inr h⟩) (fun h => ⟨.inr (.inr h), by have := h.2; omega, .inl (by have := h.2; omega)⟩)) r hk.1)
        · rw [hop] at hcop htag
          obtain ⟨x', hoc, rfl⟩ := cmp_pan hcop htag
          unfold PAN at hc
          split at hc
          · rename_i t v hx
            subst hc
            have hr := rel_get R x'
            rw [hx] at hr
            have hv := rel_sc hr
            unfold Oper.wp
            have : (execOp a.eval o).run P w = .halt (.panic (.iface t v)) w := by simp [execOp, hoc, hv, Instr.panic, goPanic, Sem.run]
            rw [this, Oper.upon_panic]
            exact hpan _ β w tl (Nat.le_refl _) hk _ _ (fun j hj => hj.elim (fun h => .inr (.inl h)) (fun h => .inr (.inr h))) R
          · exact hc.elim
end
end Go.Proofs.Ytlhnncmflnjinaa.Am
