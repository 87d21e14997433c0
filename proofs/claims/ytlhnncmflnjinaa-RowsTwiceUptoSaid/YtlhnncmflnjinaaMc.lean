/- The abstract operations say what the machine's do: those that change nothing. -/
import Derived.Test.YtlhnncmflnjinaaMb
set_option linter.unusedSimpArgs false
set_option linter.unusedVariables false
namespace Go.Proofs.Ytlhnncmflnjinaa.Am
open Go Go.RowKit

section
variable {P : Program} {N : Nat → Prop} {w0 : World} {M0 : Nat → Prop} {β0 : Nat → Option Nat} {ds : List Deferred} {β : Nat → Option Nat} {fr : Regs} {σ : Hp} {F : Nat → Prop} {a : Act} {w : World}

/-- what is to be shown of an operation that changes nothing -/
def GoodR (P : Program) (o : Oper) (N : Nat → Prop) (β : Nat → Option Nat) (σ : Hp) (a : Act) (w : World) (v : AV) : Prop :=
  ∃ u, (execOp a.eval o).run P w = .ok (.value u) w ∧ Rel (live N β σ) w β u v
theorem rel_ofC (M : Nat → Prop) (w : World) (β : Nat → Option Nat) (v : Value) : Rel M w β v (ofC v) := by
  unfold ofC
  split
  · split
    · exact .s _ _ rfl (by assumption)
    · exact .any _
  · exact .em _
  · exact .sc _
theorem rel_ofV (M : Nat → Prop) (w : World) (β : Nat → Option Nat) (v : Value) : Rel M w β v (ofV v) := by
  unfold ofV
  split
  · rename_i cs
    refine .ag cs _ (by simp) (fun i u a hu ha => ?_)
    have : cs.toList[i]? = some u := by simpa using hu
    simp only [List.getElem?_map, this, Option.map_some] at ha
    cases ha; exact rel_ofC _ _ _ _
  · rename_i cs
    refine .tp cs _ (by simp) (fun i u a hu ha => ?_)
    have : cs.toList[i]? = some u := by simpa using hu
    simp only [List.getElem?_map, this, Option.map_some] at ha
    cases ha; exact rel_ofC _ _ _ _
  · exact rel_ofC _ _ _ _
theorem rel_get (R : SRel N w0 M0 β0 ds β fr σ F a w) (x : Operand) : Rel (live N β σ) w β (a.eval x) ((cOpd x).get fr) := by
  cases x with
  | tmp t => exact R.regs t
  | const v => exact rel_ofV _ _ _ v
  | global g => exact .sc _
  | func f => exact .fn f #[] [] rfl (fun i u a h _ => by simp at h)
theorem add_none (b o j : Nat) : (⟨b, o, none⟩ : Addr).add j = ⟨b, o + j, none⟩ := by unfold Addr.add; split <;> simp_all
theorem blk_cell {b i : Nat} {cells : Array Value} {e : TypeId} {fz : Nat × Nat} {u : Value} (h : w.heap[b]? = some (.cells cells e fz)) (hu : cells[i]? = some u) : w.cell? ⟨b, i, none⟩ = some u := by
  simp [World.cell?, h, hu]
/-- what is read: one cell, or a struct -/
def partV (m : Option Nat) (us : Nat → Value) (c : Nat) : Value := match m with
  | none => us c
  | some n => .agg ((List.range n).map (fun j => us (c + j))).toArray
theorem run_loadVar_part {t : TypeId} {m : Option Nat} (h : aggT P t = some m) (A : Addr) (us : Nat → Value) (hcell : ∀ j, j < m.getD 1 → w.cell? (A.add j) = some (us j)) :
    (loadVar t A).run P w = .ok (partV m us 0) w := by
  unfold partV
  simp only [Nat.zero_add]
  have h0 : A.add 0 = A := by simp [Addr.add]
  unfold aggT szT at h
  cases hu : P.underlying t with
  | none => simp [hu] at h
  | some d =>
    cases d <;> simp [hu] at h <;> first
      | (obtain ⟨i, hi, rfl⟩ := h
         simp [loadVar, isAgg, run_underlying hu, sizeOf, typeInfo, hi, run_loadCells w A _ us (by simpa using hcell)])
      | (subst h
         have hc := hcell 0 (by simp)
         rw [h0] at hc
         simp [loadVar, isAgg, run_underlying hu, hc])
theorem part_rel {M : Nat → Prop} {row : List AV} {us : Nat → Value} (hr : ∀ (j : Nat) (x : AV), row[j]? = some x → Rel M w β (us j) x) {c : Nat} {m : Option Nat} {v : AV} (h : part row c m = some v) :
    Rel M w β (partV m us c) v ∧ c + m.getD 1 ≤ row.length := by
  unfold partV
  cases m with
  | none =>
    simp only [part] at h
    exact ⟨hr c v h, by have := (List.getElem?_eq_some_iff.1 h).1; simp; omega⟩
  | some n =>
    simp only [part] at h
    split at h
    · rename_i hle
      cases h
      refine ⟨.ag _ _ (by simp; omega) (fun i u x hu hx => ?_), by simpa using hle⟩
      have hi : i < n := by
        have := (Array.getElem?_eq_some_iff.1 hu).1; simpa using this
      have hu' : us (c + i) = u := by
        simp [hi] at hu; exact hu
      rw [List.getElem?_take, if_pos hi, List.getElem?_drop] at hx
      rw [← hu']; exact hr _ _ hx
    · cases h
theorem rel_row {x : Blk} {cells : Array Value} (hx : ∀ (p q : Nat) (r : List AV) (z : AV), x.rows[p]? = some r → r[q]? = some z → ∃ u, cells[p * x.k + q]? = some u ∧ Rel (live N β σ) w (x.nm β) u z) {p : Nat} {row : List AV} (hp : x.rows[p]? = some row) :
    ∀ (j : Nat) (z : AV), row[j]? = some z → Rel (live N β σ) w β (cells.getD (p * x.k + j) undef) z := by
  intro j z hz
  obtain ⟨u, hu, hr⟩ := hx p j row z hp hz
  simpa [Array.getD_eq_getD_getElem?, hu] using nm_lift hr
theorem rel_sc {β : Nat → Option Nat} {M : Nat → Prop} {v x : Value} (h : Rel M w β v (.sc x)) : v = x := by cases h; rfl
theorem rel_s {β : Nat → Option Nat} {M : Nat → Prop} {v : Value} {l : List UInt8} (h : Rel M w β v (.s l)) : ∃ b : ByteArray, v = .string b ∧ b.data.toList = l ∧ l.length ≤ 9223372036854775807 := by cases h; exact ⟨_, rfl, by assumption, by assumption⟩
theorem rel_bb {β : Nat → Option Nat} {M : Nat → Prop} {v : Value} {t : Bool} (h : Rel M w β v (.sc (.bool t))) : v = .bool t := rel_sc h
theorem good_mv (R : SRel N w0 M0 β0 ds β fr σ F a w) {o : Oper} {x : Operand} (ho : o.op = .move x ∨ o.op = .assign x) : GoodR P o N β σ a w ((cOpd x).get fr) :=
  ⟨a.eval x, by rcases ho with ho | ho <;> simp [execOp, ho], rel_get R x⟩
theorem good_pick (R : SRel N w0 M0 β0 ds β fr σ F a w) {o : Oper} {c x y : Operand} {v : AV} (ho : o.op = .pick c x y) (hs : aPick ((cOpd c).get fr) ((cOpd x).get fr) ((cOpd y).get fr) = some v) : GoodR P o N β σ a w v := by
  unfold aPick at hs
  split at hs
  · rename_i t hc
    cases hs
    have h := rel_get R c
    rw [hc] at h
    have hu := rel_sc h
    refine ⟨if t then a.eval x else a.eval y, by simp [execOp, ho, hu, asBool], ?_⟩
    cases t
    · exact rel_get R y
    · exact rel_get R x
  · cases hs
theorem good_ld (R : SRel N w0 M0 β0 ds β fr σ F a w) {o : Oper} {x : Operand} {t : TypeId} {m : Option Nat} {v : AV} (ho : o.op = .load t x) (ht : aggT P t = some m) (hs : aLd σ m ((cOpd x).get fr) = some v) : GoodR P o N β σ a w v := by
  have h := rel_get R x
  unfold aLd at hs
  generalize (cOpd x).get fr = X at h hs
  generalize hu : a.eval x = u at h
  cases h <;> simp only [reduceCtorEq] at hs
  case rf i k r c b hb =>
    cases hσ : σ i with
    | none => simp [hσ] at hs
    | some y =>
    cases y with
    | m es wr => simp [hσ] at hs
    | c y =>
      simp only [hσ] at hs
      split at hs
      · rename_i hk
        cases hrow : y.rows[r]? with
        | none => simp [hrow] at hs
        | some row =>
          simp only [hrow] at hs
          obtain ⟨cells, e, h2, h3, h4, h4', h5⟩ := R.heap.phys hσ hb
          have hrel := rel_row h5 hrow
          obtain ⟨hv, hlen⟩ := part_rel hrel hs
          have hcell : ∀ j, j < m.getD 1 → w.cell? ((⟨b, r * k + c, none⟩ : Addr).add j) = some ((fun j => cells.getD (r * y.k + (c + j)) undef) j) := by
            intro j hj
            obtain ⟨u, hu, _⟩ := h5 r (c + j) row row[c + j] hrow (List.getElem?_eq_getElem (by omega))
            rw [add_none, show r * k + c + j = r * y.k + (c + j) by rw [hk]; omega]
            rw [blk_cell h2 hu]
            simp [Array.getD_eq_getD_getElem?, hu]
          have hrun := run_loadVar_part ht _ _ hcell
          have e : partV m (fun j => cells.getD (r * y.k + (c + j)) undef) 0 = partV m (fun j => cells.getD (r * y.k + j) undef) c := by unfold partV; cases m <;> simp
          rw [e] at hrun
          exact ⟨_, by simp [execOp, ho, hu, Instr.loadAt, Instr.sureAddr, hrun]; try rfl, hv⟩
      · cases hs
  case fp A l us hl hm hc hr =>
    obtain ⟨hv, hlen⟩ := part_rel hr hs
    have hrun := run_loadVar_part (w := w) ht A us (fun j hj => hc j (by omega))
    exact ⟨_, by simp [execOp, ho, hu, Instr.loadAt, Instr.sureAddr, hrun]; try rfl, hv.lift⟩
theorem good_fad (R : SRel N w0 M0 β0 ds β fr σ F a w) {o : Oper} {x : Operand} {t ft : TypeId} {f off n : Nat} {v : AV} (ho : o.op = .fieldAddr t x f) (ht : fieldT P t f = some (off, ft)) (hn : szT P ft = some n) (hn0 : n ≠ 0)
    (hs : aFad off ((cOpd x).get fr) = some v) : GoodR P o N β σ a w v := by
  have h := rel_get R x
  unfold aFad at hs
  generalize (cOpd x).get fr = X at h hs
  generalize hu : a.eval x = u at h
  unfold fieldT at ht
  unfold szT at hn
  obtain ⟨fs, hfs⟩ : ∃ fs, P.underlying t = some (.struct fs) := by
    cases hd : P.underlying t with
    | none => simp [hd] at ht
    | some d => cases d <;> simp [hd] at ht; exact ⟨_, rfl⟩
  simp only [hfs, Option.map_eq_some_iff, Prod.mk.injEq] at ht
  obtain ⟨fd, hfd, h1, h2⟩ := ht
  obtain ⟨inf, hinf, h3⟩ := Option.map_eq_some_iff.1 hn
  have hrun : ∀ A : Addr, (Instr.fieldAt t (.pointer (some A)) f).run P w = .ok (.pointer (some (A.add off))) w := by
    intro A
    subst h1 h2 h3
    simp [Instr.fieldAt, run_underlying hfs, hfd, Instr.sureAddr, fieldPlace, sizeOf, typeInfo, hinf, hn0]
  cases h <;> simp only [reduceCtorEq] at hs
  case rf i k r c b hb =>
    cases hs
    refine ⟨.pointer (some ⟨b, r * k + c + off, none⟩), ?_, by rw [Nat.add_assoc]; exact .rf i k r (c + off) b hb⟩
    simp [execOp, ho, hu, hrun, add_none]
  case fp A l us hl hm hc hr =>
    split at hs
    · rename_i hlt
      cases hs
      have hadd : ∀ j, (A.add off).add j = A.add (off + j) := by
        intro j
        unfold Addr.add
        by_cases h0 : off = 0
        · simp [h0]
        · by_cases hj : j = 0
          · simp [hj, h0]
          · simp [h0, hj, Nat.add_assoc]
      refine ⟨.pointer (some (A.add off)), by simp [execOp, ho, hu, hrun], ?_⟩
      refine .fp (A.add off) (l.drop off) (fun j => us (off + j)) (by simp; omega) (by rwa [show (A.add off).block = A.block by unfold Addr.add; split <;> rfl]) ?_ ?_
      · intro j hj
        rw [hadd]; exact hc _ (by simp at hj; omega)
      · intro j z hz
        rw [List.getElem?_drop] at hz; exact hr _ _ hz
    · cases hs
theorem add_add (A : Addr) (x y : Nat) : (A.add x).add y = A.add (x + y) := by
  unfold Addr.add
  by_cases h0 : x = 0
  · simp [h0]
  · by_cases hj : y = 0
    · simp [hj, h0]
    · simp [h0, hj, Nat.add_assoc]
theorem add_block (A : Addr) (x : Nat) : (A.add x).block = A.block := by unfold Addr.add; split <;> rfl
theorem asI_some {x : AV} {n : Int} (h : asI x = some n) : ∃ k, x = .sc (.int k n) := by
  unfold asI at h
  split at h
  · cases h; exact ⟨_, rfl⟩
  · cases h
theorem run_part {t : TypeId} {m : Option Nat} (h : aggT P t = some m) (cs : Array Value) (off : Nat) (hl : off + m.getD 1 ≤ cs.size) : (Go.part t cs off).run P w = .ok (partV m (fun j => cs.getD j undef) off) w := by
  unfold partV
  unfold aggT szT at h
  cases hu : P.underlying t with
  | none => simp [hu] at h
  | some d =>
    cases d <;> simp [hu] at h <;> first
      | (obtain ⟨i, hi, rfl⟩ := h
         simp at hl
         simp [Go.part, isAgg, run_underlying hu, sizeOf, typeInfo, hi]
         apply Array.ext
         · simp; omega
         · intro j h1 h2
           simp at h1
           simp [Array.getElem?_eq_getElem (show off + j < cs.size by omega)])
      | (subst h
         simp at hl
         simp [Go.part, isAgg, run_underlying hu, Array.getElem?_eq_getElem (show off < cs.size by omega)])
theorem ag_getD {vs : Array Value} {l : List AV} (hn : vs.size = l.length) (hr : ∀ (i : Nat) (u : Value) (a : AV), vs[i]? = some u → l[i]? = some a → Rel (live N β σ) w β u a) : ∀ (j : Nat) (z : AV), l[j]? = some z → Rel (live N β σ) w β (vs.getD j undef) z := by
  intro j z hz
  have hj : j < vs.size := by rw [hn]; exact (List.getElem?_eq_some_iff.1 hz).1
  have := hr j vs[j] z (by simp [hj]) hz
  simpa [Array.getD_eq_getD_getElem?, hj] using this
theorem good_fld (R : SRel N w0 M0 β0 ds β fr σ F a w) {o : Oper} {x : Operand} {t ft : TypeId} {f off : Nat} {m : Option Nat} {v : AV} (ho : o.op = .field t x f) (ht : fieldT P t f = some (off, ft)) (hm : aggT P ft = some m)
    (hs : aFld m off ((cOpd x).get fr) = some v) : GoodR P o N β σ a w v := by
  have h := rel_get R x
  unfold aFld at hs
  generalize (cOpd x).get fr = X at h hs
  generalize hu : a.eval x = u at h
  unfold fieldT at ht
  obtain ⟨fs, hfs⟩ : ∃ fs, P.underlying t = some (.struct fs) := by
    cases hd : P.underlying t with
    | none => simp [hd] at ht
    | some d => cases d <;> simp [hd] at ht; exact ⟨_, rfl⟩
  simp only [hfs, Option.map_eq_some_iff, Prod.mk.injEq] at ht
  obtain ⟨fd, hfd, h1, h2⟩ := ht
  cases h <;> simp only [reduceCtorEq] at hs
  case ag vs l hn hr =>
    obtain ⟨hv, hlen⟩ := part_rel (ag_getD hn hr) hs
    refine ⟨partV m (fun j => vs.getD j undef) off, ?_, hv⟩
    have hrun := run_part (w := w) hm vs off (by omega)
    subst h1 h2
    simp [execOp, ho, hu, Instr.field, run_underlying hfs, hfd, asAgg, hrun]
theorem good_iarr (R : SRel N w0 M0 β0 ds β fr σ F a w) {o : Oper} {x i : Operand} {t e : TypeId} {n k : Nat} {m : Option Nat} {v : AV} (ho : o.op = .index t x i) (ht : P.underlying t = some (.array n e)) (hm : aggT P e = some m) (hk : szT P e = some k)
    (hs : aIarr m k n ((cOpd x).get fr) ((cOpd i).get fr) = some v) : GoodR P o N β σ a w v := by
  have h := rel_get R x
  have h' := rel_get R i
  unfold szT at hk
  obtain ⟨inf, hinf, hsz⟩ := Option.map_eq_some_iff.1 hk
  unfold aIarr at hs
  split at hs
  · rename_i l kk j e1 e2
    rw [e1] at h; rw [e2] at h'
    have hi := rel_sc h'
    generalize hu : a.eval x = u at h
    cases h with
    | ag vs l hn hr =>
      split at hs
      · rename_i hc
        obtain ⟨hv, hlen⟩ := part_rel (ag_getD hn hr) hs
        refine ⟨_, ?_, hv⟩
        have hrun := run_part (w := w) hm vs (j.toNat * k) (by omega)
        simp [execOp, ho, hu, hi, Instr.index, asIntOf, run_underlying ht, hc.1, hc.2, sizeOf, typeInfo, hinf, hsz, hrun]
      · cases hs
  · cases hs
theorem good_iad (R : SRel N w0 M0 β0 ds β fr σ F a w) {o : Oper} {x i : Operand} {t e : TypeId} {k : Nat} {v : AV} (ho : o.op = .indexAddr t x i) (ht : P.underlying t = some (.slice e)) (hk : szT P e = some k)
    (hs : aIad k ((cOpd x).get fr) ((cOpd i).get fr) = some v) : GoodR P o N β σ a w v := by
  have h := rel_get R x
  have h' := rel_get R i
  unfold szT at hk
  obtain ⟨inf, hinf, hsz⟩ := Option.map_eq_some_iff.1 hk
  unfold aIad at hs
  split at hs
  · rename_i kk n e2
    rw [e2] at h'
    have hi := rel_sc h'
    generalize (cOpd x).get fr = X at h hs
    generalize hu : a.eval x = u at h
    cases h <;> simp only [reduceCtorEq] at hs
    case tr A c k' rows us hk0 hc hB hrl hA hcell hr =>
      split at hs
      · rename_i hn0
        cases hrow : rows[n.toNat]? with
        | none => simp [hrow] at hs
        | some row =>
          simp only [hrow] at hs
          split at hs
          · rename_i hkk
            cases hs
            have hlt := (List.getElem?_eq_some_iff.1 hrow).1
            have hmem : row ∈ rows := List.mem_of_getElem? hrow
            have hrlen := hrl row hmem
            obtain rfl : k' = k := hrlen.symm.trans hkk
            obtain ⟨ad, rfl, hm⟩ := hA (by rintro rfl; simp at hlt)
            have hlt' : n < (rows.length : Int) := by omega
            refine ⟨.pointer (some (ad.add (n.toNat * k'))), ?_, ?_⟩
            · simp [execOp, ho, hu, hi, Instr.indexAt, asIntOf, run_underlying ht, hn0, hlt', sizeOf, typeInfo, hinf, hsz]
            · refine .fp _ row (fun j => us n.toNat j) (by intro e; rw [e] at hrlen; simp at hrlen; omega) (by rwa [add_block]) ?_ ?_
              · intro j hj
                rw [add_add]; exact hcell ad _ j rfl hlt (by omega)
              · intro j z hz
                exact hr _ j row z hrow hz
          · cases hs
      · cases hs
    case ow j k' off len cap b ee nn hl hsh hnn hb =>
      split at hs
      · rename_i hcond
        obtain ⟨rfl, hn0, hlt'⟩ := hcond
        cases hs
        refine ⟨.pointer (some ⟨b, off * k' + n.toNat * k', none⟩), ?_, ?_⟩
        · simp [execOp, ho, hu, hi, Instr.indexAt, asIntOf, run_underlying ht, hn0, hlt', sizeOf, typeInfo, hinf, hsz, add_none]
        · have := Rel.rf (β := β) (M := live N β σ) (w := w) j k' (off + n.toNat) 0 b hb
          rwa [Nat.add_zero, Nat.add_mul] at this
      · cases hs
    case ow0 A j k' =>
      split at hs
      · rename_i hcond
        have := hcond.2.2
        have := hcond.2.1
        simp at *; omega
      · cases hs
  · cases hs
theorem good_istr (R : SRel N w0 M0 β0 ds β fr σ F a w) {o : Oper} {x i : Operand} {t : TypeId} {v : AV} (ho : o.op = .index t x i) (ht : P.underlying t = some .string)
    (hs : aIstr ((cOpd x).get fr) ((cOpd i).get fr) = some v) : GoodR P o N β σ a w v := by
  have h := rel_get R x
  have h' := rel_get R i
  unfold aIstr at hs
  split at hs
  · rename_i l kk n e1 e2
    rw [e1] at h; rw [e2] at h'
    have hi := rel_sc h'
    obtain ⟨s, hu, rfl, hb⟩ := rel_s h
    split at hs
    · rename_i hn0
      cases hb : s.data.toList[n.toNat]? with
      | none => rw [hb] at hs; cases hs
      | some b =>
        rw [hb] at hs
        cases hs
        have hb' : s[n.toNat]? = some b := by
          obtain ⟨h1, h2⟩ := List.getElem?_eq_some_iff.1 hb
          rw [getElem?_pos s n.toNat (by simpa using h1)]
          exact congrArg some (by rw [Array.getElem_toList] at h2; exact h2)
        exact ⟨.int .u8 b.toNat, by simp [execOp, ho, hu, hi, Instr.index, asIntOf, run_underlying ht, hn0, hb'], .sc _⟩
    · cases hs
  · cases hs
theorem wrap_bits (k : IntKind) (n : Nat) : k.wrap n = k.wrap n := rfl
theorem rel_str {M : Nat → Prop} {w : World} {β : Nat → Option Nat} (b : ByteArray) {l : List UInt8} (h : b.data.toList = l) (hl : l.length ≤ 9223372036854775807) : Rel M w β (.string b) (.s l) := .s b l h hl
theorem good_bin (R : SRel N w0 M0 β0 ds β fr σ F a w) {o : Oper} {op : BinOp} {x y : Operand} {t yt : TypeId} {v : AV} (ho : o.op = .binOp op t x y yt)
    (hs : semBin op ((cOpd x).get fr) ((cOpd y).get fr) = some v) : GoodR P o N β σ a w v := by
  have h1 := rel_get R x
  have h2 := rel_get R y
  unfold semBin at hs
  split at hs
  · rename_i k p k' q e1 e2
    rw [e1] at h1; rw [e2] at h2
    have e1 := rel_sc h1
    have e2 := rel_sc h2
    split at hs
    · split at hs
      · cases hs
      · rename_i hq
        cases hs
        exact ⟨_, by simp [execOp, ho, e1, e2, eqGuard, Go.binOp, Op.shift, hq]; try rfl, .sc _⟩
    · split at hs
      · cases hs
      · rename_i hq
        cases hs
        exact ⟨_, by simp [execOp, ho, e1, e2, eqGuard, Go.binOp, Op.shift, hq]; try rfl, .sc _⟩
    · rename_i hsl hsr
      by_cases hk : k = k'
      · subst hk
        simp only [if_true] at hs
        cases op <;> simp only [Option.some.injEq, reduceCtorEq] at hs <;> first
          | exact absurd rfl hsl
          | exact absurd rfl hsr
          | (subst hs
             exact ⟨_, by simp [execOp, ho, e1, e2, eqGuard, Go.binOp, Op.intArith, Op.intCmp, Op.intBits, bits]; try rfl, .sc _⟩)
          | (split at hs
             · cases hs
             · rename_i hq
               cases hs
               exact ⟨_, by simp [execOp, ho, e1, e2, eqGuard, Go.binOp, Op.intDiv, hq]; try rfl, .sc _⟩)
      · rw [if_neg hk] at hs; cases hs
  · rename_i l l' g1 g2
    rw [g1] at h1; rw [g2] at h2
    obtain ⟨s, e1, rfl, hb1⟩ := rel_s h1
    obtain ⟨s', e2, rfl, hb2⟩ := rel_s h2
    clear g1 g2 h1 h2
    cases op <;> simp only [Option.some.injEq, reduceCtorEq] at hs <;> first
      | (subst hs
         exact ⟨_, by simp [execOp, ho, e1, e2, eqGuard, Go.binOp, Op.stringOp, Lib.toList_data]; try rfl, .sc _⟩)
      | (split at hs
         · rename_i hq
           cases hs
           have hq' : ¬ (9223372036854775807 < (s.size : Int) + (s'.size : Int)) := by
             have e3 : s.data.toList.length = s.size := by simp
             have e4 : s'.data.toList.length = s'.size := by simp
             omega
           exact ⟨.string (s ++ s'), by simp [execOp, ho, e1, e2, eqGuard, Go.binOp, Op.stringOp, IntKind.max, IntKind.bits, IntKind.signed, hq']; try rfl, .s _ _ (data_append' s s') (by simpa using hq)⟩
         · cases hs)
  · cases hs
theorem good_un (R : SRel N w0 M0 β0 ds β fr σ F a w) {o : Oper} {op : UnOp} {x : Operand} {t : TypeId} {v : AV} (ho : o.op = .unOp op t x)
    (hs : aUn op ((cOpd x).get fr) = some v) : GoodR P o N β σ a w v := by
  have h1 := rel_get R x
  unfold aUn at hs
  split at hs
  · rename_i e1
    rw [e1] at h1
    have e1 := rel_sc h1
    cases hs
    exact ⟨_, by simp [execOp, ho, e1, Op.unary]; try rfl, .sc _⟩
  · rename_i e1
    rw [e1] at h1
    have e1 := rel_sc h1
    cases hs
    exact ⟨_, by simp [execOp, ho, e1, Op.unary, Op.intArith]; try rfl, .sc _⟩
  · rename_i e1
    rw [e1] at h1
    have e1 := rel_sc h1
    cases hs
    exact ⟨_, by simp [execOp, ho, e1, Op.unary, Op.intBits, bits]; try rfl, .sc _⟩
  · cases hs
theorem good_cvi (R : SRel N w0 M0 β0 ds β fr σ F a w) {o : Oper} {x : Operand} {s d : TypeId} {k0 k : IntKind} {v : AV} (ho : o.op = .convert s d x) (h1 : P.underlying s = some (.int k0)) (h2 : P.underlying d = some (.int k))
    (hs : aCvi k ((cOpd x).get fr) = some v) : GoodR P o N β σ a w v := by
  have h := rel_get R x
  unfold aCvi at hs
  split at hs
  · rename_i e1
    rw [e1] at h
    have e1 := rel_sc h
    cases hs
    exact ⟨_, by simp [execOp, ho, e1, convert, run_underlying h1, run_underlying h2, Conv.intToInt]; try rfl, .sc _⟩
  · cases hs
theorem good_cvs (R : SRel N w0 M0 β0 ds β fr σ F a w) {o : Oper} {x : Operand} {s d : TypeId} {v : AV} (ho : o.op = .convert s d x) (h1 : P.underlying s = some .string) (h2 : P.underlying d = some .string) (hs : aCvs ((cOpd x).get fr) = some v) : GoodR P o N β σ a w v := by
  have h := rel_get R x
  unfold aCvs at hs
  split at hs
  · rename_i l e
    rw [e] at h
    cases hs
    obtain ⟨b, e1, rfl, hb⟩ := rel_s h
    exact ⟨.string b, by simp [execOp, ho, e1, convert, run_underlying h1, run_underlying h2]; try rfl, .s _ _ rfl hb⟩
  · cases hs
theorem good_ext (R : SRel N w0 M0 β0 ds β fr σ F a w) {o : Oper} {x : Operand} {i : Nat} {v : AV} (ho : o.op = .extract x i)
    (hs : aExt ((cOpd x).get fr) i = some v) : GoodR P o N β σ a w v := by
  have h := rel_get R x
  unfold aExt at hs
  generalize (cOpd x).get fr = X at h hs
  generalize hu : a.eval x = u at h
  cases h <;> simp only [reduceCtorEq] at hs
  case tp vs l hn hr =>
    have hi : i < vs.size := by rw [hn]; exact (List.getElem?_eq_some_iff.1 hs).1
    exact ⟨vs[i], by simp [execOp, ho, hu, Instr.extract, hi], hr i _ _ (by simp [hi]) hs⟩
theorem good_mkf (R : SRel N w0 M0 β0 ds β fr σ F a w) {o : Oper} {f : Nat} {first caps : Array Operand} (ho : o.op = .makeFunc (.func f) first caps) (h0 : first.size = 0) : GoodR P o N β σ a w (.fn f ((caps.toList.map cOpd).map (Opd.get fr))) := by
  have h0' : first = #[] := Array.size_eq_zero_iff.1 h0
  subst h0'
  refine ⟨.func (.func f) #[] (caps.map a.eval), by simp [execOp, ho, Instr.makeFunc], .fn f _ _ (by simp) (fun i u z hu hz => ?_)⟩
  rw [List.map_map, List.getElem?_map] at hz
  rw [Array.getElem?_map] at hu
  cases hc : caps[i]? with
  | none => simp [hc] at hu
  | some x =>
    rw [hc, Option.map_some] at hu
    rw [show caps.toList[i]? = some x by simpa using hc, Option.map_some] at hz
    cases hu; cases hz
    exact rel_get R x
theorem good_len_str (R : SRel N w0 M0 β0 ds β fr σ F a w) {o : Oper} {c : Call} {x : Operand} {v : AV} (ho : o.op = .call c) (hc : c.callee = .builtin .len) (ha : c.args.toList = [x])
    (ht : (c.argTypes[0]?).bind P.underlying = some .string) (hs : aLen true ((cOpd x).get fr) = some v) : GoodR P o N β σ a w v := by
  have h := rel_get R x
  unfold aLen at hs
  obtain ⟨t, ht1, ht2⟩ := Option.bind_eq_some_iff.1 ht
  have ha' : c.args = #[x] := by apply Array.ext'; simpa using ha
  split at hs
  · rename_i g e
    rw [e] at h
    obtain ⟨b, e1, rfl, hb⟩ := rel_s h
    cases hs
    exact ⟨_, by simp [execOp, ho, resolve, hc, ha', invoke, Go.builtin, Builtin.len_, ht1, e1, run_underlying ht2]; try rfl, by rw [show b.data.toList.length = b.size by simp]; exact .sc _⟩
  all_goals first
    | (rename_i g e; cases g; done)
    | cases hs
theorem good_len_sl (R : SRel N w0 M0 β0 ds β fr σ F a w) {o : Oper} {c : Call} {x : Operand} {e' : TypeId} {v : AV} (ho : o.op = .call c) (hc : c.callee = .builtin .len) (ha : c.args.toList = [x])
    (ht : (c.argTypes[0]?).bind P.underlying = some (.slice e')) (hs : aLen false ((cOpd x).get fr) = some v) : GoodR P o N β σ a w v := by
  have h := rel_get R x
  unfold aLen at hs
  obtain ⟨t, ht1, ht2⟩ := Option.bind_eq_some_iff.1 ht
  have ha' : c.args = #[x] := by apply Array.ext'; simpa using ha
  split at hs
  · rename_i g e; cases g
  all_goals first
    | (rename_i e; rw [e] at h; generalize hu : a.eval x = u at h; cases hs; cases h <;> exact ⟨_, by simp [execOp, ho, resolve, hc, ha', invoke, Go.builtin, Builtin.len_, ht1, hu, run_underlying ht2]; try rfl, .sc _⟩)
    | cases hs
theorem opt_eval (R : SRel N w0 M0 β0 ds β fr σ F a w) {d : Nat} {x : Option Operand} {n : Int} (h : optI d ((x.map cOpd).map (Opd.get fr)) = some n) : match x.map a.eval with | none => n = d | some v => ∃ k, v = .int k n := by
  cases x with
  | none => simp only [Option.map_none, optI, Option.some.injEq] at h; exact h.symm
  | some x =>
    obtain ⟨k, hk⟩ := asI_some (x := (cOpd x).get fr) h
    have := rel_get R x
    rw [hk] at this
    exact ⟨k, rel_sc this⟩
theorem run_bounds {s : Bool} {len cap : Nat} {lo hi : Option Value} {l h : Int} (h1 : match lo with | none => l = 0 | some v => ∃ k, v = .int k l) (h2 : match hi with | none => h = len | some v => ∃ k, v = .int k h) (h0 : 0 ≤ l) (hlh : l ≤ h) (hc : h ≤ cap) :
    (Instr.sliceBounds s len cap lo hi none).run P w = .ok (l.toNat, h.toNat, cap) w := by
  have hb : ∀ (k : IntKind) (n : Int) (y : Nat) (c : BoundsCode), 0 ≤ n → n ≤ y → (Instr.sliceBound (.int k n) y c).run P w = .ok n.toNat w := by
    intro k n y c h1 h2
    simp [Instr.sliceBound, asIntOf, h1, h2]
  have hl' : l ≤ (h.toNat : Int) := by omega
  cases lo <;> cases hi <;> simp only at h1 h2
  · subst h1 h2; simp [Instr.sliceBounds]
  · obtain ⟨k, rfl⟩ := h2; subst h1; cases s <;> simp [Instr.sliceBounds, hb _ _ _ _ hlh hc]
  · obtain ⟨k, rfl⟩ := h1; subst h2; simp [Instr.sliceBounds, hb _ _ _ _ h0 hlh]
  · obtain ⟨k, rfl⟩ := h1; obtain ⟨k', rfl⟩ := h2; cases s <;> simp [Instr.sliceBounds, hb _ _ _ _ h0 hl', hb _ _ _ _ (Int.le_trans h0 hlh) hc]
theorem run_bound1 {k : IntKind} {n : Int} {y : Nat} {c : BoundsCode} (h1 : 0 ≤ n) (h2 : n ≤ y) : (Instr.sliceBound (.int k n) y c).run P w = .ok n.toNat w := by
  simp [Instr.sliceBound, asIntOf, h1, h2]
theorem good_sstr (R : SRel N w0 M0 β0 ds β fr σ F a w) {o : Oper} {x : Operand} {lo hi : Option Operand} {t : TypeId} {v : AV} (ho : o.op = .slice t x lo hi none) (ht : P.underlying t = some .string)
    (hs : aSstr ((cOpd x).get fr) ((lo.map cOpd).map (Opd.get fr)) ((hi.map cOpd).map (Opd.get fr)) = some v) : GoodR P o N β σ a w v := by
  have h := rel_get R x
  unfold aSstr at hs
  split at hs
  · rename_i s g
    rw [g] at h
    obtain ⟨b, e, rfl, hb⟩ := rel_s h
    clear g h
    have hbs : b.data.toList.length = b.size := by simp
    split at hs
    · rename_i l hh e1 e2
      split at hs
      · rename_i hcond
        cases hs
        rw [hbs] at e2
        have r := run_bounds (P := P) (w := w) (s := false) (opt_eval R e1) (opt_eval R e2) hcond.1 hcond.2.1 (show hh ≤ ((b.size : Nat) : Int) by rw [← hbs]; exact hcond.2.2)
        refine ⟨_, by simp [execOp, ho, e, Instr.sliceAt, Instr.slice, run_underlying ht, r]; try rfl, .s _ _ ?_ (by simp; omega)⟩
        rw [Lib.extract_data]
        rw [List.drop_take]
      · cases hs
    · cases hs
  · cases hs
theorem all_len {k : Nat} {rows : List (List AV)} (h : rows.all (fun r => r.length == k) = true) : ∀ r ∈ rows, r.length = k := fun r hr => by simpa using List.all_eq_true.1 h r hr
theorem good_slc (R : SRel N w0 M0 β0 ds β fr σ F a w) {o : Oper} {x : Operand} {lo hi mx : Option Operand} {t e' : TypeId} {k : Nat} {v : AV} (ho : o.op = .slice t x lo hi mx) (ht : P.underlying t = some (.slice e')) (hk : szT P e' = some k) (hk0 : 0 < k)
    (hs : aSlc k ((cOpd x).get fr) ((lo.map cOpd).map (Opd.get fr)) ((hi.map cOpd).map (Opd.get fr)) ((mx.map cOpd).map (Opd.get fr)) = some v) : GoodR P o N β σ a w v := by
  have h := rel_get R x
  unfold szT at hk
  obtain ⟨inf, hinf, hsz⟩ := Option.map_eq_some_iff.1 hk
  have i0 : ∀ (y : Operand), asI ((cOpd y).get fr) = some 0 → ∃ k, a.eval y = .int k 0 := fun y hy => by
    obtain ⟨k, hk⟩ := asI_some hy
    have := rel_get R y
    rw [hk] at this
    exact ⟨k, rel_sc this⟩
  -- a slice of no room
  have hem : ∀ (A : Option Addr) (len c : Nat), a.eval x = .slice A len c → optI 0 ((lo.map cOpd).map (Opd.get fr)) = some 0 → (hi = none ∧ len = 0 ∨ ∃ h2, hi = some h2 ∧ asI ((cOpd h2).get fr) = some 0) →
      (mx = none ∧ c = 0 ∨ ∃ m, mx = some m ∧ hi ≠ none ∧ asI ((cOpd m).get fr) = some 0) → ∃ A', (execOp a.eval o).run P w = .ok (.value (.slice A' 0 0)) w := by
    intro A len c hx e1 e2 e3
    have e1' := opt_eval R e1
    rcases e2 with ⟨rfl, rfl⟩ | ⟨h2, rfl, e2⟩
    · rcases e3 with ⟨rfl, rfl⟩ | ⟨m, rfl, e, _⟩
      · cases lo with
        | none => exact ⟨_, by simp [execOp, ho, hx, Instr.sliceAt, Instr.slice, Instr.sliceBounds, run_underlying ht, sizeOf, typeInfo, hinf]; try rfl⟩
        | some l1 =>
          obtain ⟨k1, e1'⟩ := e1'
          exact ⟨_, by simp [execOp, ho, hx, e1', Instr.sliceAt, Instr.slice, Instr.sliceBounds, Instr.sliceBound, asIntOf, run_underlying ht, sizeOf, typeInfo, hinf]; try rfl⟩
      · exact absurd rfl e
    · obtain ⟨k2, e2'⟩ := i0 h2 e2
      rcases e3 with ⟨rfl, rfl⟩ | ⟨m, rfl, e, e3⟩
      · cases lo with
        | none => exact ⟨_, by simp [execOp, ho, hx, e2', Instr.sliceAt, Instr.slice, Instr.sliceBounds, Instr.sliceBound, asIntOf, run_underlying ht, sizeOf, typeInfo, hinf]; try rfl⟩
        | some l1 =>
          obtain ⟨k1, e1'⟩ := e1'
          exact ⟨_, by simp [execOp, ho, hx, e1', e2', Instr.sliceAt, Instr.slice, Instr.sliceBounds, Instr.sliceBound, asIntOf, run_underlying ht, sizeOf, typeInfo, hinf]; try rfl⟩
      · obtain ⟨k3, e3'⟩ := i0 m e3
        cases lo with
        | none => exact ⟨_, by simp [execOp, ho, hx, e2', e3', Instr.sliceAt, Instr.slice, Instr.sliceBounds, Instr.sliceBound, asIntOf, run_underlying ht, sizeOf, typeInfo, hinf]; try rfl⟩
        | some l1 =>
          obtain ⟨k1, e1'⟩ := e1'
          exact ⟨_, by simp [execOp, ho, hx, e1', e2', e3', Instr.sliceAt, Instr.slice, Instr.sliceBounds, Instr.sliceBound, asIntOf, run_underlying ht, sizeOf, typeInfo, hinf]; try rfl⟩
  have hi0 : ∀ d, optI d ((hi.map cOpd).map (Opd.get fr)) = some 0 → hi = none ∧ (d : Int) = 0 ∨ ∃ h2, hi = some h2 ∧ asI ((cOpd h2).get fr) = some 0 := by
    intro d h
    cases hi with
    | none => simp only [Option.map_none, optI, Option.some.injEq] at h; exact .inl ⟨rfl, h⟩
    | some h2 => exact .inr ⟨h2, rfl, h⟩
  have hmx : ∀ m, asI m = some 0 → (mx.map cOpd).map (Opd.get fr) = some m → (hi.map cOpd).map (Opd.get fr) ≠ none → ∃ m, mx = some m ∧ hi ≠ none ∧ asI ((cOpd m).get fr) = some 0 := by
    intro m h1 h2 h3
    cases mx with
    | none => cases h2
    | some m' => cases h2; exact ⟨m', rfl, fun e => by subst e; exact h3 rfl, h1⟩
  unfold aSlc at hs
  generalize (cOpd x).get fr = X at h hs
  generalize hu : a.eval x = u at h
  cases h <;> simp only [reduceCtorEq] at hs
  case em A =>
    split at hs
    · rename_i l h' m e1 e2 e3
      split at hs
      · rename_i hcond
        obtain ⟨rfl, rfl, rfl, hmh⟩ := hcond
        cases hs
        have h3 : mx = none ∧ (0 : Nat) = 0 ∨ ∃ m, mx = some m ∧ hi ≠ none ∧ asI ((cOpd m).get fr) = some 0 := by
          cases mx with
          | none => exact .inl ⟨rfl, rfl⟩
          | some m => exact .inr ⟨m, rfl, fun e => by subst e; simp at hmh, e3⟩
        obtain ⟨A', hrun⟩ := hem _ _ _ hu e1 ((hi0 0 e2).imp (fun h => ⟨h.1, rfl⟩) (fun h => h)) h3
        exact ⟨_, hrun, .em _⟩
      · cases hs
    · cases hs
  case tr A c k' rows us hk1 hc hB hrl hA hcell hr =>
    split at hs
    · rename_i l hh e1 e2 e3
      split at hs
      · rename_i hcond
        obtain ⟨ck, c1, c2, c3⟩ := hcond
        cases hs
        have hmx0 : mx = none := by cases mx with | none => rfl | some m => cases e3
        subst hmx0
        have r := run_bounds (P := P) (w := w) (s := true) (opt_eval R e1) (opt_eval R e2) c1 c2 (show hh ≤ (c : Int) by omega)
        have hlen : ((rows.take hh.toNat).drop l.toNat).length = hh.toNat - l.toNat := by simp; omega
        have hkk : rows ≠ [] → k' = k := by
          intro hne
          cases rows with
          | nil => exact absurd rfl hne
          | cons r0 rows => rw [← hrl r0 (by simp)]; exact all_len ck r0 (by simp)
        refine ⟨.slice (if c = l.toNat then A else A.map (·.add (l.toNat * k))) (hh.toNat - l.toNat) (c - l.toNat), ?_, ?_⟩
        · simp [execOp, ho, hu, Instr.sliceAt, Instr.slice, run_underlying ht, r, sizeOf, typeInfo, hinf, hsz]
        · rw [← hlen]
          refine .tr _ _ k _ (fun i j => us (l.toNat + i) j) hk0 (by rw [hlen]; omega) (by rw [hlen]; omega) (fun z hz => all_len ck z (List.mem_of_mem_take (List.mem_of_mem_drop hz))) ?_ ?_ ?_
          · intro hne
            have hlt : l.toNat < hh.toNat := by
              rcases Nat.lt_or_ge l.toNat hh.toNat with h | h
              · exact h
              · exact absurd (List.eq_nil_of_length_eq_zero (by rw [hlen]; omega)) hne
            obtain ⟨ad, rfl, hm⟩ := hA (by rintro rfl; simp at c3; omega)
            rw [if_neg (by omega)]
            exact ⟨_, rfl, by rwa [add_block]⟩
          · intro ad i j had hi hj
            rw [hlen] at hi
            have hne : rows ≠ [] := by rintro rfl; simp at c3; omega
            obtain ⟨ad', rfl, hm⟩ := hA hne
            obtain rfl := hkk hne
            rw [if_neg (by omega)] at had
            cases had
            rw [add_add, ← Nat.add_assoc, ← Nat.add_mul]
            exact hcell ad' _ j rfl (by omega) hj
          · intro i j z q hz hq
            rw [List.getElem?_drop, List.getElem?_take] at hz
            split at hz
            · exact hr _ j z q hz hq
            · cases hz
      · cases hs
    · rename_i l hh kk m e1 e2 e3
      split at hs
      · rename_i hcond
        obtain ⟨rfl, rfl, rfl, hso⟩ := hcond
        cases hs
        obtain ⟨A', hrun⟩ := hem _ _ _ hu e1 ((hi0 _ e2).imp (fun h => ⟨h.1, by omega⟩) (fun h => h)) (.inr (hmx _ rfl e3 (by intro e; rw [e] at hso; cases hso)))
        exact ⟨_, hrun, .em _⟩
      · cases hs
    · cases hs
  case ow jd k' off len cap b ee nn hl hsh hnn hb =>
    split at hs
    · rename_i l hh e1 e2 e3
      split at hs
      · rename_i hcond
        obtain ⟨rfl, c1, c2, c3, c4⟩ := hcond
        cases hs
        have hmx0 : mx = none := by cases mx with | none => rfl | some m => cases e3
        subst hmx0
        have r := run_bounds (P := P) (w := w) (s := true) (opt_eval R e1) (opt_eval R e2) c1 c2 (show hh ≤ (cap : Int) by omega)
        refine ⟨.slice (if cap = l.toNat then some ⟨b, off * k', none⟩ else some ⟨b, off * k' + l.toNat * k', none⟩) (hh.toNat - l.toNat) (cap - l.toNat), ?_, ?_⟩
        · simp [execOp, ho, hu, Instr.sliceAt, Instr.slice, run_underlying ht, r, sizeOf, typeInfo, hinf, hsz, add_none]
        · have key : (if cap = l.toNat then some (⟨b, off * k', none⟩ : Addr) else some ⟨b, off * k' + l.toNat * k', none⟩) = some ⟨b, (off + l.toNat) * k', none⟩ := by
            split
            · have : l = 0 := by omega
              subst this; simp
            · rw [Nat.add_mul]
          rw [key]
          refine .ow jd k' (off + l.toNat) _ _ b ee nn hb (by omega) hsh (Nat.le_trans ?_ hnn)
          exact Nat.mul_le_mul_right _ (by omega)
      · cases hs
    · rename_i l hh kk m e1 e2 e3
      split at hs
      · rename_i hcond
        obtain ⟨rfl, rfl, rfl, hso⟩ := hcond
        cases hs
        obtain ⟨A', hrun⟩ := hem _ _ _ hu e1 ((hi0 _ e2).imp (fun h => ⟨h.1, by omega⟩) (fun h => h)) (.inr (hmx _ rfl e3 (by intro e; rw [e] at hso; cases hso)))
        exact ⟨_, hrun, .em _⟩
      · cases hs
    · cases hs
  case ow0 A jd k' =>
    split at hs
    · rename_i l hh e1 e2 e3
      split at hs
      · rename_i hcond
        obtain ⟨rfl, c1, c2, c3, c4⟩ := hcond
        cases hs
        have hmx0 : mx = none := by cases mx with | none => rfl | some m => cases e3
        subst hmx0
        obtain rfl : l = 0 := by simp at c3; omega
        obtain rfl : hh = 0 := by simp at c3; omega
        obtain ⟨A', hrun⟩ := hem _ _ _ hu e1 ((hi0 _ e2).imp (fun h => ⟨h.1, by omega⟩) (fun h => h)) (.inl ⟨rfl, rfl⟩)
        exact ⟨_, hrun, .ow0 _ _ _⟩
      · cases hs
    · rename_i l hh kk m e1 e2 e3
      split at hs
      · rename_i hcond
        obtain ⟨rfl, rfl, rfl, hso⟩ := hcond
        cases hs
        obtain ⟨A', hrun⟩ := hem _ _ _ hu e1 ((hi0 _ e2).imp (fun h => ⟨h.1, by omega⟩) (fun h => h)) (.inr (hmx _ rfl e3 (by intro e; rw [e] at hso; cases hso)))
        exact ⟨_, hrun, .em _⟩
      · cases hs
    · cases hs
theorem good_nck (R : SRel N w0 M0 β0 ds β fr σ F a w) {o : Oper} {x : Operand} {v : AV} (ho : o.op = .nilCheck x)
    (hs : aNck ((cOpd x).get fr) = some v) : GoodR P o N β σ a w v := by
  have h := rel_get R x
  unfold aNck at hs
  generalize (cOpd x).get fr = X at h hs
  generalize hu : a.eval x = u at h
  have h' := h
  cases h <;> simp only [reduceCtorEq, Option.some.injEq] at hs <;> subst hs <;> exact ⟨_, by simp [execOp, ho, hu]; try rfl, h'⟩
theorem good_mki (R : SRel N w0 M0 β0 ds β fr σ F a w) {o : Oper} {x : Operand} {t : TypeId} {v : AV} (ho : o.op = .makeInterface t x) {d : TypeDesc} (ht : P.underlying t = some d) (hd : ∀ ms, d ≠ .interface ms)
    (hs : aMki t ((cOpd x).get fr) = some v) : GoodR P o N β σ a w v := by
  have h := rel_get R x
  have hrun : (execOp a.eval o).run P w = .ok (.value (.iface t (a.eval x))) w := by
    cases d <;> first | exact absurd rfl (hd _) | simp [execOp, ho, Instr.makeInterface, run_underlying ht]
  unfold aMki at hs
  split at hs
  · rename_i e
    rw [e] at h
    have e := rel_sc h
    cases hs
    exact ⟨_, by rw [hrun, e], .sc _⟩
  · rename_i k p k' q e
    rw [e] at h
    generalize hu : a.eval x = u at h hrun
    cases h with
    | ag vs l hn hr =>
      cases hs
      have hvs : vs = #[.int k p, .int k' q] := by
        have h0 : vs.size = 2 := hn
        have e0 := rel_sc (hr 0 vs[0] _ (by simp [h0]) rfl)
        have e1 := rel_sc (hr 1 vs[1] _ (by simp [h0]) rfl)
        apply Array.ext (by simpa using h0)
        intro i h1 h2
        match i, h1 with
        | 0, _ => exact e0
        | 1, _ => exact e1
        | i + 2, h1 => omega
      subst hvs
      exact ⟨_, hrun, .sc _⟩
  · cases hs
theorem good_tas (R : SRel N w0 M0 β0 ds β fr σ F a w) {o : Oper} {x : Operand} {xt t : TypeId} {z : Value} {v : AV} {i : TypeInfo} {d : TypeDesc} (ho : o.op = .typeAssert x xt t true) (ht : P.underlying t = some d) (hd : ∀ ms, d ≠ .interface ms) (hi : P.info? t = some i) (hz : i.zero = some z)
    (hs : aTas t z ((cOpd x).get fr) = some v) : GoodR P o N β σ a w v := by
  have h := rel_get R x
  have two : ∀ (u1 u2 : Value) (a1 a2 : AV), Rel (live N β σ) w β u1 a1 → Rel (live N β σ) w β u2 a2 → Rel (live N β σ) w β (.tuple #[u1, u2]) (.tp [a1, a2]) := by
    intro u1 u2 a1 a2 h1 h2
    refine .tp _ _ rfl (fun i u z hu hz => ?_)
    match i with
    | 0 => simp at hu hz; subst hu hz; exact h1
    | 1 => simp at hu hz; subst hu hz; exact h2
    | i + 2 => simp at hu
  unfold aTas at hs
  split at hs
  · rename_i t' u e
    rw [e] at h
    have e := rel_sc h
    split at hs
    · rename_i htt
      subst htt
      cases hs
      refine ⟨.tuple #[u, .bool true], ?_, two _ _ _ _ (rel_ofV _ _ _ _) (.sc _)⟩
      cases d <;> first | exact absurd rfl (hd _) | simp [execOp, ho, e, Instr.typeAssert, run_underlying ht]
    · rename_i htt
      cases hs
      refine ⟨.tuple #[z, .bool false], ?_, two _ _ _ _ (rel_ofV _ _ _ _) (.sc _)⟩
      cases d <;> first | exact absurd rfl (hd _) | simp [execOp, ho, e, Instr.typeAssert, run_underlying ht, htt, zeroValue, typeInfo, hi, hz]
  · rename_i e
    rw [e] at h
    have e := rel_sc h
    cases hs
    refine ⟨.tuple #[z, .bool false], ?_, two _ _ _ _ (rel_ofV _ _ _ _) (.sc _)⟩
    cases d <;> first | exact absurd rfl (hd _) | simp [execOp, ho, e, Instr.typeAssert, run_underlying ht, zeroValue, typeInfo, hi, hz]
  · cases hs
end
end Go.Proofs.Ytlhnncmflnjinaa.Am
