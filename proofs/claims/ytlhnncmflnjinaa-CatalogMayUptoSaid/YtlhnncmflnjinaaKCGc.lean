/- Packed by a program of this repo: Gc. -/
import Derived.Test.YtlhnncmflnjinaaKCMe
import Derived.Lib.AppendZerosOnto
import Derived.Lib.SliceRun
import Derived.Lib.Overlaps
import Derived.Test.YtlhnncmflnjinaaKCMo
set_option linter.unusedSimpArgs false
set_option linter.unusedVariables false
set_option maxRecDepth 100000
namespace Go.Proofs.Ytlhnncmflnjinaa
open Go Go.RowKit
variable {P : Program}

def rowPut (cur : Array Value) (o : Nat) (cs : List Value) : Array Value := (cur.toList.take o ++ cs ++ cur.toList.drop (o + cs.length)).toArray
theorem rowPut_size {cur : Array Value} {o : Nat} {cs : List Value} (h : o + cs.length ≤ cur.size) : (rowPut cur o cs).size = cur.size := by
  simp only [rowPut, List.size_toArray, List.length_append, List.length_take, List.length_drop, Array.length_toList]; omega
theorem run_copy_rowK (w : World) (dT sT ty elem : TypeId) (k g o dLen dCap : Nat) (a : Addr) (sLen sCap : Nat) (cur : Array Value) (t : TypeId) (cs : List Value)
    (hu : P.underlying dT = some (.slice elem)) (hs : (P.info? elem).map (·.size) = some k)
    (hg : w.heap[g]? = some (.cells cur t (0, 0))) (n : Nat) (hm : n = Nat.min sLen dLen) (hn : cs.length = n * k)
    (hsrc : ∀ j v, cs[j]? = some v → w.cell? (a.add j) = some v) (hfit : o + cs.length ≤ cur.size) (h1 : ∀ v ∈ cs, v.oneCell' = true) :
    (Builtin.copy_ #[dT, sT] ty #[.slice (some ⟨g, o, none⟩) dLen dCap, .slice (some a) sLen sCap]).run P w =
      .ok (goInt n) (w.setRow g (rowPut cur o cs)) := by
  have hl := run_loadCells_list (P := P) w a cs hsrc
  have hst := run_storeCells_at P g o t cs 0 cur w hg (by simpa using hfit) h1
  simp only [Nat.add_zero] at hst
  rw [hn] at hl
  cases hq : P.info? elem with
  | none => simp [hq] at hs
  | some i =>
    have hi : i.size = k := by simpa [hq] using hs
    simp [Builtin.copy_, run_underlying hu, Builtin.lenOf, Builtin.firstCells, sizeOf, typeInfo, hq, hi, ← hm, hl, hst, rowPut]
theorem run_append_rowK (w : World) (t tx ty e : TypeId) (i : TypeInfo) (ht : P.underlying t = some (.slice e)) (hi : P.info? e = some i) (b sLen sCap : Nat) (x : Value) (n : Nat) (news : List Value) (hs : Src P i.size tx x n news w)
    (hroom : sLen + n ≤ sCap) (cur : Array Value) (te : TypeId) (hg : w.heap[b]? = some (.cells cur te (0, 0))) (hfit : sLen * i.size + news.length ≤ cur.size) :
    (Builtin.append_ #[t, tx] ty #[.slice (some ⟨b, 0, none⟩) sLen sCap, x]).run P w = .ok (.slice (some ⟨b, 0, none⟩) (sLen + n) sCap) (w.setRow b (rowPut cur (sLen * i.size) news)) := by
  have hst := run_storeCells_at (P := P) b (sLen * i.size) te news 0 cur w hg (by simpa using hfit) hs.one
  simp only [Nat.add_zero] at hst
  rcases hs.kind with ⟨e', hk⟩ | hk <;> simp [Builtin.append_, run_underlying ht, run_underlying hk, sizeOf, typeInfo, hi, hs.len, hroom, hs.cells, Am.add_none, hst, rowPut]
theorem run_clear_rowK (w : World) (t e ty : TypeId) (i : TypeInfo) (z : Value) (ht : P.underlying t = some (.slice e)) (hi : P.info? e = some i) (hz : i.zero = some z) (h1 : ∀ v ∈ z.cells, v.oneCell' = true) (g o n c : Nat) (hn : 0 < n)
    (cur : Array Value) (te : TypeId) (hg : w.heap[g]? = some (.cells cur te (0, 0))) (hfit : o + n * z.cells.size ≤ cur.size) :
    (Builtin.clear_ #[t] ty #[.slice (some ⟨g, o, none⟩) n c]).run P w = .ok (.tuple #[]) (w.setRow g (rowPut cur o (Builtin.zeroCells z.cells n).toList)) := by
  have hst := run_storeCells_at (P := P) g o te (Builtin.zeroCells z.cells n).toList 0 cur w hg (by simpa [Builtin.zeroCells] using hfit) (by
    intro v hv
    simp only [Builtin.zeroCells, Array.toList_map, List.mem_map, Array.mem_toList_iff, Array.mem_range] at hv
    obtain ⟨j, hj, rfl⟩ := hv
    have : j % z.cells.size < z.cells.size := Nat.mod_lt _ (by
      rcases Nat.eq_zero_or_pos z.cells.size with h | h
      · rw [h] at hj; omega
      · exact h)
    rw [getElem!_pos z.cells _ this]
    exact h1 _ (Array.getElem_mem _))
  simp only [Nat.add_zero] at hst
  obtain ⟨m, rfl⟩ : ∃ m, n = m + 1 := ⟨n - 1, by omega⟩
  simp [Builtin.clear_, run_underlying ht, zeroValue, typeInfo, hi, hz, hst, rowPut]
/-- append as one step of a region that draws, where its run is known by an equation -/
theorem step_append_runI {ops : Array Oper} {o : Oper} {a : Act} {w : World} {K : Act → World → Prop} {Q : Exit → Act → World → Prop} {E : Prop}
    (hg : o.guard = none) (d x : Operand) (dT sT : TypeId) (hop : o.op = Op.call { callee := Callee.builtin Builtin.append, args := #[d, x], argTypes := #[dT, sT] })
    (v u : Value) (hd : a.eval d = v) (hx : a.eval x = u) {v' : Value} {w' : World} (hr : (Builtin.append_ #[dT, sT] o.type #[v, u]).run P w = .ok v' w') (hK : K (a.put o.dst v') w') :
    if Region.wanted o (yielded ops a.tmps) = true then Oper.wp P o a w K Q else E := by
  have hw : Region.wanted o (yielded ops a.tmps) = true := by simp [Region.wanted, hg]
  rw [if_pos hw]
  unfold Oper.wp
  simp [execOp, hop, resolve, invoke, builtin, hd, hx, hr, Result.andThen]
  exact hK
theorem wpList_clear_runI (w : World) {ops : Array Oper} {rest : List Oper} {o : Oper} {a : Act} {Q : Exit → Act → World → Prop} (hgd : o.guard = none) (d : Operand) (t : TypeId)
    (ho : o.op = .call { callee := .builtin .clear, args := #[d], argTypes := #[t] }) (v : Value) (hd : a.eval d = v) {v' : Value} {w' : World}
    (hr : (Builtin.clear_ #[t] o.type #[v]).run P w = .ok v' w') (h : wpList P ops Q rest (a.put o.dst v') w') : wpList P ops Q (o :: rest) a w :=
  wpList_plain hgd fun K hK => by
    have hk := hK _ _ h
    unfold Oper.wp execOp
    simp only [ho, resolve, invoke, builtin, Sem.run_bind, Sem.run_pure, Result.andThen_ok, List.map_toArray, List.map_cons, List.map_nil, hd, hr]
    exact hk
theorem put_room {C us : List Value} {N K : Nat} (hN : N ≤ C.length) (hu : us.length = K) : (rowPut C.toArray N us).toList.take (N + K) = C.take N ++ us := by
  simp only [rowPut]
  rw [List.take_append_of_le_length (by simp; omega), List.take_of_length_le (by simp; omega)]
theorem put_cut {C D Z : List Value} {I N J : Nat} (hI : I ≤ J) (hJ : J ≤ N) (hN : N ≤ C.length) (hD : D = (C.take N).drop J) (hZ : Z.length = J - I) :
    (rowPut (rowPut C.toArray I D) (I + (N - J)) Z).toList.take (I + (N - J)) = C.take I ++ D := by
  have hl : D.length = N - J := by rw [hD]; simp; omega
  have e1 : (rowPut C.toArray I D).toList.take (I + (N - J)) = C.take I ++ D := by
    simp only [rowPut]
    rw [List.take_append_of_le_length (by simp; omega), List.take_of_length_le (by simp; omega)]
  rw [rowPut, e1, List.append_assoc, List.take_append_of_le_length (by simp; omega), List.take_of_length_le (by simp; omega)]
/-- two copies: what stands behind the gap, and then the gap -/
theorem put_shift {C us : List Value} {I N K : Nat} (hI : I ≤ N) (hN : N + K ≤ C.length) (hu : us.length = K) :
    (rowPut (rowPut C.toArray (I + K) ((C.take N).drop I)) I us).toList.take (N + K) = C.take I ++ us ++ (C.take N).drop I := by
  have e1 : (rowPut C.toArray (I + K) ((C.take N).drop I)).toList.take I = C.take I := by
    simp only [rowPut, List.append_assoc]
    rw [List.take_append_of_le_length (by simp; omega)]
    simp [List.take_take, Nat.min_eq_left (Nat.le_add_right I K)]
  have e2 : (rowPut C.toArray (I + K) ((C.take N).drop I)).toList.drop (I + K) = (C.take N).drop I ++ C.drop (I + K + ((C.take N).drop I).length) := by
    simp only [rowPut, List.append_assoc]
    rw [List.drop_append_of_le_length (by simp; omega)]
    simp [List.drop_take]
  rw [rowPut]
  simp only [hu]
  rw [e1, e2, show N + K = (C.take I ++ us ++ (C.take N).drop I).length by simp [hu]; omega, ← List.append_assoc]
  exact List.take_left
theorem put_grow {R us D : List Value} {I N K : Nat} (hI : I ≤ N) (hN : N + K ≤ R.length) (hu : us.length = K) (hD : D.length = N - I) :
    (rowPut (rowPut R.toArray I us) (I + K) D).toList.take (N + K) = R.take I ++ us ++ D := by
  have e1 : (rowPut R.toArray I us).toList.take (I + K) = R.take I ++ us := by
    simp only [rowPut]
    rw [List.take_append_of_le_length (by simp; omega), List.take_of_length_le (by simp; omega)]
  rw [rowPut, e1]
  rw [List.take_append_of_le_length (by simp; omega), List.take_of_length_le (by simp; omega)]
end Go.Proofs.Ytlhnncmflnjinaa
set_option maxRecDepth 100000
namespace Go.Proofs.Ytlhnncmflnjinaa
open Go Go.RowKit Am
variable {P : Program}

/-- a list of cells, in rows -/
def RL (Q : Value → AV → Prop) (k : Nat) (us : List Value) (rows : List (List AV)) : Prop :=
  us.length = rows.length * k ∧ (∀ r ∈ rows, r.length = k) ∧ ∀ (p q : Nat) (r : List AV) (a : AV), rows[p]? = some r → r[q]? = some a → ∃ u, us[p * k + q]? = some u ∧ Q u a
section
variable {Q : Value → AV → Prop} {k : Nat} {us us' : List Value} {rows rows' : List (List AV)}
theorem RL.append (h1 : RL Q k us rows) (h2 : RL Q k us' rows') : RL Q k (us ++ us') (rows ++ rows') := by
  refine ⟨by rw [List.length_append, List.length_append, h1.1, h2.1, Nat.add_mul], fun r hr => ?_, fun p q r a hp hq => ?_⟩
  · rcases List.mem_append.1 hr with h | h
    · exact h1.2.1 r h
    · exact h2.2.1 r h
  · rw [List.getElem?_append] at hp
    split at hp
    · obtain ⟨u, hu, hq'⟩ := h1.2.2 p q r a hp hq
      exact ⟨u, by rw [List.getElem?_append_left (List.getElem?_eq_some_iff.1 hu).1]; exact hu, hq'⟩
    · rename_i hpl
      obtain ⟨u, hu, hq'⟩ := h2.2.2 _ q r a hp hq
      have : rows.length * k ≤ p * k := Nat.mul_le_mul_right _ (by omega)
      refine ⟨u, ?_, hq'⟩
      rw [List.getElem?_append_right (by rw [h1.1]; omega), h1.1, show p * k + q - rows.length * k = (p - rows.length) * k + q by rw [Nat.sub_mul]; omega]
      exact hu
theorem RL.take (h : RL Q k us rows) (i : Nat) : RL Q k (us.take (i * k)) (rows.take i) := by
  refine ⟨?_, fun r hr => h.2.1 r (List.mem_of_mem_take hr), fun p q r a hp hq => ?_⟩
  · rw [List.length_take, List.length_take, h.1]
    rcases Nat.le_total i rows.length with e | e
    · rw [Nat.min_eq_left e, Nat.min_eq_left (Nat.mul_le_mul_right _ e)]
    · rw [Nat.min_eq_right e, Nat.min_eq_right (Nat.mul_le_mul_right _ e)]
  · rw [List.getElem?_take] at hp
    split at hp
    · rename_i hpi
      obtain ⟨u, hu, hq'⟩ := h.2.2 p q r a hp hq
      have hql := (List.getElem?_eq_some_iff.1 hq).1
      rw [h.2.1 r (List.mem_of_getElem? hp)] at hql
      have : (p + 1) * k ≤ i * k := Nat.mul_le_mul_right _ hpi
      rw [Nat.add_mul] at this
      exact ⟨u, by rw [List.getElem?_take, if_pos (by omega)]; exact hu, hq'⟩
    · cases hp
theorem RL.drop (h : RL Q k us rows) (i : Nat) : RL Q k (us.drop (i * k)) (rows.drop i) := by
  refine ⟨by rw [List.length_drop, List.length_drop, h.1, Nat.sub_mul], fun r hr => h.2.1 r (List.mem_of_mem_drop hr), fun p q r a hp hq => ?_⟩
  rw [List.getElem?_drop] at hp
  obtain ⟨u, hu, hq'⟩ := h.2.2 _ q r a hp hq
  exact ⟨u, by rw [List.getElem?_drop, ← Nat.add_assoc, ← Nat.add_mul]; exact hu, hq'⟩
theorem RL.all {S : Value → Prop} (h : RL Q k us rows) (hS : ∀ r ∈ rows, ∀ a ∈ r, ∀ u, Q u a → S u) : ∀ u ∈ us, S u := by
  intro u hu
  obtain ⟨j, hj⟩ := List.mem_iff_getElem?.1 hu
  have hjl := (List.getElem?_eq_some_iff.1 hj).1
  rw [h.1] at hjl
  have hk : 0 < k := Nat.pos_of_ne_zero fun e => by subst e; omega
  have hp : j / k < rows.length := (Nat.div_lt_iff_lt_mul hk).2 hjl
  have hq : j % k < rows[j / k].length := by rw [h.2.1 _ (List.getElem_mem hp)]; exact Nat.mod_lt _ hk
  obtain ⟨u', hu', hQ⟩ := h.2.2 (j / k) (j % k) _ _ (List.getElem?_eq_getElem hp) (List.getElem?_eq_getElem hq)
  rw [show j / k * k + j % k = j by rw [Nat.mul_comm]; exact Nat.div_add_mod j k, hj] at hu'
  cases hu'
  exact hS _ (List.getElem_mem hp) _ (List.getElem_mem hq) u hQ
end
/-- what a call makes of a slice of len rows, room c: one of m rows with these cells, in place or in new memory -/
inductive Remade (k c m : Nat) (out : List Value) (A : Option Addr) (w : World) (e : Ending) (w' : World) : Prop
  | same (b : Nat) (cells cells' : Array Value) (te : TypeId) (hA : A = some ⟨b, 0, none⟩) (hc : 0 < c) (hm : m ≤ c) (hb : w.heap[b]? = some (.cells cells te (0, 0))) (he : e = .returned (.slice A m c))
      (hos : w'.os = w.os) (htape : w'.tape = w.tape) (hout : w'.output = w.output) (hsz : w'.heap.size = w.heap.size) (ho : ∀ g : Nat, g ≠ b → w'.heap[g]? = w.heap[g]?)
      (hb' : w'.heap[b]? = some (.cells cells' te (0, 0))) (hs : cells'.size = cells.size) (hcells : cells'.toList.take (m * k) = out)
  | new (c' : Nat) (cells' : Array Value) (te : TypeId) (hm : m ≤ c') (he : e = .returned (.slice (some ⟨w.heap.size, 0, none⟩) m c'))
      (hos : w'.os = w.os) (htape : w'.tape = w.tape) (hout : w'.output = w.output) (hsz : w'.heap.size = w.heap.size + 1) (ho : ∀ g : Nat, g < w.heap.size → w'.heap[g]? = w.heap[g]?)
      (hb' : w'.heap[w.heap.size]? = some (.cells cells' te (0, 0))) (hs : c' * k ≤ cells'.size) (hcells : cells'.toList.take (m * k) = out)
theorem conW_remade {f : FuncId} {k len m i0 id : Nat} {args : List AV} {pre : List (Nat × Ob)} {rows rows' : List (List AV)} (hgo : goFn P f = true)
    (hp0 : (i0, Ob.c ⟨k, rows, true, true⟩) ∈ pre) (ha0 : args[0]? = some (.ow i0 k 0 len)) (hm : rows'.length = m) (hB : m ≤ 4611686018427387904)
    (hcall : ∀ (N : Nat → Prop) (β : Nat → Option Nat) (σ : Hp) (F : Nat → Prop) (w : World) (vs : Array Value), (∀ p ∈ pre, σ p.1 = some p.2) → HRel N β σ F w → Cells (live N β σ) w β vs args →
      ∃ A c out, vs[0]? = some (.slice A len c) ∧ RL (Rel (live N β σ) w nob) k out rows' ∧ Calls P f vs w (fun e w' => Remade k c m out A w e w')) :
    ConW P f args pre id (.ret (.ow id k 0 m)) [(i0, none), (id, some (.c ⟨k, rows', true, true⟩))] := by
  refine ⟨hgo, fun N β σ F w vs hpre hF T hT hFT hA H hargs => ?_⟩
  obtain ⟨A, c, out, hv0, hout, hc⟩ := hcall N β σ F w vs hpre H hargs
  refine Calls.mono hc ?_
  intro e w' hr
  have hσ : σ i0 = some (.c ⟨k, rows, true, true⟩) := hpre _ hp0
  have hid : F id := hF id (Nat.le_refl _) (by omega)
  have hne : i0 ≠ id := fun e => by subst e; rw [(H.dom _ hid).2] at hσ; cases hσ
  have R : SRel N w (own β σ) β [] β (fun _ => .tp []) σ F { tmps := #[], defers := [] } w := ⟨H, fun t => .tp #[] [] rfl (fun i u z h _ => by simp at h), .refl _ _, fun b h _ => h, hA, rfl, fun _ _ h => h⟩
  have hrel := hargs.2 0 _ _ hv0 ha0
  have hF' : ∀ j, F j ∧ ¬ (id ≤ j ∧ j < id + 16) ∧ (j < T ∨ T ≤ j) → F j ∧ j ≠ id := fun j h => ⟨h.1, fun e => h.2.1 ⟨by omega, by omega⟩⟩
  cases hr with
  | same b cells cells' te hA' hc0 hmc hb he hos htape hout' hsz ho hb' hs hcells =>
    subst hA'
    rcases rel_ow hrel rfl with ⟨_, _, A, e1⟩ | ⟨cap, b2, ee, nn, e1, hb2, hl, hsh, hnn⟩
    · cases e1; omega
    · simp only [Nat.zero_mul] at e1
      cases e1
      have hnn' : cells.size = nn := by simp only [World.shape?, hb, Option.some.injEq, Prod.mk.injEq] at hsh; exact hsh.2
      have hfit : m * k ≤ cells'.size := by
        rw [hs, hnn']
        exact Nat.le_trans (Nat.mul_le_mul_right _ (by omega)) hnn
      obtain ⟨g1, _⟩ := R.set hσ rfl hb2 hb cells' hs ⟨k, rows', true, true⟩ (by simp only; rw [hm]; exact hfit) hout.2.1 (by simp only; omega) (fun p q r a hp hq => by
        obtain ⟨u, hu, hq'⟩ := hout.2.2 p q r a hp hq
        refine ⟨u, ?_, hq'⟩
        rw [← hcells, List.getElem?_take] at hu
        split at hu
        · simpa using hu
        · cases hu)
      have g2 : SRel N w (own β σ) β [] β (fun _ => .tp []) (upd σ i0 (some (.c ⟨k, rows', true, true⟩))) F { tmps := #[], defers := [] } w' := g1.world hos htape hout' (by simp [hsz]) (fun g hg => by
        by_cases e : g = b
        · subst e; rw [hb', setRow_heap w g cells cells' _ _ hb]
        · rw [ho g e, setRow_other w b g cells' e])
      obtain ⟨g3, _⟩ := g2.move (i := i0) (id := id) (x := .c ⟨k, rows', true, true⟩) (b := b) (by simp) hb2 hid hne
      have hσ' : upd (upd (upd σ i0 (some (.c ⟨k, rows', true, true⟩))) i0 none) id (some (.c ⟨k, rows', true, true⟩)) = upd (upd σ i0 none) id (some (.c ⟨k, rows', true, true⟩)) := by
        funext j
        simp only [upd]
        by_cases e1 : j = id
        · simp [e1]
        · by_cases e2 : j = i0
          · simp [e2]
          · simp [e1, e2]
      rw [hσ'] at g3
      refine ⟨_, T, Nat.le_refl _, g3.ext, (g3.free hF').heap, ?_, g3.frame, g3.old⟩
      subst he
      have := Rel.ow (β := upd β id (some b)) (M := live N (upd β id (some b)) (upd (upd σ i0 none) id (some (.c ⟨k, rows', true, true⟩)))) (w := w') id k 0 m c b te cells.size (by simp) hmc
        (by unfold World.shape?; rw [hb']; simp only [hs]) (by rw [hnn']; simpa using hnn)
      simpa [applyW, RelE] using this
  | new c' cells' te hmc he hos htape hout' hsz ho hb' hs hcells =>
    have hσ1 : ∀ j x, (upd σ i0 none) j = some x → ∃ y, σ j = some y ∧ Ob.le x y := by
      intro j x hj
      by_cases ej : j = i0
      · subst ej; simp at hj
      · rw [upd_ne _ _ ej] at hj; exact ⟨x, hj, .refl x⟩
    obtain ⟨R1, up1⟩ := R.less hσ1
    have hfit : m * k ≤ cells'.size := Nat.le_trans (Nat.mul_le_mul_right _ hmc) hs
    obtain ⟨g1, _⟩ := R1.new id hid cells' te ⟨k, rows', true, true⟩ (by simp only; rw [hm]; exact hfit) hout.2.1 (by simp only; omega) (fun p q r a hp hq => by
        obtain ⟨u, hu, hq'⟩ := hout.2.2 p q r a hp hq
        refine ⟨u, ?_, up1 hq'⟩
        rw [← hcells, List.getElem?_take] at hu
        split at hu
        · simpa using hu
        · cases hu)
    have g2 : SRel N w (own β σ) β [] (upd β id (some w.heap.size)) (fun _ => .tp []) (upd (upd σ i0 none) id (some (.c ⟨k, rows', true, true⟩))) (fun i => F i ∧ i ≠ id) { tmps := #[], defers := [] } w' := g1.world hos htape hout' (by simp [hsz]) (fun g hg => by
        by_cases e : g = w.heap.size
        · subst e; rw [hb', heap_alloc_new w _]
        · have : g < w.heap.size := by simp at hg; omega
          rw [ho g this, Below.heap_alloc w _ g this])
    refine ⟨_, T, Nat.le_refl _, g2.ext, (g2.free hF').heap, ?_, g2.frame, g2.old⟩
    subst he
    have := Rel.ow (β := upd β id (some w.heap.size)) (M := live N (upd β id (some w.heap.size)) (upd (upd σ i0 none) id (some (.c ⟨k, rows', true, true⟩)))) (w := w') id k 0 m c' w.heap.size te cells'.size (by simp) hmc
        (by unfold World.shape?; rw [hb']) (by simpa using hs)
    simpa [applyW, RelE] using this
/-- what a call of slices.Insert with one value does -/
def InsCalls (P : Program) (f : FuncId) (k bytes : Nat) : Prop :=
  ∀ (A : Option Addr) (n c i : Nat) (cs us : List Value) (va : Addr) (vc : Nat) (w : World), i ≤ n → n ≤ c → (n + 1) * bytes ≤ 140737488355328 → cs.length = n * k → us.length = k →
    (∀ v ∈ cs, v.oneCell' = true) → (∀ v ∈ us, v.oneCell' = true) → (n = 0 ∧ c = 0 ∨ ∃ b cells te, A = some ⟨b, 0, none⟩ ∧ b ≠ va.block ∧ w.heap[b]? = some (.cells cells te (0, 0)) ∧ c * k ≤ cells.size ∧ cells.toList.take (n * k) = cs) →
    (∃ cells te, w.heap[va.block]? = some (.cells cells te (0, 0))) → (∀ j v, us[j]? = some v → w.cell? (va.add j) = some v) →
    Calls P f #[.slice A n c, .int .i64 i, .slice (some va) 1 vc] w (fun e w' => Remade k c (n + 1) (cs.take (i * k) ++ us ++ cs.drop (i * k)) A w e w')
theorem ins_con {f : FuncId} {k bytes n i i0 i1 id : Nat} {rows : List (List AV)} {r : List AV} (hgo : goFn P f = true) (hI : InsCalls P f k bytes) (hk : 0 < k) (hn : rows.length = n) (hi : i ≤ n) (hbig : (n + 1) * bytes ≤ 140737488355328) (hby : 0 < bytes) (hne : i0 ≠ i1)
    (hrows : rows.all (fun r => r.all leafok) = true) (hr : r.all leafok = true) :
    ConW P f [.ow i0 k 0 n, .sc (.int .i64 i), .ow i1 k 0 1] [(i0, .c ⟨k, rows, true, true⟩), (i1, .c ⟨k, [r], true, true⟩)] id (.ret (.ow id k 0 (n + 1))) [(i0, none), (id, some (.c ⟨k, rows.take i ++ [r] ++ rows.drop i, true, true⟩))] := by
  have hbig' : n + 1 ≤ 140737488355328 := by
    have : (n + 1) * 1 ≤ (n + 1) * bytes := Nat.mul_le_mul_left _ hby
    omega
  refine conW_remade hgo (rows := rows) (len := n) (by simp) rfl (by simp; omega) (by omega) ?_
  intro N β σ F w vs hpre H hargs
  have hσ0 : σ i0 = some (.c ⟨k, rows, true, true⟩) := hpre (i0, _) (by simp)
  have hσ1 : σ i1 = some (.c ⟨k, [r], true, true⟩) := hpre (i1, _) (by simp)
  have hsz : vs.size = 3 := hargs.1
  have h0 := hargs.2 0 vs[0] _ (Array.getElem?_eq_getElem (by omega)) rfl
  have h1 := hargs.2 1 vs[1] _ (Array.getElem?_eq_getElem (by omega)) rfl
  have h2 := hargs.2 2 vs[2] _ (Array.getElem?_eq_getElem (by omega)) rfl
  have hvs : vs = #[vs[0], vs[1], vs[2]] := by
    apply Array.ext
    · simp [hsz]
    · intro j h1 h2
      have : j = 0 ∨ j = 1 ∨ j = 2 := by omega
      rcases this with rfl | rfl | rfl <;> rfl
  generalize vs[0] = v0 at h0 hvs
  generalize vs[1] = v1 at h1 hvs
  generalize vs[2] = v2 at h2 hvs
  subst hvs
  cases h1
  rcases rel_ow h2 rfl with ⟨_, h, _⟩ | ⟨cap1, b1, ee1, nn1, rfl, hb1, hl1, hsh1, hnn1⟩
  · cases h
  obtain ⟨cells1, te1, g1, g2, g3, g4, g5⟩ := H.phys hσ1 hb1
  simp only [List.length_singleton, Nat.one_mul] at g2
  simp only [Nat.zero_mul]
  rw [nm_true] at g5
  have hus : RL (Rel (live N β σ) w nob) k (cells1.toList.take k) [r] := by
    refine ⟨by simp; omega, g3, fun p q r' a hp hq => ?_⟩
    obtain ⟨u, hu, hrel⟩ := g5 p q r' a hp hq
    have hp0 : p = 0 := by have := (List.getElem?_eq_some_iff.1 hp).1; simp at this; exact this
    subst hp0
    have hql := (List.getElem?_eq_some_iff.1 hq).1
    rw [g3 r' (List.mem_of_getElem? hp)] at hql
    simp only at hql hu
    refine ⟨u, ?_, hrel⟩
    rw [List.getElem?_take, if_pos (by omega)]; simpa using hu
  have h1v := hus.all (S := fun v => v.oneCell' = true) (fun r' hr' a ha u hu => by
    simp only [List.mem_singleton] at hr'; subst hr'
    exact leaf_one hu (List.all_eq_true.1 hr a ha))
  have hvs : ∀ j v, (cells1.toList.take k)[j]? = some v → w.cell? ((⟨b1, 0, none⟩ : Addr).add j) = some v := fun j v hj => by
    rw [List.getElem?_take] at hj
    split at hj
    · rw [add_none, Nat.zero_add]; exact blk_cell g1 (by simpa using hj)
    · cases hj
  have hone : ∀ cs, RL (Rel (live N β σ) w nob) k cs rows → ∀ v ∈ cs, v.oneCell' = true := fun cs h => h.all (fun r' hr' a ha u hu => leaf_one hu (List.all_eq_true.1 (List.all_eq_true.1 hrows r' hr') a ha))
  rcases rel_ow h0 rfl with ⟨_, e0, A, rfl⟩ | ⟨cap, b, ee, nn, rfl, hb, hl, hsh, hnn⟩
  · subst e0
    have hr0 : rows = [] := List.eq_nil_of_length_eq_zero hn
    subst hr0
    have hcs : RL (Rel (live N β σ) w nob) k [] [] := ⟨by simp, by simp, by simp⟩
    refine ⟨A, 0, _, rfl, ((hcs.take i).append hus).append (hcs.drop i), ?_⟩
    exact hI A 0 0 i [] _ ⟨b1, 0, none⟩ cap1 w hi (Nat.le_refl _) hbig (by simp) (by simpa using hus.1) (by simp) h1v (.inl ⟨rfl, rfl⟩) ⟨_, _, g1⟩ hvs
  · obtain ⟨cells, te, k1, k2, k3, k4, k5⟩ := H.phys hσ0 hb
    simp only [Nat.zero_mul]
    rw [nm_true] at k5
    have hnn' : cells.size = nn := by simp only [World.shape?, k1, Option.some.injEq, Prod.mk.injEq] at hsh; exact hsh.2
    simp only at k2 k3 k4
    rw [hn] at k2
    have hcs : RL (Rel (live N β σ) w nob) k (cells.toList.take (n * k)) rows := by
      refine ⟨by simp [hn]; omega, k3, fun p q r' a hp hq => ?_⟩
      obtain ⟨u, hu, hrel⟩ := k5 p q r' a hp hq
      have hql := (List.getElem?_eq_some_iff.1 hq).1
      rw [k3 r' (List.mem_of_getElem? hp)] at hql
      have hpl := (List.getElem?_eq_some_iff.1 hp).1
      simp only at hu hpl
      have : (p + 1) * k ≤ n * k := Nat.mul_le_mul_right _ (by omega)
      rw [Nat.add_mul] at this
      refine ⟨u, ?_, hrel⟩
      rw [List.getElem?_take, if_pos (by omega)]; simpa using hu
    refine ⟨some ⟨b, 0, none⟩, cap, _, rfl, ((hcs.take i).append hus).append (hcs.drop i), ?_⟩
    have hbb : b ≠ b1 := fun e => hne (H.inj i0 i1 b hb (e ▸ hb1) (by simp [hσ0]) (by simp [hσ1]))
    exact hI _ n cap i _ _ ⟨b1, 0, none⟩ cap1 w hi hl hbig (by rw [hcs.1, hn]) (by simpa using hus.1) (hone _ hcs) h1v (.inr ⟨b, cells, te, rfl, hbb, k1, by rw [hnn']; simpa using hnn, rfl⟩) ⟨_, _, g1⟩ hvs
/-- what a call of slices.Delete does -/
def DelCalls (P : Program) (f : FuncId) (k : Nat) : Prop :=
  ∀ (b n c i j : Nat) (cells : Array Value) (te : TypeId) (w : World), i < j → j ≤ n → n ≤ c → n ≤ 4611686018427387904 → w.heap[b]? = some (.cells cells te (0, 0)) → c * k ≤ cells.size → (∀ v ∈ cells.toList.take (n * k), v.oneCell' = true) →
    Calls P f #[.slice (some ⟨b, 0, none⟩) n c, .int .i64 i, .int .i64 j] w (fun e w' => Remade k c (n - (j - i)) ((cells.toList.take (n * k)).take (i * k) ++ (cells.toList.take (n * k)).drop (j * k)) (some ⟨b, 0, none⟩) w e w')
theorem del_con {f : FuncId} {k n i j i0 id : Nat} {rows : List (List AV)} (hgo : goFn P f = true) (hD : DelCalls P f k) (hn : rows.length = n) (hij : i < j) (hj : j ≤ n) (hB : n ≤ 4611686018427387904)
    (hrows : rows.all (fun r => r.all leafok) = true) :
    ConW P f [.ow i0 k 0 n, .sc (.int .i64 i), .sc (.int .i64 j)] [(i0, .c ⟨k, rows, true, true⟩)] id (.ret (.ow id k 0 (n - (j - i)))) [(i0, none), (id, some (.c ⟨k, rows.take i ++ rows.drop j, true, true⟩))] := by
  refine conW_remade hgo (rows := rows) (len := n) (by simp) rfl (by simp; omega) (by omega) ?_
  intro N β σ F w vs hpre H hargs
  have hσ0 : σ i0 = some (.c ⟨k, rows, true, true⟩) := hpre (i0, _) (by simp)
  have hsz : vs.size = 3 := hargs.1
  have h0 := hargs.2 0 vs[0] _ (Array.getElem?_eq_getElem (by omega)) rfl
  have h1 := hargs.2 1 vs[1] _ (Array.getElem?_eq_getElem (by omega)) rfl
  have h2 := hargs.2 2 vs[2] _ (Array.getElem?_eq_getElem (by omega)) rfl
  have hvs : vs = #[vs[0], vs[1], vs[2]] := by
    apply Array.ext
    · simp [hsz]
    · intro j h1 h2
      have : j = 0 ∨ j = 1 ∨ j = 2 := by omega
      rcases this with rfl | rfl | rfl <;> rfl
  generalize vs[0] = v0 at h0 hvs
  generalize vs[1] = v1 at h1 hvs
  generalize vs[2] = v2 at h2 hvs
  subst hvs
  cases h1
  cases h2
  rcases rel_ow h0 rfl with ⟨_, e0, A, rfl⟩ | ⟨cap, b, ee, nn, rfl, hb, hl, hsh, hnn⟩
  · omega
  · obtain ⟨cells, te, k1, k2, k3, k4, k5⟩ := H.phys hσ0 hb
    simp only [Nat.zero_mul]
    rw [nm_true] at k5
    have hnn' : cells.size = nn := by simp only [World.shape?, k1, Option.some.injEq, Prod.mk.injEq] at hsh; exact hsh.2
    simp only at k2 k3 k4
    rw [hn] at k2
    have hcs : RL (Rel (live N β σ) w nob) k (cells.toList.take (n * k)) rows := by
      refine ⟨by simp [hn]; omega, k3, fun p q r' a hp hq => ?_⟩
      obtain ⟨u, hu, hrel⟩ := k5 p q r' a hp hq
      have hql := (List.getElem?_eq_some_iff.1 hq).1
      rw [k3 r' (List.mem_of_getElem? hp)] at hql
      have hpl := (List.getElem?_eq_some_iff.1 hp).1
      simp only at hu hpl
      have : (p + 1) * k ≤ n * k := Nat.mul_le_mul_right _ (by omega)
      rw [Nat.add_mul] at this
      refine ⟨u, ?_, hrel⟩
      rw [List.getElem?_take, if_pos (by omega)]; simpa using hu
    refine ⟨some ⟨b, 0, none⟩, cap, _, rfl, (hcs.take i).append (hcs.drop j), ?_⟩
    exact hD b n cap i j cells te w hij hj hl hB k1 (by rw [hnn']; simpa using hnn) (hcs.all (fun r' hr' a ha u hu => leaf_one hu (List.all_eq_true.1 (List.all_eq_true.1 hrows r' hr') a ha)))
end Go.Proofs.Ytlhnncmflnjinaa
