/- An abstract machine over plain values: what an abstract value says of a machine's value, what an abstract memory says of a world. -/
import Derived.Test.YtlhnncmflnjinaaBase
set_option linter.unusedSimpArgs false
set_option linter.unusedVariables false
namespace Go.Proofs.Ytlhnncmflnjinaa.Am
open Go Go.RowKit

/-- abstract values. bo: a truth, nobody knows which; any: nothing is said; sc: this very value; s: a text; em: a slice without length and room; ag, tp: a struct's cells, a tuple; tr: a slice that reads as these rows; ow: a slice into a block of the call's own (rows of k cells, from row off on, len rows); rf: a pointer to a cell of such a block; mp: a map of the call's own; fp: a pointer behind which these cells can be read; fn: a closure -/
inductive AV where
  | any
  | bo
  | sc (v : Value)
  | s (l : List UInt8)
  | em
  | ag (l : List AV)
  | tp (l : List AV)
  | tr (rows : List (List AV))
  | ow (id k off len : Nat)
  | rf (id k row col : Nat)
  | mp (id : Nat)
  | fp (l : List AV)
  | fn (f : FuncId) (l : List AV)
instance : Inhabited AV := ⟨.any⟩
/-- a block of the call's own: rows of k cells; may it be written? does no cell name a block? -/
structure Blk where
  k : Nat
  rows : List (List AV)
  wr : Bool
  cl : Bool
/-- a block, or a map -/
inductive Ob where
  | c (x : Blk)
  | m (es : List (AV × AV)) (wr : Bool)
def Ob.wr : Ob → Bool
  | .c x => x.wr
  | .m _ b => b
/-- the names that its cells may bear -/
def Blk.nm (x : Blk) (β : Nat → Option Nat) : Nat → Option Nat := if x.cl = true then fun _ => none else β
abbrev Hp := Nat → Option Ob
/-- block b is the call's own, to be written -/
def own (β : Nat → Option Nat) (σ : Hp) (b : Nat) : Prop := ∃ i x, σ i = some x ∧ x.wr = true ∧ β i = some b
/-- block b may turn: it is the call's own, or one that nothing may be said of -/
def live (N : Nat → Prop) (β : Nat → Option Nat) (σ : Hp) (b : Nat) : Prop := N b ∨ own β σ b
def nob : Nat → Option Nat := fun _ => none

inductive Rel (M : Nat → Prop) (w : World) : (Nat → Option Nat) → Value → AV → Prop
  | any {β : Nat → Option Nat} (v : Value) : Rel M w β v .any
  | bo {β : Nat → Option Nat} (b : Bool) : Rel M w β (.bool b) .bo
  | sc {β : Nat → Option Nat} (v : Value) : Rel M w β v (.sc v)
  | s {β : Nat → Option Nat} (b : ByteArray) (l : List UInt8) (hl : b.data.toList = l) (hb : l.length ≤ 9223372036854775807) : Rel M w β (.string b) (.s l)
  | em {β : Nat → Option Nat} (A : Option Addr) : Rel M w β (.slice A 0 0) .em
  | ag {β : Nat → Option Nat} (vs : Array Value) (l : List AV) (hn : vs.size = l.length) (h : ∀ (i : Nat) (u : Value) (a : AV), vs[i]? = some u → l[i]? = some a → Rel M w β u a) : Rel M w β (.agg vs) (.ag l)
  | tp {β : Nat → Option Nat} (vs : Array Value) (l : List AV) (hn : vs.size = l.length) (h : ∀ (i : Nat) (u : Value) (a : AV), vs[i]? = some u → l[i]? = some a → Rel M w β u a) : Rel M w β (.tuple vs) (.tp l)
  | tr {β : Nat → Option Nat} (A : Option Addr) (c k : Nat) (rows : List (List AV)) (us : Nat → Nat → Value) (hk : 0 < k) (hc : rows.length ≤ c) (hB : rows.length ≤ 4611686018427387904) (hr : ∀ r ∈ rows, r.length = k)
      (hA : rows ≠ [] → ∃ ad, A = some ad ∧ ¬ M ad.block)
      (hcell : ∀ ad i j, A = some ad → i < rows.length → j < k → w.cell? (ad.add (i * k + j)) = some (us i j))
      (h : ∀ (i j : Nat) (r : List AV) (a : AV), rows[i]? = some r → r[j]? = some a → Rel M w nob (us i j) a) : Rel M w β (.slice A rows.length c) (.tr rows)
  | ow {β : Nat → Option Nat} (id k off len cap b e n : Nat) (hb : β id = some b) (hl : len ≤ cap) (hs : w.shape? b = some (e, n)) (hn : (off + cap) * k ≤ n) : Rel M w β (.slice (some ⟨b, off * k, none⟩) len cap) (.ow id k off len)
  | ow0 {β : Nat → Option Nat} (A : Option Addr) (id k : Nat) : Rel M w β (.slice A 0 0) (.ow id k 0 0)
  | rf {β : Nat → Option Nat} (id k row col b : Nat) (hb : β id = some b) : Rel M w β (.pointer (some ⟨b, row * k + col, none⟩)) (.rf id k row col)
  | mp {β : Nat → Option Nat} (id b : Nat) (hb : β id = some b) : Rel M w β (.map (some b)) (.mp id)
  | fp {β : Nat → Option Nat} (a : Addr) (l : List AV) (us : Nat → Value) (hl : l ≠ []) (hM : ¬ M a.block) (hcell : ∀ j, j < l.length → w.cell? (a.add j) = some (us j)) (h : ∀ (j : Nat) (x : AV), l[j]? = some x → Rel M w nob (us j) x) : Rel M w β (.pointer (some a)) (.fp l)
  | fn {β : Nat → Option Nat} (f : FuncId) (vs : Array Value) (l : List AV) (hn : vs.size = l.length) (h : ∀ (i : Nat) (u : Value) (a : AV), vs[i]? = some u → l[i]? = some a → Rel M w β u a) : Rel M w β (.func (.func f) #[] vs) (.fn f l)

theorem Rel.step' {M M' : Nat → Prop} {w w' : World} (hM : ∀ b, b < w.heap.size → M' b → M b)
    (hcell : ∀ ad u, w.cell? ad = some u → ¬ M ad.block → w'.cell? ad = some u) (hshape : ∀ b s, w.shape? b = some s → w'.shape? b = some s)
    {β : Nat → Option Nat} {v : Value} {a : AV} (h : Rel M w β v a) : ∀ {β' : Nat → Option Nat}, (∀ i b, β i = some b → β' i = some b) → Rel M' w' β' v a := by
  induction h with
  | any v => exact fun _ => .any v
  | bo b => exact fun _ => .bo b
  | sc v => exact fun _ => .sc v
  | s b l hl hb => exact fun _ => .s b l hl hb
  | em A => exact fun _ => .em A
  | ag vs l hn _ ih => exact fun hβ => .ag vs l hn (fun i u a h1 h2 => ih i u a h1 h2 hβ)
  | tp vs l hn _ ih => exact fun hβ => .tp vs l hn (fun i u a h1 h2 => ih i u a h1 h2 hβ)
  | tr A c k rows us hk hc hB hr hA hce _ ih =>
    intro β' hβ
    refine .tr A c k rows us hk hc hB hr ?_ ?_ (fun i j r a h1 h2 => ih i j r a h1 h2 (fun _ _ h => h))
    · intro hne
      obtain ⟨ad, rfl, hm⟩ := hA hne
      refine ⟨ad, rfl, fun h' => hm (hM _ ?_ h')⟩
      have := hce ad 0 0 rfl (List.length_pos_iff.2 hne) hk
      have := World.block_lt_of_cell? w _ this
      simp only [Nat.zero_mul, Nat.add_zero, Addr.add, if_true] at this
      exact this
    · intro ad i j hA' hi hj
      have hne : rows ≠ [] := by rintro rfl; simp at hi
      obtain ⟨ad', e1, hm⟩ := hA hne
      rw [hA'] at e1; cases e1
      exact hcell _ _ (hce ad i j hA' hi hj) (by rwa [show (ad.add (i * k + j)).block = ad.block by unfold Addr.add; split <;> rfl])
  | ow id k off len cap b e n hb hl hs hn => exact fun hβ => .ow id k off len cap b e n (hβ _ _ hb) hl (hshape _ _ hs) hn
  | ow0 A id k => exact fun _ => .ow0 A id k
  | rf id k row col b hb => exact fun hβ => .rf id k row col b (hβ _ _ hb)
  | mp id b hb => exact fun hβ => .mp id b (hβ _ _ hb)
  | fp a l us hl hm hce _ ih =>
    intro β' hβ
    refine .fp a l us hl ?_ ?_ (fun j x h1 => ih j x h1 (fun _ _ h => h))
    · refine fun h' => hm (hM _ ?_ h')
      have := hce 0 (List.length_pos_iff.2 hl)
      have := World.block_lt_of_cell? w _ this
      simpa [Addr.add] using this
    · intro j hj
      exact hcell _ _ (hce j hj) (by rwa [show (a.add j).block = a.block by unfold Addr.add; split <;> rfl])
  | fn f vs l hn _ ih => exact fun hβ => .fn f vs l hn (fun i u a h1 h2 => ih i u a h1 h2 hβ)
theorem Rel.step {β β' : Nat → Option Nat} {M M' : Nat → Prop} {w w' : World} (hβ : ∀ i b, β i = some b → β' i = some b) (hM : ∀ b, b < w.heap.size → M' b → M b)
    (hcell : ∀ ad u, w.cell? ad = some u → ¬ M ad.block → w'.cell? ad = some u) (hshape : ∀ b s, w.shape? b = some s → w'.shape? b = some s)
    {v : Value} {a : AV} (h : Rel M w β v a) : Rel M' w' β' v a := Rel.step' hM hcell hshape h hβ
/-- the same world: fewer blocks that may turn -/
theorem Rel.sub {β : Nat → Option Nat} {M M' : Nat → Prop} {w : World} {v : Value} {a : AV} (h : Rel M w β v a) (hM : ∀ b, M' b → M b) : Rel M' w β v a :=
  Rel.step (fun _ _ h => h) (fun b _ h => hM b h) (fun _ _ h _ => h) (fun _ _ h => h) h
/-- what bears no name of a block holds whatever they are -/
theorem Rel.lift {β : Nat → Option Nat} {M : Nat → Prop} {w : World} {v : Value} {a : AV} (h : Rel M w nob v a) : Rel M w β v a := Rel.step (fun _ _ h => by cases h) (fun _ _ h => h) (fun _ _ h _ => h) (fun _ _ h => h) h
theorem nm_lift {x : Blk} {β : Nat → Option Nat} {M : Nat → Prop} {w : World} {v : Value} {a : AV} (h : Rel M w (x.nm β) v a) : Rel M w β v a := by
  unfold Blk.nm at h
  split at h
  · exact h.lift
  · exact h
theorem nm_step {x : Blk} {β β' : Nat → Option Nat} {M M' : Nat → Prop} {w w' : World} (hβ : ∀ i b, β i = some b → β' i = some b) (hM : ∀ b, b < w.heap.size → M' b → M b)
    (hcell : ∀ ad u, w.cell? ad = some u → ¬ M ad.block → w'.cell? ad = some u) (hshape : ∀ b s, w.shape? b = some s → w'.shape? b = some s)
    {v : Value} {a : AV} (h : Rel M w (x.nm β) v a) : Rel M' w' (x.nm β') v a := by
  refine Rel.step ?_ hM hcell hshape h
  intro i b hb
  unfold Blk.nm at hb ⊢
  split at hb
  · cases hb
  · rename_i hc; rw [if_neg hc]; exact hβ i b hb
/-- what a block of cells holds -/
def CellsAt (M : Nat → Prop) (w : World) (β : Nat → Option Nat) (x : Blk) (b : Nat) (cells : Array Value) (e : TypeId) : Prop :=
  w.heap[b]? = some (.cells cells e (0, 0)) ∧ x.rows.length * x.k ≤ cells.size ∧ (∀ r ∈ x.rows, r.length = x.k) ∧ x.rows.length ≤ 4611686018427387904 ∧
    ∀ (p q : Nat) (r : List AV) (a : AV), x.rows[p]? = some r → r[q]? = some a → ∃ u, cells[p * x.k + q]? = some u ∧ Rel M w (x.nm β) u a
/-- what a map holds -/
def MapAt (M : Nat → Prop) (w : World) (es : List (AV × AV)) (b : Nat) (ms : Array MapEntry) (cl : Nat) : Prop :=
  w.heap[b]? = some (.map ms cl) ∧ ms.size = es.length ∧ ∀ (p : Nat) (e : AV × AV) (m : MapEntry), es[p]? = some e → ms[p]? = some m → Rel M w nob m.key e.1 ∧ Rel M w nob m.val e.2
/-- an abstract memory, and the world that it speaks of -/
structure HRel (N : Nat → Prop) (β : Nat → Option Nat) (σ : Hp) (F : Nat → Prop) (w : World) : Prop where
  dom : ∀ i, F i → β i = none ∧ σ i = none
  off : ∀ i x b, σ i = some x → β i = some b → ¬ N b
  inj : ∀ i j b, β i = some b → β j = some b → (σ i).isSome → (σ j).isSome → i = j
  blk : ∀ i x, σ i = some (.c x) → (β i = none ∧ x.rows = []) ∨ ∃ b cells e, β i = some b ∧ CellsAt (live N β σ) w β x b cells e
  map : ∀ i es wr, σ i = some (.m es wr) → ∃ b ms cl, β i = some b ∧ MapAt (live N β σ) w es b ms cl
/-- what a call leaves alone: all blocks of the world that it began in, but those that it was given -/
structure Fr (w0 : World) (M0 : Nat → Prop) (w : World) : Prop where
  os : w.os = w0.os
  tape : w.tape = w0.tape
  output : w.output = w0.output
  size : w0.heap.size ≤ w.heap.size
  block : ∀ b, b < w0.heap.size → ¬ M0 b → w.heap[b]? = w0.heap[b]?
  shape : ∀ b s, w0.shape? b = some s → w.shape? b = some s
theorem Fr.refl (w : World) (M : Nat → Prop) : Fr w M w := ⟨rfl, rfl, rfl, Nat.le_refl _, fun _ _ _ => rfl, fun _ _ h => h⟩
abbrev Regs := Nat → AV
def put (fr : Regs) (d : Option Nat) (v : AV) : Regs := match d with
  | some d => fun t => if t = d then v else fr t
  | none => fr
/-- the block of a library's variable that is told once and read since -/
abbrev GB : Nat := 0
/-- blocks that may turn beside one's own; and that the library's variable is none of them -/
def Aw (N M0 : Nat → Prop) (w0 : World) : Prop := (∀ b, N b → b < w0.heap.size) ∧ ¬ N GB ∧ ¬ M0 GB ∧ ∃ m, w0.cell? ⟨GB, 0, none⟩ = some (.int .i64 m)
/-- the abstract state (fr, σ; F: names not used yet) speaks of the machine's (a, w); ds: what is deferred -/
structure SRel (N : Nat → Prop) (w0 : World) (M0 : Nat → Prop) (β0 : Nat → Option Nat) (ds : List Deferred) (β : Nat → Option Nat) (fr : Regs) (σ : Hp) (F : Nat → Prop) (a : Act) (w : World) : Prop where
  heap : HRel N β σ F w
  regs : ∀ t, Rel (live N β σ) w β (a.tmps.getD t undef) (fr t)
  frame : Fr w0 M0 w
  old : ∀ b, own β σ b → b < w0.heap.size → M0 b
  away : Aw N M0 w0
  defers : a.defers = ds
  ext : ∀ i b, β0 i = some b → β i = some b
section
variable {N : Nat → Prop} {w0 : World} {M0 : Nat → Prop} {β0 : Nat → Option Nat} {ds : List Deferred} {β : Nat → Option Nat} {fr : Regs} {σ : Hp} {F : Nat → Prop} {a : Act} {w : World}

theorem HRel.phys (H : HRel N β σ F w) {i : Nat} {x : Blk} {b : Nat} (hx : σ i = some (.c x)) (hb : β i = some b) : ∃ cells e, CellsAt (live N β σ) w β x b cells e := by
  rcases H.blk i x hx with ⟨h, _⟩ | ⟨b', cells, e, h1, h2⟩
  · rw [hb] at h; cases h
  · rw [hb] at h1; cases h1; exact ⟨cells, e, h2⟩
theorem HRel.lt (H : HRel N β σ F w) {i b : Nat} (hb : β i = some b) (hs : (σ i).isSome) : b < w.heap.size := by
  obtain ⟨y, hy⟩ := Option.isSome_iff_exists.1 hs
  cases y with
  | c x =>
    obtain ⟨cells, e, h⟩ := H.phys hy hb
    exact (Array.getElem?_eq_some_iff.1 h.1).1
  | m es wr =>
    obtain ⟨b', ms, cl, h1, h2⟩ := H.map i es wr hy
    rw [hb] at h1; cases h1
    exact (Array.getElem?_eq_some_iff.1 h2.1).1
theorem CellsAt.step {β' : Nat → Option Nat} {M M' : Nat → Prop} {w w' : World} {x : Blk} {b : Nat} {cells : Array Value} {e : TypeId} (h : CellsAt M w β x b cells e) (hβ : ∀ i b, β i = some b → β' i = some b) (hM : ∀ b, b < w.heap.size → M' b → M b)
    (hcell : ∀ ad u, w.cell? ad = some u → ¬ M ad.block → w'.cell? ad = some u) (hshape : ∀ b s, w.shape? b = some s → w'.shape? b = some s) (hb : w'.heap[b]? = w.heap[b]?) : CellsAt M' w' β' x b cells e :=
  ⟨hb.trans h.1, h.2.1, h.2.2.1, h.2.2.2.1, fun p q r a hp hq => let ⟨u, hu, hr⟩ := h.2.2.2.2 p q r a hp hq; ⟨u, hu, nm_step hβ hM hcell hshape hr⟩⟩
theorem MapAt.step {M M' : Nat → Prop} {w w' : World} {es : List (AV × AV)} {b : Nat} {ms : Array MapEntry} {cl : Nat} (h : MapAt M w es b ms cl) (hM : ∀ b, b < w.heap.size → M' b → M b)
    (hcell : ∀ ad u, w.cell? ad = some u → ¬ M ad.block → w'.cell? ad = some u) (hshape : ∀ b s, w.shape? b = some s → w'.shape? b = some s) (hb : w'.heap[b]? = w.heap[b]?) : MapAt M' w' es b ms cl :=
  ⟨hb.trans h.1, h.2.1, fun p e m hp hm => ⟨Rel.step (fun _ _ h => h) hM hcell hshape (h.2.2 p e m hp hm).1, Rel.step (fun _ _ h => h) hM hcell hshape (h.2.2 p e m hp hm).2⟩⟩

/-! the ways in which a state goes on -/
theorem getD_put (a : Act) (d : Option Nat) (u : Value) (t : Nat) : (a.put d u).tmps.getD t undef = (match d with | some d => if t = d ∧ d < a.tmps.size then u else a.tmps.getD t undef | none => a.tmps.getD t undef) := by
  cases d with
  | none => rfl
  | some d =>
    simp only [Act.put, Array.getD_eq_getD_getElem?, Array.getElem?_setIfInBounds]
    by_cases e : d = t
    · subst e
      by_cases h : d < a.tmps.size <;> simp [h]
    · simp [e, Ne.symm e]
/-- a slot is told a value -/
theorem SRel.put (h : SRel N w0 M0 β0 ds β fr σ F a w) (d : Option Nat) {u : Value} {v : AV}
    (hd : ∀ t, d = some t → t < a.tmps.size) (hv : Rel (live N β σ) w β u v) : SRel N w0 M0 β0 ds β (Am.put fr d v) σ F (a.put d u) w := by
  refine ⟨h.heap, fun t => ?_, h.frame, h.old, h.away, by cases d <;> exact h.defers, h.ext⟩
  rw [getD_put]
  cases d with
  | none => exact h.regs t
  | some d =>
    have := hd d rfl
    simp only [Am.put]
    by_cases e : t = d
    · simp [e, this, hv]
    · rw [if_neg (fun h => e h.1), if_neg e]; exact h.regs t
/-- other slots, of which as much is true -/
theorem SRel.other (h : SRel N w0 M0 β0 ds β fr σ F a w) {fr' : Regs} (hr : ∀ t, Rel (live N β σ) w β (a.tmps.getD t undef) (fr' t)) : SRel N w0 M0 β0 ds β fr' σ F a w :=
  ⟨h.heap, hr, h.frame, h.old, h.away, h.defers, h.ext⟩
/-- the same abstract memory, in a later world -/
theorem shape_of {w w' : World} (hb : ∀ b, b < w.heap.size → w'.heap[b]? = w.heap[b]?) : ∀ b s, w.shape? b = some s → w'.shape? b = some s := fun b s hs => by
  have : b < w.heap.size := Nat.lt_of_not_le fun hle => by simp [World.shape?, Array.getElem?_eq_none hle] at hs
  simpa only [World.shape?, hb _ this] using hs
theorem HRel.world {w' : World} (h : HRel N β σ F w) (_hsz : w.heap.size ≤ w'.heap.size) (hb : ∀ b, b < w.heap.size → w'.heap[b]? = w.heap[b]?) : HRel N β σ F w' ∧ (∀ {β' v a}, Rel (live N β σ) w β' v a → Rel (live N β σ) w' β' v a) := by
  have hcell : ∀ ad u, w.cell? ad = some u → ¬ live N β σ ad.block → w'.cell? ad = some u := fun ad u hc _ => by
    have := World.block_lt_of_cell? w _ hc
    simpa only [World.cell?, hb _ this] using hc
  have hshape := shape_of hb
  refine ⟨⟨h.dom, h.off, h.inj, fun i x hx => ?_, fun i es wr hx => ?_⟩, fun hr => Rel.step (fun _ _ h => h) (fun _ _ h => h) hcell hshape hr⟩
  · rcases h.blk i x hx with h0 | ⟨b, cells, e, h1, h2⟩
    · exact .inl h0
    · exact .inr ⟨b, cells, e, h1, h2.step (fun _ _ h => h) (fun _ _ h => h) hcell hshape (hb b (Array.getElem?_eq_some_iff.1 h2.1).1)⟩
  · obtain ⟨b, ms, cl, h1, h2⟩ := h.map i es wr hx
    exact ⟨b, ms, cl, h1, h2.step (fun _ _ h => h) hcell hshape (hb b (Array.getElem?_eq_some_iff.1 h2.1).1)⟩
theorem SRel.world {w' : World} (h : SRel N w0 M0 β0 ds β fr σ F a w)
    (hos : w'.os = w.os) (htape : w'.tape = w.tape) (hout : w'.output = w.output) (hsz : w.heap.size ≤ w'.heap.size) (hb : ∀ b, b < w.heap.size → w'.heap[b]? = w.heap[b]?) : SRel N w0 M0 β0 ds β fr σ F a w' := by
  obtain ⟨g1, g2⟩ := h.heap.world hsz hb
  exact ⟨g1, fun t => g2 (h.regs t), ⟨hos.trans h.frame.os, htape.trans h.frame.tape, hout.trans h.frame.output, Nat.le_trans h.frame.size hsz, fun b h1 h2 => (hb b (Nat.lt_of_lt_of_le h1 h.frame.size)).trans (h.frame.block b h1 h2), fun b s hs => shape_of hb b s (h.frame.shape b s hs)⟩, h.old, h.away, h.defers, h.ext⟩
theorem SRel.free {F' : Nat → Prop} (h : SRel N w0 M0 β0 ds β fr σ F a w) (hF : ∀ i, F' i → F i) : SRel N w0 M0 β0 ds β fr σ F' a w :=
  ⟨⟨fun i hi => h.heap.dom i (hF i hi), h.heap.off, h.heap.inj, h.heap.blk, h.heap.map⟩, h.regs, h.frame, h.old, h.away, h.defers, h.ext⟩
def upd {α : Type} (f : Nat → α) (i : Nat) (x : α) : Nat → α := fun j => if j = i then x else f j
@[simp] theorem upd_same {α : Type} (f : Nat → α) (i : Nat) (x : α) : upd f i x i = x := by simp [upd]
theorem upd_ne {α : Type} (f : Nat → α) {i j : Nat} (x : α) (h : j ≠ i) : upd f i x j = f j := by simp [upd, h]
/-- a new object -/
theorem SRel.newObj (h : SRel N w0 M0 β0 ds β fr σ F a w) (id : Nat) (hid : F id) (o : Obj) (x : Ob)
    (hc : ∀ y, x = .c y → ∃ cells e, o = .cells cells e ∧ y.rows.length * y.k ≤ cells.size ∧ (∀ r ∈ y.rows, r.length = y.k) ∧ y.rows.length ≤ 4611686018427387904 ∧
      ∀ (p q : Nat) (r : List AV) (a : AV), y.rows[p]? = some r → r[q]? = some a → ∃ u, cells[p * y.k + q]? = some u ∧ Rel (live N β σ) w (y.nm β) u a)
    (hm : ∀ es wr, x = .m es wr → ∃ ms cl, o = .map ms cl ∧ ms.size = es.length ∧ ∀ (p : Nat) (e : AV × AV) (m : MapEntry), es[p]? = some e → ms[p]? = some m → Rel (live N β σ) w nob m.key e.1 ∧ Rel (live N β σ) w nob m.val e.2) :
    SRel N w0 M0 β0 ds (upd β id (some w.heap.size)) fr (upd σ id (some x)) (fun i => F i ∧ i ≠ id) a (w.alloc o) ∧
      (∀ {v a}, Rel (live N β σ) w β v a → Rel (live N (upd β id (some w.heap.size)) (upd σ id (some x))) (w.alloc o) (upd β id (some w.heap.size)) v a) := by
  obtain ⟨hβ0, hσ0⟩ := h.heap.dom id hid
  have k1 : ∀ i b, β i = some b → (upd β id (some w.heap.size)) i = some b := by
    intro i b hb
    rw [upd_ne _ _ (fun e => by subst e; rw [hβ0] at hb; cases hb)]; exact hb
  have k2 : ∀ b, b < w.heap.size → live N (upd β id (some w.heap.size)) (upd σ id (some x)) b → live N β σ b := by
    rintro b hb (hN | ⟨i, y, h1, h2, h3⟩)
    · exact .inl hN
    by_cases e : i = id
    · subst e; simp at h3; omega
    · rw [upd_ne _ _ e] at h1 h3; exact .inr ⟨i, y, h1, h2, h3⟩
  have k3 : ∀ ad u, w.cell? ad = some u → ¬ live N β σ ad.block → (w.alloc o).cell? ad = some u := by
    intro ad u hcell _
    rw [World.cell?_alloc_lt (h := World.block_lt_of_cell? w _ hcell)]; exact hcell
  have k4 : ∀ b s, w.shape? b = some s → (w.alloc o).shape? b = some s := by
    intro b s hs
    have : b < w.heap.size := Nat.lt_of_not_le fun hle => by simp [World.shape?, Array.getElem?_eq_none hle] at hs
    simpa only [World.shape?, Below.heap_alloc w _ b this] using hs
  have up : ∀ {v a}, Rel (live N β σ) w β v a → Rel (live N (upd β id (some w.heap.size)) (upd σ id (some x))) (w.alloc o) (upd β id (some w.heap.size)) v a := Rel.step k1 k2 k3 k4
  have hb : ∀ b, b < w.heap.size → (w.alloc o).heap[b]? = w.heap[b]? := fun b hb => Below.heap_alloc w _ b hb
  refine ⟨⟨⟨?_, ?_, ?_, ?_, ?_⟩, fun t => up (h.regs t), ?_, ?_, h.away, h.defers, fun i b hb => k1 i b (h.ext i b hb)⟩, up⟩
  · rintro i ⟨hi, hne⟩
    rw [upd_ne _ _ hne, upd_ne _ _ hne]; exact h.heap.dom i hi
  · intro i y b hy hb hN
    by_cases ei : i = id
    · subst ei
      simp at hb
      have := h.away.1 b hN
      have := h.frame.size
      omega
    · rw [upd_ne _ _ ei] at hy hb; exact h.heap.off i y b hy hb hN
  · intro i j b hi hj si sj
    by_cases ei : i = id <;> by_cases ej : j = id
    · rw [ei, ej]
    · subst ei
      rw [upd_same] at hi
      rw [upd_ne _ _ ej] at hj sj
      have := h.heap.lt hj sj
      cases hi; omega
    · subst ej
      rw [upd_same] at hj
      rw [upd_ne _ _ ei] at hi si
      have := h.heap.lt hi si
      cases hj; omega
    · rw [upd_ne _ _ ei] at hi si
      rw [upd_ne _ _ ej] at hj sj
      exact h.heap.inj i j b hi hj si sj
  · intro i y hy
    by_cases ei : i = id
    · subst ei
      rw [upd_same] at hy; cases hy
      obtain ⟨cells, e, rfl, g1, g2, g3, g4⟩ := hc y rfl
      exact .inr ⟨w.heap.size, cells, e, by simp, heap_alloc_new w _, g1, g2, g3, fun p q r a hp hq => let ⟨u, hu, hr⟩ := g4 p q r a hp hq; ⟨u, hu, nm_step k1 k2 k3 k4 hr⟩⟩
    · rw [upd_ne _ _ ei] at hy
      rcases h.heap.blk i y hy with h0 | ⟨b, cells, e, h1, h2⟩
      · exact .inl (by rw [upd_ne _ _ ei]; exact h0)
      · exact .inr ⟨b, cells, e, by rw [upd_ne _ _ ei]; exact h1, h2.step k1 k2 k3 k4 (hb b (Array.getElem?_eq_some_iff.1 h2.1).1)⟩
  · intro i es wr hy
    by_cases ei : i = id
    · subst ei
      rw [upd_same] at hy; cases hy
      obtain ⟨ms, cl, rfl, g1, g2⟩ := hm es wr rfl
      exact ⟨w.heap.size, ms, cl, by simp, heap_alloc_new w _, g1, fun p e m hp hm => ⟨Rel.step (fun _ _ h => h) k2 k3 k4 (g2 p e m hp hm).1, Rel.step (fun _ _ h => h) k2 k3 k4 (g2 p e m hp hm).2⟩⟩
    · rw [upd_ne _ _ ei] at hy
      obtain ⟨b, ms, cl, h1, h2⟩ := h.heap.map i es wr hy
      exact ⟨b, ms, cl, by rw [upd_ne _ _ ei]; exact h1, h2.step k2 k3 k4 (hb b (Array.getElem?_eq_some_iff.1 h2.1).1)⟩
  · refine ⟨h.frame.os, h.frame.tape, h.frame.output, Nat.le_trans h.frame.size (by simp), fun b h1 h2 => ?_, fun b s hs => k4 b s (h.frame.shape b s hs)⟩
    rw [Below.heap_alloc w _ b (Nat.lt_of_lt_of_le h1 h.frame.size)]; exact h.frame.block b h1 h2
  · rintro b ⟨i, y, h1, h2, h3⟩ hb
    by_cases ei : i = id
    · subst ei; simp at h3
      have := h.frame.size; omega
    · rw [upd_ne _ _ ei] at h1 h3
      exact h.old b ⟨i, y, h1, h2, h3⟩ hb
/-- a new block, that the call may write -/
theorem SRel.new (h : SRel N w0 M0 β0 ds β fr σ F a w) (id : Nat) (hid : F id)
    (cells : Array Value) (e : TypeId) (x : Blk) (hn : x.rows.length * x.k ≤ cells.size) (hr : ∀ r ∈ x.rows, r.length = x.k) (hB : x.rows.length ≤ 4611686018427387904)
    (hc : ∀ (p q : Nat) (r : List AV) (a : AV), x.rows[p]? = some r → r[q]? = some a → ∃ u, cells[p * x.k + q]? = some u ∧ Rel (live N β σ) w (x.nm β) u a) :
    SRel N w0 M0 β0 ds (upd β id (some w.heap.size)) fr (upd σ id (some (.c x))) (fun i => F i ∧ i ≠ id) a (w.alloc (.cells cells e)) ∧
      (∀ {v a}, Rel (live N β σ) w β v a → Rel (live N (upd β id (some w.heap.size)) (upd σ id (some (.c x)))) (w.alloc (.cells cells e)) (upd β id (some w.heap.size)) v a) :=
  h.newObj id hid _ _ (fun y hy => by cases hy; exact ⟨cells, e, rfl, hn, hr, hB, hc⟩) (fun es wr h => by cases h)
/-- the same object, perhaps no more to be written -/
inductive Ob.le : Ob → Ob → Prop
  | c (k : Nat) (rows : List (List AV)) (wr wr' cl : Bool) (h : wr = true → wr' = true) : Ob.le (.c ⟨k, rows, wr, cl⟩) (.c ⟨k, rows, wr', cl⟩)
  | m (es : List (AV × AV)) (wr wr' : Bool) (h : wr = true → wr' = true) : Ob.le (.m es wr) (.m es wr')
theorem Ob.le.refl (x : Ob) : Ob.le x x := by cases x with | c x => cases x; exact .c _ _ _ _ _ (fun h => h) | m es wr => exact .m _ _ _ (fun h => h)
theorem Ob.le.wr {x y : Ob} (h : Ob.le x y) : x.wr = true → y.wr = true := by cases h <;> assumption
/-- a block may no longer be written, or is forgotten -/
theorem HRel.less {σ' : Hp} (h : HRel N β σ F w) (hσ : ∀ i x, σ' i = some x → ∃ y, σ i = some y ∧ Ob.le x y) :
    HRel N β σ' F w ∧ (∀ b, own β σ' b → own β σ b) ∧ (∀ {β' v a}, Rel (live N β σ) w β' v a → Rel (live N β σ') w β' v a) := by
  have hl0 : ∀ b, own β σ' b → own β σ b := by
    rintro b ⟨i, x, h1, h2, h3⟩
    obtain ⟨y, hy, hle⟩ := hσ i x h1
    exact ⟨i, y, hy, hle.wr h2, h3⟩
  have hl : ∀ b, live N β σ' b → live N β σ b := fun b h => h.imp (fun h => h) (hl0 b)
  have hs : ∀ i, (σ' i).isSome → (σ i).isSome := fun i hi => by
    obtain ⟨x, hx⟩ := Option.isSome_iff_exists.1 hi
    obtain ⟨y, hy, _⟩ := hσ i x hx
    simp [hy]
  refine ⟨⟨fun i hi => ⟨(h.dom i hi).1, ?_⟩, fun i x b hx hb => (let ⟨y, hy, _⟩ := hσ i x hx; h.off i y b hy hb), fun i j b hi hj si sj => h.inj i j b hi hj (hs i si) (hs j sj), fun i x hx => ?_, fun i es wr hx => ?_⟩, hl0, fun hr => hr.sub hl⟩
  · cases hx : σ' i with
    | none => rfl
    | some x => obtain ⟨y, hy, _⟩ := hσ i x hx; rw [(h.dom i hi).2] at hy; cases hy
  · obtain ⟨y, hy, hle⟩ := hσ i _ hx
    cases hle with
    | c k rows wr wr' cl hw =>
      rcases h.blk i _ hy with h0 | ⟨b, cells, e, h1, h2⟩
      · exact .inl h0
      · exact .inr ⟨b, cells, e, h1, h2.1, h2.2.1, h2.2.2.1, h2.2.2.2.1, fun p q r a hp hq => let ⟨u, hu, hr⟩ := h2.2.2.2.2 p q r a hp hq; ⟨u, hu, Rel.sub hr hl⟩⟩
  · obtain ⟨y, hy, hle⟩ := hσ i _ hx
    cases hle with
    | m es wr wr' hw =>
      obtain ⟨b, ms, cl, h1, h2⟩ := h.map i _ _ hy
      exact ⟨b, ms, cl, h1, h2.1, h2.2.1, fun p e m hp hm => ⟨Rel.sub (h2.2.2 p e m hp hm).1 hl, Rel.sub (h2.2.2 p e m hp hm).2 hl⟩⟩
theorem SRel.less {σ' : Hp} (h : SRel N w0 M0 β0 ds β fr σ F a w) (hσ : ∀ i x, σ' i = some x → ∃ y, σ i = some y ∧ Ob.le x y) :
    SRel N w0 M0 β0 ds β fr σ' F a w ∧ (∀ {β' v a}, Rel (live N β σ) w β' v a → Rel (live N β σ') w β' v a) := by
  obtain ⟨g1, g2, g3⟩ := h.heap.less hσ
  exact ⟨⟨g1, fun t => g3 (h.regs t), h.frame, fun b hb => h.old b (g2 b hb), h.away, h.defers, h.ext⟩, g3⟩
/-- a name for nothing: rows that are none -/
theorem SRel.imagine (h : SRel N w0 M0 β0 ds β fr σ F a w) (id : Nat) (hid : F id) (k : Nat) (cl : Bool) : SRel N w0 M0 β0 ds β fr (upd σ id (some (.c ⟨k, [], true, cl⟩))) (fun i => F i ∧ i ≠ id) a w ∧
    (∀ {β' v a}, Rel (live N β σ) w β' v a → Rel (live N β (upd σ id (some (.c ⟨k, [], true, cl⟩)))) w β' v a) := by
  obtain ⟨hβ0, hσ0⟩ := h.heap.dom id hid
  have hl0 : ∀ b, own β (upd σ id (some (.c ⟨k, [], true, cl⟩))) b → own β σ b := by
    rintro b ⟨i, x, h1, h2, h3⟩
    by_cases e : i = id
    · subst e; rw [hβ0] at h3; cases h3
    · rw [upd_ne _ _ e] at h1; exact ⟨i, x, h1, h2, h3⟩
  have hl : ∀ b, live N β (upd σ id (some (.c ⟨k, [], true, cl⟩))) b → live N β σ b := fun b h => h.imp (fun h => h) (hl0 b)
  refine ⟨⟨⟨?_, ?_, ?_, ?_, ?_⟩, fun t => (h.regs t).sub hl, h.frame, fun b hb => h.old b (hl0 b hb), h.away, h.defers, h.ext⟩, fun hr => hr.sub hl⟩
  · rintro i ⟨hi, hne⟩; rw [upd_ne _ _ hne]; exact h.heap.dom i hi
  · intro i x b hx hb
    by_cases e : i = id
    · subst e; rw [hβ0] at hb; cases hb
    · rw [upd_ne _ _ e] at hx; exact h.heap.off i x b hx hb
  · intro i j b hi hj si sj
    have : i ≠ id := fun e => by subst e; rw [hβ0] at hi; cases hi
    have : j ≠ id := fun e => by subst e; rw [hβ0] at hj; cases hj
    rw [upd_ne _ _ ‹i ≠ id›] at si; rw [upd_ne _ _ ‹j ≠ id›] at sj
    exact h.heap.inj i j b hi hj si sj
  · intro i x hx
    by_cases e : i = id
    · subst e; rw [upd_same] at hx; cases hx; exact .inl ⟨hβ0, rfl⟩
    · rw [upd_ne _ _ e] at hx
      rcases h.heap.blk i x hx with h0 | ⟨b, cells, ee, h1, h2⟩
      · exact .inl h0
      · exact .inr ⟨b, cells, ee, h1, h2.1, h2.2.1, h2.2.2.1, h2.2.2.2.1, fun p q r a hp hq => let ⟨u, hu, hr⟩ := h2.2.2.2.2 p q r a hp hq; ⟨u, hu, hr.sub hl⟩⟩
  · intro i es wr hx
    by_cases e : i = id
    · subst e; rw [upd_same] at hx; cases hx
    · rw [upd_ne _ _ e] at hx
      obtain ⟨b, ms, cl', h1, h2⟩ := h.heap.map i es wr hx
      exact ⟨b, ms, cl', h1, h2.1, h2.2.1, fun p e m hp hm => ⟨(h2.2.2 p e m hp hm).1.sub hl, (h2.2.2 p e m hp hm).2.sub hl⟩⟩
end
end Go.Proofs.Ytlhnncmflnjinaa.Am
