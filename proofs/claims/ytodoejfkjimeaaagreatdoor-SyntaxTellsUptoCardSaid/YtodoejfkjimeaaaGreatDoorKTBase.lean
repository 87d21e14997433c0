/- Packed by a program of this repo: Base Ma Mb Mc. -/
import Derived.WalkKit
import Derived.WalkLawsBesides
import Derived.WalkSpells
import Derived.KernelRfl
import Derived.RowKit3
import Derived.Deep.LoopGhost
import Derived.Deep.QuietTactic
import Derived.BigQuiet
import Derived.Deep.DeepFit
import Derived.Deep.DeepCutAuto
import Derived.Lib.Hide
import Derived.IntWalk
import Derived.Lib.Strings
import Derived.Lib.IndexBytes
import Derived.ScopeJumps
import Derived.WalkMore
import Derived.Lib.ConvBytes
import Derived.Laws.IdiomStrings
import Derived.RangeFuncRecord
import Derived.RangeFuncCalls
import Derived.Deep.AppendSrc
import Derived.Laws.CopyRow
set_option linter.unusedSimpArgs false
set_option linter.unusedVariables false
namespace Go.Proofs.YtodoejfkjimeaaaGreatDoor
open Go.RowKit

structure Only (g : Nat) (w w' : World) : Prop where
  os : w'.os = w.os
  tape : w'.tape = w.tape
  output : w'.output = w.output
  size : w.heap.size ≤ w'.heap.size
  block : ∀ k, k < w.heap.size → k ≠ g → w'.heap[k]? = w.heap[k]?
theorem Only.refl (g : Nat) (w : World) : Only g w w := ⟨rfl, rfl, rfl, Nat.le_refl _, fun _ _ _ => rfl⟩
theorem Only.trans {g : Nat} {a b c : World} (h : Only g a b) (k : Only g b c) : Only g a c :=
  ⟨k.os.trans h.os, k.tape.trans h.tape, k.output.trans h.output, Nat.le_trans h.size k.size, fun i hi hg => (k.block i (Nat.lt_of_lt_of_le hi h.size) hg).trans (h.block i hi hg)⟩
theorem Only.setCell {g : Nat} {a w : World} (h : Only g a w) (o : Nat) (u : Value) : Only g a (w.setCell ⟨g, o, none⟩ u) :=
  h.trans ⟨rfl, rfl, rfl, by simp [World.setCell], fun k _ hk => Below.heap_setCell _ _ _ _ hk⟩
theorem Only.alloc {g : Nat} {a w : World} (h : Only g a w) (o : Obj) : Only g a (w.alloc o) :=
  h.trans ⟨rfl, rfl, rfl, by simp, fun k hk _ => Below.heap_alloc _ _ _ hk⟩
theorem Only.below {g : Nat} {a w : World} (h : Only g a w) {B : Nat} (hB : B ≤ a.heap.size) (hg : B ≤ g) : Below B a w :=
  ⟨h.os, h.tape, h.output, h.size, fun k hk => h.block k (by omega) (by omega)⟩
theorem below_only {B : Nat} {a w w' : World} {g : Nat} (h : Below B a w) (k : Only g w w') (hg : B ≤ g) (hB : B ≤ w.heap.size) : Below B a w' :=
  h.trans ⟨k.os, k.tape, k.output, k.size, fun i hi => k.block i (by omega) (by omega)⟩
theorem wp_scope_label {P : Program} {a : Act} {w : World} {Q : Exit → Act → World → Prop} {l : Nat} {c : Code} (J : Nat → Act → World → Prop) (n₀ : Nat) (h0 : J n₀ a w)
    (pass : ∀ n a w, J n a w → c.wp P (Exit.jump l (fun a' w' => ∃ n', n' < n ∧ J n' a' w') Q) a w) : (Code.scope (.seq (.label l) c)).wp P Q a w := by
  refine wp_scope_jumps l (fun a w => ∃ n, J n a w) (fun a w => leastOf (fun n => J n a w)) (rest := .seq .skip c) (by simp [findLabel]) ?_ ?_
  · refine wp_seq (wp_label ?_)
    show c.wp P (Exit.jump l (fun a w => ∃ n, J n a w) Q) a w
    refine wp_mono (pass n₀ a w h0) ?_
    intro e a' w' hq
    cases e <;> first | exact hq | exact ⟨hq.1, let ⟨n', _, h⟩ := hq.2; ⟨n', h⟩⟩
  · intro a w hJ
    refine wp_seq (wp_skip ?_)
    show c.wp P (Exit.jump l _ Q) a w
    refine wp_mono (pass _ a w (leastOf_spec hJ).1) ?_
    intro e a' w' hq
    cases e <;> first | exact hq | exact ⟨hq.1, let ⟨n', hlt, h⟩ := hq.2; ⟨⟨n', h⟩, Nat.lt_of_le_of_lt ((leastOf_spec ⟨n', h⟩).2 n' h) hlt⟩⟩
def Row8 (w : World) (g : Nat) (l : List UInt8) : Prop :=
  ∃ (cells : Array Value) (e : TypeId) (fz : Nat × Nat), w.heap[g]? = some (.cells cells e fz) ∧ (∀ j (h : j < l.length), cells[j]? = some (.int .u8 (l[j].toNat))) ∧ l.length ≤ fz.1
theorem Row8.cell {w : World} {g : Nat} {l : List UInt8} (h : Row8 w g l) {j : Nat} {b : UInt8} (hj : l[j]? = some b) : w.cell? ⟨g, j, none⟩ = some (.int .u8 b.toNat) := by
  obtain ⟨cells, e, fz, h1, h2, _⟩ := h
  obtain ⟨hj', rfl⟩ := List.getElem?_eq_some_iff.1 hj
  simp [World.cell?, h1, h2 j hj']
theorem Row8.free {w : World} {g : Nat} {l : List UInt8} (h : Row8 w g l) {j : Nat} (hj : j < l.length) : w.frozen? ⟨g, j, none⟩ = false := by
  obtain ⟨cells, e, fz, h1, _, h3⟩ := h
  simp [World.frozen?, h1]
  omega
theorem Row8.set {w : World} {g : Nat} {l : List UInt8} (h : Row8 w g l) (j : Nat) (hj : j < l.length) (b : UInt8) (n : Int) (hn : n = b.toNat) : Row8 (w.setCell ⟨g, j, none⟩ (.int .u8 n)) g (l.set j b) := by
  subst hn
  obtain ⟨cells, e, fz, h1, h2, h3⟩ := h
  refine ⟨cells.setIfInBounds j (.int .u8 b.toNat), e, fz, ?_, ?_, by simpa using h3⟩
  · simp [World.setCell, Array.getElem?_modify, h1]
  · intro k hk
    have hk' : k < l.length := by simpa using hk
    have hs := h2 k hk'
    have hlt : j < cells.size := (Array.getElem?_eq_some_iff.1 (h2 j hj)).1
    by_cases e : j = k
    · subst e; simp [hlt]
    · simp [e, hs]
theorem Row8.made (w : World) (e : TypeId) (s : ByteArray) : Row8 (Lib.bytesWorld w e s) w.heap.size s.data.toList := by
  refine ⟨_, _, _, Lib.bytesWorld_at_new w e s, ?_, ?_⟩
  · intro j hj
    have hj' : j < s.size := by simpa using hj
    simp [Lib.bytesCells, Array.getElem?_append, hj']
  · simp [Lib.bytesCells]
theorem below_bytes {B : Nat} {w W : World} (h : Below B w W) (hB : B ≤ W.heap.size) (e : TypeId) (s : ByteArray) : Below B w (Lib.bytesWorld W e s) :=
  h.trans ⟨rfl, rfl, rfl, by rw [Lib.bytesWorld_size]; omega, fun i hi => Lib.bytesWorld_at_old W e s i (by omega)⟩
theorem add_plain' (g j : Nat) : (⟨g, 0, none⟩ : Addr).add j = ⟨g, j, none⟩ := by unfold Addr.add; split <;> simp_all
structure More where
  blocks : Array Obj
  drawn : Nat
instance : Inhabited More := ⟨⟨#[], 0⟩⟩
theorem size_mk (l : List UInt8) : (⟨l.toArray⟩ : ByteArray).size = l.length := by show l.toArray.size = _; simp
theorem bytes_ext {a b : ByteArray} (h : a.data.toList = b.data.toList) : a = b := by
  cases a; cases b; simp at h; rw [ByteArray.mk.injEq]; exact h
theorem data_append' (a b : ByteArray) : (a ++ b).data.toList = a.data.toList ++ b.data.toList := by
  rw [show a ++ b = a.append b from rfl]
  simp
end Go.Proofs.YtodoejfkjimeaaaGreatDoor

set_option linter.unusedSimpArgs false
set_option linter.unusedVariables false
namespace Go.Proofs.YtodoejfkjimeaaaGreatDoor.Am
open Go Go.RowKit

inductive AV where
  | any
  | bo
  | sc (v : Value)
  | s (l : List UInt8)
  | em
  | ag (l : List AV)
  | tp (l : List AV)
  | tr (rows : List (List AV))
  | ow (id k off len : Nat)
  | rf (id k row col : Nat)
  | mp (id : Nat)
  | fp (l : List AV)
  | fn (f : FuncId) (l : List AV)
  | yl (y : Nat)
  | rt (id k t : Nat)
  | ob (id len : Nat)
instance : Inhabited AV := ⟨.any⟩
structure Blk where
  k : Nat
  rows : List (List AV)
  wr : Bool
  cl : Bool
abbrev Regs := Nat → AV
structure Lp where
  fn : FuncId
  params : Array Tmp
  assign : Code
  body : Code
  d : Nat
inductive Ob where
  | c (x : Blk)
  | m (es : List (AV × AV)) (wr : Bool)
  | lp (L : Lp) (fr : Regs) (S : Nat) (st : LoopState) (pe : Option Code) (wr : Bool)
  | df (o wr : Bool)
def Ob.wr : Ob → Bool
  | .c x => x.wr
  | .m _ b => b
  | .lp _ _ _ _ _ b => b
  | .df _ b => b
def Blk.nm (x : Blk) (β : Nat → Option Nat) : Nat → Option Nat := if x.cl = true then fun _ => none else β
abbrev Hp := Nat → Option Ob
def own (β : Nat → Option Nat) (σ : Hp) (b : Nat) : Prop := ∃ i x, σ i = some x ∧ x.wr = true ∧ β i = some b
def live (N : Nat → Prop) (β : Nat → Option Nat) (σ : Hp) (b : Nat) : Prop := N b ∨ own β σ b
def nob : Nat → Option Nat := fun _ => none

inductive Rel (M : Nat → Prop) (w : World) : (Nat → Option Nat) → Value → AV → Prop
  | any {β : Nat → Option Nat} (v : Value) : Rel M w β v .any
  | bo {β : Nat → Option Nat} (b : Bool) : Rel M w β (.bool b) .bo
  | sc {β : Nat → Option Nat} (v : Value) : Rel M w β v (.sc v)
  | s {β : Nat → Option Nat} (b : ByteArray) (l : List UInt8) (hl : b.data.toList = l) (hb : l.length ≤ 9223372036854775807) : Rel M w β (.string b) (.s l)
  | em {β : Nat → Option Nat} (A : Option Addr) : Rel M w β (.slice A 0 0) .em
  | ag {β : Nat → Option Nat} (vs : Array Value) (l : List AV) (hn : vs.size = l.length) (h : ∀ (i : Nat) (u : Value) (a : AV), vs[i]? = some u → l[i]? = some a → Rel M w β u a) : Rel M w β (.agg vs) (.ag l)
  | tp {β : Nat → Option Nat} (vs : Array Value) (l : List AV) (hn : vs.size = l.length) (h : ∀ (i : Nat) (u : Value) (a : AV), vs[i]? = some u → l[i]? = some a → Rel M w β u a) : Rel M w β (.tuple vs) (.tp l)
  | tr {β : Nat → Option Nat} (A : Option Addr) (c k : Nat) (rows : List (List AV)) (us : Nat → Nat → Value) (hk : 0 < k) (hc : rows.length ≤ c) (hB : rows.length ≤ 4611686018427387904) (hr : ∀ r ∈ rows, r.length = k)
      (hA : rows ≠ [] → ∃ ad, A = some ad ∧ ¬ M ad.block)
      (hcell : ∀ ad i j, A = some ad → i < rows.length → j < k → w.cell? (ad.add (i * k + j)) = some (us i j))
      (h : ∀ (i j : Nat) (r : List AV) (a : AV), rows[i]? = some r → r[j]? = some a → Rel M w nob (us i j) a) : Rel M w β (.slice A rows.length c) (.tr rows)
  | ow {β : Nat → Option Nat} (id k off len cap b e n : Nat) (hb : β id = some b) (hl : len ≤ cap) (hs : w.shape? b = some (e, n)) (hn : (off + cap) * k ≤ n) : Rel M w β (.slice (some ⟨b, off * k, none⟩) len cap) (.ow id k off len)
  | ow0 {β : Nat → Option Nat} (A : Option Addr) (id k : Nat) : Rel M w β (.slice A 0 0) (.ow id k 0 0)
  | rf {β : Nat → Option Nat} (id k row col b : Nat) (hb : β id = some b) : Rel M w β (.pointer (some ⟨b, row * k + col, none⟩)) (.rf id k row col)
  | mp {β : Nat → Option Nat} (id b : Nat) (hb : β id = some b) : Rel M w β (.map (some b)) (.mp id)
  | fp {β : Nat → Option Nat} (a : Addr) (l : List AV) (us : Nat → Value) (hl : l ≠ []) (hM : ¬ M a.block) (hcell : ∀ j, j < l.length → w.cell? (a.add j) = some (us j)) (h : ∀ (j : Nat) (x : AV), l[j]? = some x → Rel M w nob (us j) x) : Rel M w β (.pointer (some a)) (.fp l)
  | fn {β : Nat → Option Nat} (f : FuncId) (vs : Array Value) (l : List AV) (hn : vs.size = l.length) (h : ∀ (i : Nat) (u : Value) (a : AV), vs[i]? = some u → l[i]? = some a → Rel M w β u a) : Rel M w β (.func (.func f) #[] vs) (.fn f l)
  | yl {β : Nat → Option Nat} (y b : Nat) (hb : β y = some b) : Rel M w β (.func (.yield b) #[] #[]) (.yl y)
  | rt {β : Nat → Option Nat} (id k t b : Nat) (hb : β id = some b) (hs : w.shape? b = some (t, k)) : Rel M w β (.pointer (some ⟨b, 0, none⟩)) (.rt id k t)
  | ob {β : Nat → Option Nat} (id len cap b n : Nat) (hb : β id = some b) (hl : len ≤ cap) (hs : w.shape? b = some (5, n)) (hn : cap ≤ n) : Rel M w β (.slice (some ⟨b, 0, none⟩) len cap) (.ob id len)

theorem Rel.step' {M M' : Nat → Prop} {w w' : World} (hM : ∀ b, b < w.heap.size → M' b → M b)
    (hcell : ∀ ad u, w.cell? ad = some u → ¬ M ad.block → w'.cell? ad = some u) (hshape : ∀ b s, w.shape? b = some s → w'.shape? b = some s)
    {β : Nat → Option Nat} {v : Value} {a : AV} (h : Rel M w β v a) : ∀ {β' : Nat → Option Nat}, (∀ i b, β i = some b → β' i = some b) → Rel M' w' β' v a := by
  induction h with
  | any v => exact fun _ => .any v
  | bo b => exact fun _ => .bo b
  | sc v => exact fun _ => .sc v
  | s b l hl hb => exact fun _ => .s b l hl hb
  | em A => exact fun _ => .em A
  | ag vs l hn _ ih => exact fun hβ => .ag vs l hn (fun i u a h1 h2 => ih i u a h1 h2 hβ)
  | tp vs l hn _ ih => exact fun hβ => .tp vs l hn (fun i u a h1 h2 => ih i u a h1 h2 hβ)
  | tr A c k rows us hk hc hB hr hA hce _ ih =>
    intro β' hβ
    refine .tr A c k rows us hk hc hB hr ?_ ?_ (fun i j r a h1 h2 => ih i j r a h1 h2 (fun _ _ h => h))
    · intro hne
      obtain ⟨ad, rfl, hm⟩ := hA hne
      refine ⟨ad, rfl, fun h' => hm (hM _ ?_ h')⟩
      have := hce ad 0 0 rfl (List.length_pos_iff.2 hne) hk
      have := World.block_lt_of_cell? w _ this
      simp only [Nat.zero_mul, Nat.add_zero, Addr.add, if_true] at this
      exact this
    · intro ad i j hA' hi hj
      have hne : rows ≠ [] := by rintro rfl; simp at hi
      obtain ⟨ad', e1, hm⟩ := hA hne
      rw [hA'] at e1; cases e1
      exact hcell _ _ (hce ad i j hA' hi hj) (by rwa [show (ad.add (i * k + j)).block = ad.block by unfold Addr.add; split <;> rfl])
  | ow id k off len cap b e n hb hl hs hn => exact fun hβ => .ow id k off len cap b e n (hβ _ _ hb) hl (hshape _ _ hs) hn
  | ow0 A id k => exact fun _ => .ow0 A id k
  | rf id k row col b hb => exact fun hβ => .rf id k row col b (hβ _ _ hb)
  | mp id b hb => exact fun hβ => .mp id b (hβ _ _ hb)
  | fp a l us hl hm hce _ ih =>
    intro β' hβ
    refine .fp a l us hl ?_ ?_ (fun j x h1 => ih j x h1 (fun _ _ h => h))
    · refine fun h' => hm (hM _ ?_ h')
      have := hce 0 (List.length_pos_iff.2 hl)
      have := World.block_lt_of_cell? w _ this
      simpa [Addr.add] using this
    · intro j hj
      exact hcell _ _ (hce j hj) (by rwa [show (a.add j).block = a.block by unfold Addr.add; split <;> rfl])
  | fn f vs l hn _ ih => exact fun hβ => .fn f vs l hn (fun i u a h1 h2 => ih i u a h1 h2 hβ)
  | yl y b hb => exact fun hβ => .yl y b (hβ _ _ hb)
  | rt id k t b hb hs => exact fun hβ => .rt id k t b (hβ _ _ hb) (hshape _ _ hs)
  | ob id len cap b n hb hl hs hn => exact fun hβ => .ob id len cap b n (hβ _ _ hb) hl (hshape _ _ hs) hn
theorem rel_rt {M : Nat → Prop} {w : World} {β : Nat → Option Nat} {v : Value} {i k t : Nat} (h : Rel M w β v (.rt i k t)) : Rel M w β v (.rf i k 0 0) := by
  cases h with
  | rt _ _ _ b hb hs => simpa using Rel.rf (M := M) (w := w) (β := β) i k 0 0 b hb
theorem rel_ob {M : Nat → Prop} {w : World} {β : Nat → Option Nat} {v : Value} {i len : Nat} (h : Rel M w β v (.ob i len)) : Rel M w β v (.ow i 1 0 len) := by
  cases h with
  | ob _ _ cap b n hb hl hs hn => simpa using Rel.ow (M := M) (w := w) (β := β) i 1 0 len cap b 5 n hb hl hs (by omega)
theorem Rel.step {β β' : Nat → Option Nat} {M M' : Nat → Prop} {w w' : World} (hβ : ∀ i b, β i = some b → β' i = some b) (hM : ∀ b, b < w.heap.size → M' b → M b)
    (hcell : ∀ ad u, w.cell? ad = some u → ¬ M ad.block → w'.cell? ad = some u) (hshape : ∀ b s, w.shape? b = some s → w'.shape? b = some s)
    {v : Value} {a : AV} (h : Rel M w β v a) : Rel M' w' β' v a := Rel.step' hM hcell hshape h hβ
theorem Rel.sub {β : Nat → Option Nat} {M M' : Nat → Prop} {w : World} {v : Value} {a : AV} (h : Rel M w β v a) (hM : ∀ b, M' b → M b) : Rel M' w β v a :=
  Rel.step (fun _ _ h => h) (fun b _ h => hM b h) (fun _ _ h _ => h) (fun _ _ h => h) h
theorem Rel.lift {β : Nat → Option Nat} {M : Nat → Prop} {w : World} {v : Value} {a : AV} (h : Rel M w nob v a) : Rel M w β v a := Rel.step (fun _ _ h => by cases h) (fun _ _ h => h) (fun _ _ h _ => h) (fun _ _ h => h) h
theorem nm_lift {x : Blk} {β : Nat → Option Nat} {M : Nat → Prop} {w : World} {v : Value} {a : AV} (h : Rel M w (x.nm β) v a) : Rel M w β v a := by
  unfold Blk.nm at h
  split at h
  · exact h.lift
  · exact h
theorem nm_step {x : Blk} {β β' : Nat → Option Nat} {M M' : Nat → Prop} {w w' : World} (hβ : ∀ i b, β i = some b → β' i = some b) (hM : ∀ b, b < w.heap.size → M' b → M b)
    (hcell : ∀ ad u, w.cell? ad = some u → ¬ M ad.block → w'.cell? ad = some u) (hshape : ∀ b s, w.shape? b = some s → w'.shape? b = some s)
    {v : Value} {a : AV} (h : Rel M w (x.nm β) v a) : Rel M' w' (x.nm β') v a := by
  refine Rel.step ?_ hM hcell hshape h
  intro i b hb
  unfold Blk.nm at hb ⊢
  split at hb
  · cases hb
  · rename_i hc; rw [if_neg hc]; exact hβ i b hb
def CellsAt (M : Nat → Prop) (w : World) (β : Nat → Option Nat) (x : Blk) (b : Nat) (cells : Array Value) (e : TypeId) : Prop :=
  w.heap[b]? = some (.cells cells e (0, 0)) ∧ x.rows.length * x.k ≤ cells.size ∧ (∀ r ∈ x.rows, r.length = x.k) ∧ x.rows.length ≤ 4611686018427387904 ∧
    ∀ (p q : Nat) (r : List AV) (a : AV), x.rows[p]? = some r → r[q]? = some a → ∃ u, cells[p * x.k + q]? = some u ∧ Rel M w (x.nm β) u a
def MapAt (M : Nat → Prop) (w : World) (es : List (AV × AV)) (b : Nat) (ms : Array MapEntry) (cl : Nat) : Prop :=
  w.heap[b]? = some (.map ms cl) ∧ ms.size = es.length ∧ ∀ (p : Nat) (e : AV × AV) (m : MapEntry), es[p]? = some e → ms[p]? = some m → Rel M w nob m.key e.1 ∧ Rel M w nob m.val e.2
def LpAt (M : Nat → Prop) (w : World) (β : Nat → Option Nat) (L : Lp) (fr : Regs) (S : Nat) (st : LoopState) (pe : Option Code) (b : Nat) (tm : Array Value) (D : Nat) : Prop :=
  w.heap[b]? = some (.loop { state := st, pending := pe, fn := L.fn, tmps := tm, params := L.params, assign := L.assign, body := L.body, defers := D }) ∧ β L.d = some D ∧ tm.size = S ∧ ∀ t, Rel M w β (tm.getD t undef) (fr t)
structure HRel (N : Nat → Prop) (β : Nat → Option Nat) (σ : Hp) (F : Nat → Prop) (w : World) : Prop where
  dom : ∀ i, F i → β i = none ∧ σ i = none
  off : ∀ i x b, σ i = some x → β i = some b → ¬ N b
  inj : ∀ i j b, β i = some b → β j = some b → (σ i).isSome → (σ j).isSome → i = j
  blk : ∀ i x, σ i = some (.c x) → (β i = none ∧ x.rows = []) ∨ ∃ b cells e, β i = some b ∧ CellsAt (live N β σ) w β x b cells e
  map : ∀ i es wr, σ i = some (.m es wr) → ∃ b ms cl, β i = some b ∧ MapAt (live N β σ) w es b ms cl
  lp : ∀ i L fr S st pe wr, σ i = some (.lp L fr S st pe wr) → ∃ b tm D, β i = some b ∧ LpAt (live N β σ) w β L fr S st pe b tm D
  df : ∀ i o wr, σ i = some (.df o wr) → ∃ b, β i = some b ∧ w.heap[b]? = some (.deferred (if o = true then some [] else none))
structure Fr (w0 : World) (M0 : Nat → Prop) (w : World) : Prop where
  os : w.os = w0.os
  tape : w.tape = w0.tape
  output : w.output = w0.output
  size : w0.heap.size ≤ w.heap.size
  block : ∀ b, b < w0.heap.size → ¬ M0 b → w.heap[b]? = w0.heap[b]?
  shape : ∀ b s, w0.shape? b = some s → w.shape? b = some s
theorem Fr.refl (w : World) (M : Nat → Prop) : Fr w M w := ⟨rfl, rfl, rfl, Nat.le_refl _, fun _ _ _ => rfl, fun _ _ h => h⟩
def put (fr : Regs) (d : Option Nat) (v : AV) : Regs := match d with
  | some d => fun t => if t = d then v else fr t
  | none => fr
abbrev GB : Nat := 0
def Aw (N M0 : Nat → Prop) (w0 : World) : Prop := (∀ b, N b → b < w0.heap.size) ∧ ¬ N GB ∧ ¬ M0 GB ∧ ∃ m, w0.cell? ⟨GB, 0, none⟩ = some (.int .i64 m)
structure SRel (N : Nat → Prop) (w0 : World) (M0 : Nat → Prop) (β0 : Nat → Option Nat) (ds : List Deferred) (β : Nat → Option Nat) (fr : Regs) (σ : Hp) (F : Nat → Prop) (a : Act) (w : World) : Prop where
  heap : HRel N β σ F w
  regs : ∀ t, Rel (live N β σ) w β (a.tmps.getD t undef) (fr t)
  frame : Fr w0 M0 w
  old : ∀ b, own β σ b → b < w0.heap.size → M0 b
  away : Aw N M0 w0
  defers : a.defers = ds
  ext : ∀ i b, β0 i = some b → β i = some b
section
variable {N : Nat → Prop} {w0 : World} {M0 : Nat → Prop} {β0 : Nat → Option Nat} {ds : List Deferred} {β : Nat → Option Nat} {fr : Regs} {σ : Hp} {F : Nat → Prop} {a : Act} {w : World}

theorem HRel.phys (H : HRel N β σ F w) {i : Nat} {x : Blk} {b : Nat} (hx : σ i = some (.c x)) (hb : β i = some b) : ∃ cells e, CellsAt (live N β σ) w β x b cells e := by
  rcases H.blk i x hx with ⟨h, _⟩ | ⟨b', cells, e, h1, h2⟩
  · rw [hb] at h; cases h
  · rw [hb] at h1; cases h1; exact ⟨cells, e, h2⟩
theorem HRel.lt (H : HRel N β σ F w) {i b : Nat} (hb : β i = some b) (hs : (σ i).isSome) : b < w.heap.size := by
  obtain ⟨y, hy⟩ := Option.isSome_iff_exists.1 hs
  cases y with
  | c x =>
    obtain ⟨cells, e, h⟩ := H.phys hy hb
    exact (Array.getElem?_eq_some_iff.1 h.1).1
  | m es wr =>
    obtain ⟨b', ms, cl, h1, h2⟩ := H.map i es wr hy
    rw [hb] at h1; cases h1
    exact (Array.getElem?_eq_some_iff.1 h2.1).1
  | lp L fr S st pe wr =>
    obtain ⟨b', tm, D, h1, h2⟩ := H.lp i L fr S st pe wr hy
    rw [hb] at h1; cases h1
    exact (Array.getElem?_eq_some_iff.1 h2.1).1
  | df o wr =>
    obtain ⟨b', h1, h2⟩ := H.df i o wr hy
    rw [hb] at h1; cases h1
    exact (Array.getElem?_eq_some_iff.1 h2).1
theorem LpAt.step {β' : Nat → Option Nat} {M M' : Nat → Prop} {w w' : World} {L : Lp} {fr : Regs} {S : Nat} {st : LoopState} {pe : Option Code} {b : Nat} {tm : Array Value} {D : Nat} (h : LpAt M w β L fr S st pe b tm D) (hβ : ∀ i b, β i = some b → β' i = some b) (hM : ∀ b, b < w.heap.size → M' b → M b)
    (hcell : ∀ ad u, w.cell? ad = some u → ¬ M ad.block → w'.cell? ad = some u) (hshape : ∀ b s, w.shape? b = some s → w'.shape? b = some s) (hb : w'.heap[b]? = w.heap[b]?) : LpAt M' w' β' L fr S st pe b tm D :=
  ⟨hb.trans h.1, hβ _ _ h.2.1, h.2.2.1, fun t => Rel.step hβ hM hcell hshape (h.2.2.2 t)⟩
theorem CellsAt.step {β' : Nat → Option Nat} {M M' : Nat → Prop} {w w' : World} {x : Blk} {b : Nat} {cells : Array Value} {e : TypeId} (h : CellsAt M w β x b cells e) (hβ : ∀ i b, β i = some b → β' i = some b) (hM : ∀ b, b < w.heap.size → M' b → M b)
    (hcell : ∀ ad u, w.cell? ad = some u → ¬ M ad.block → w'.cell? ad = some u) (hshape : ∀ b s, w.shape? b = some s → w'.shape? b = some s) (hb : w'.heap[b]? = w.heap[b]?) : CellsAt M' w' β' x b cells e :=
  ⟨hb.trans h.1, h.2.1, h.2.2.1, h.2.2.2.1, fun p q r a hp hq => let ⟨u, hu, hr⟩ := h.2.2.2.2 p q r a hp hq; ⟨u, hu, nm_step hβ hM hcell hshape hr⟩⟩
theorem MapAt.step {M M' : Nat → Prop} {w w' : World} {es : List (AV × AV)} {b : Nat} {ms : Array MapEntry} {cl : Nat} (h : MapAt M w es b ms cl) (hM : ∀ b, b < w.heap.size → M' b → M b)
    (hcell : ∀ ad u, w.cell? ad = some u → ¬ M ad.block → w'.cell? ad = some u) (hshape : ∀ b s, w.shape? b = some s → w'.shape? b = some s) (hb : w'.heap[b]? = w.heap[b]?) : MapAt M' w' es b ms cl :=
  ⟨hb.trans h.1, h.2.1, fun p e m hp hm => ⟨Rel.step (fun _ _ h => h) hM hcell hshape (h.2.2 p e m hp hm).1, Rel.step (fun _ _ h => h) hM hcell hshape (h.2.2 p e m hp hm).2⟩⟩

/-! the ways in which a state goes on -/
theorem getD_put (a : Act) (d : Option Nat) (u : Value) (t : Nat) : (a.put d u).tmps.getD t undef = (match d with | some d => if t = d ∧ d < a.tmps.size then u else a.tmps.getD t undef | none => a.tmps.getD t undef) := by
  cases d with
  | none => rfl
  | some d =>
    simp only [Act.put, Array.getD_eq_getD_getElem?, Array.getElem?_setIfInBounds]
    by_cases e : d = t
    · subst e
      by_cases h : d < a.tmps.size <;> simp [h]
    · simp [e, Ne.symm e]
theorem SRel.put (h : SRel N w0 M0 β0 ds β fr σ F a w) (d : Option Nat) {u : Value} {v : AV}
    (hd : ∀ t, d = some t → t < a.tmps.size) (hv : Rel (live N β σ) w β u v) : SRel N w0 M0 β0 ds β (Am.put fr d v) σ F (a.put d u) w := by
  refine ⟨h.heap, fun t => ?_, h.frame, h.old, h.away, by cases d <;> exact h.defers, h.ext⟩
  rw [getD_put]
  cases d with
  | none => exact h.regs t
  | some d =>
    have := hd d rfl
    simp only [Am.put]
    by_cases e : t = d
    · simp [e, this, hv]
    · rw [if_neg (fun h => e h.1), if_neg e]; exact h.regs t
theorem SRel.other (h : SRel N w0 M0 β0 ds β fr σ F a w) {fr' : Regs} (hr : ∀ t, Rel (live N β σ) w β (a.tmps.getD t undef) (fr' t)) : SRel N w0 M0 β0 ds β fr' σ F a w :=
  ⟨h.heap, hr, h.frame, h.old, h.away, h.defers, h.ext⟩
theorem shape_of {w w' : World} (hb : ∀ b, b < w.heap.size → w'.heap[b]? = w.heap[b]?) : ∀ b s, w.shape? b = some s → w'.shape? b = some s := fun b s hs => by
  have : b < w.heap.size := Nat.lt_of_not_le fun hle => by simp [World.shape?, Array.getElem?_eq_none hle] at hs
  simpa only [World.shape?, hb _ this] using hs
theorem HRel.world {w' : World} (h : HRel N β σ F w) (_hsz : w.heap.size ≤ w'.heap.size) (hb : ∀ b, b < w.heap.size → w'.heap[b]? = w.heap[b]?) : HRel N β σ F w' ∧ (∀ {β' v a}, Rel (live N β σ) w β' v a → Rel (live N β σ) w' β' v a) := by
  have hcell : ∀ ad u, w.cell? ad = some u → ¬ live N β σ ad.block → w'.cell? ad = some u := fun ad u hc _ => by
    have := World.block_lt_of_cell? w _ hc
    simpa only [World.cell?, hb _ this] using hc
  have hshape := shape_of hb
  refine ⟨⟨h.dom, h.off, h.inj, fun i x hx => ?_, fun i es wr hx => ?_, fun i L fr S st pe wr hx => ?_, fun i o wr hx => ?_⟩, fun hr => Rel.step (fun _ _ h => h) (fun _ _ h => h) hcell hshape hr⟩
  · rcases h.blk i x hx with h0 | ⟨b, cells, e, h1, h2⟩
    · exact .inl h0
    · exact .inr ⟨b, cells, e, h1, h2.step (fun _ _ h => h) (fun _ _ h => h) hcell hshape (hb b (Array.getElem?_eq_some_iff.1 h2.1).1)⟩
  · obtain ⟨b, ms, cl, h1, h2⟩ := h.map i es wr hx
    exact ⟨b, ms, cl, h1, h2.step (fun _ _ h => h) hcell hshape (hb b (Array.getElem?_eq_some_iff.1 h2.1).1)⟩
  · obtain ⟨b, tm, D, h1, h2⟩ := h.lp i L fr S st pe wr hx
    exact ⟨b, tm, D, h1, h2.step (fun _ _ h => h) (fun _ _ h => h) hcell hshape (hb b (Array.getElem?_eq_some_iff.1 h2.1).1)⟩
  · obtain ⟨b, h1, h2⟩ := h.df i o wr hx
    exact ⟨b, h1, (hb b (Array.getElem?_eq_some_iff.1 h2).1).trans h2⟩
theorem SRel.world {w' : World} (h : SRel N w0 M0 β0 ds β fr σ F a w)
    (hos : w'.os = w.os) (htape : w'.tape = w.tape) (hout : w'.output = w.output) (hsz : w.heap.size ≤ w'.heap.size) (hb : ∀ b, b < w.heap.size → w'.heap[b]? = w.heap[b]?) : SRel N w0 M0 β0 ds β fr σ F a w' := by
  obtain ⟨g1, g2⟩ := h.heap.world hsz hb
  exact ⟨g1, fun t => g2 (h.regs t), ⟨hos.trans h.frame.os, htape.trans h.frame.tape, hout.trans h.frame.output, Nat.le_trans h.frame.size hsz, fun b h1 h2 => (hb b (Nat.lt_of_lt_of_le h1 h.frame.size)).trans (h.frame.block b h1 h2), fun b s hs => shape_of hb b s (h.frame.shape b s hs)⟩, h.old, h.away, h.defers, h.ext⟩
theorem SRel.free {F' : Nat → Prop} (h : SRel N w0 M0 β0 ds β fr σ F a w) (hF : ∀ i, F' i → F i) : SRel N w0 M0 β0 ds β fr σ F' a w :=
  ⟨⟨fun i hi => h.heap.dom i (hF i hi), h.heap.off, h.heap.inj, h.heap.blk, h.heap.map, h.heap.lp, h.heap.df⟩, h.regs, h.frame, h.old, h.away, h.defers, h.ext⟩
def upd {α : Type} (f : Nat → α) (i : Nat) (x : α) : Nat → α := fun j => if j = i then x else f j
@[simp] theorem upd_same {α : Type} (f : Nat → α) (i : Nat) (x : α) : upd f i x i = x := by simp [upd]
theorem upd_ne {α : Type} (f : Nat → α) {i j : Nat} (x : α) (h : j ≠ i) : upd f i x j = f j := by simp [upd, h]
theorem SRel.newObj (h : SRel N w0 M0 β0 ds β fr σ F a w) (id : Nat) (hid : F id) (o : Obj) (x : Ob)
    (hc : ∀ y, x = .c y → ∃ cells e, o = .cells cells e ∧ y.rows.length * y.k ≤ cells.size ∧ (∀ r ∈ y.rows, r.length = y.k) ∧ y.rows.length ≤ 4611686018427387904 ∧
      ∀ (p q : Nat) (r : List AV) (a : AV), y.rows[p]? = some r → r[q]? = some a → ∃ u, cells[p * y.k + q]? = some u ∧ Rel (live N β σ) w (y.nm β) u a)
    (hm : ∀ es wr, x = .m es wr → ∃ ms cl, o = .map ms cl ∧ ms.size = es.length ∧ ∀ (p : Nat) (e : AV × AV) (m : MapEntry), es[p]? = some e → ms[p]? = some m → Rel (live N β σ) w nob m.key e.1 ∧ Rel (live N β σ) w nob m.val e.2)
    (hlp : ∀ L fr S st pe wr, x = .lp L fr S st pe wr → ∃ tm D, o = .loop { state := st, pending := pe, fn := L.fn, tmps := tm, params := L.params, assign := L.assign, body := L.body, defers := D } ∧ β L.d = some D ∧ tm.size = S ∧ ∀ t, Rel (live N β σ) w β (tm.getD t undef) (fr t)) (hdf : ∀ p wr, x = .df p wr → o = .deferred (if p = true then some [] else none)) :
    SRel N w0 M0 β0 ds (upd β id (some w.heap.size)) fr (upd σ id (some x)) (fun i => F i ∧ i ≠ id) a (w.alloc o) ∧
      (∀ {v a}, Rel (live N β σ) w β v a → Rel (live N (upd β id (some w.heap.size)) (upd σ id (some x))) (w.alloc o) (upd β id (some w.heap.size)) v a) := by
  obtain ⟨hβ0, hσ0⟩ := h.heap.dom id hid
  have k1 : ∀ i b, β i = some b → (upd β id (some w.heap.size)) i = some b := by
    intro i b hb
    rw [upd_ne _ _ (fun e => by subst e; rw [hβ0] at hb; cases hb)]; exact hb
  have k2 : ∀ b, b < w.heap.size → live N (upd β id (some w.heap.size)) (upd σ id (some x)) b → live N β σ b := by
    rintro b hb (hN | ⟨i, y, h1, h2, h3⟩)
    · exact .inl hN
    by_cases e : i = id
    · subst e; simp at h3; omega
    · rw [upd_ne _ _ e] at h1 h3; exact .inr ⟨i, y, h1, h2, h3⟩
  have k3 : ∀ ad u, w.cell? ad = some u → ¬ live N β σ ad.block → (w.alloc o).cell? ad = some u := by
    intro ad u hcell _
    rw [World.cell?_alloc_lt (h := World.block_lt_of_cell? w _ hcell)]; exact hcell
  have k4 : ∀ b s, w.shape? b = some s → (w.alloc o).shape? b = some s := by
    intro b s hs
    have : b < w.heap.size := Nat.lt_of_not_le fun hle => by simp [World.shape?, Array.getElem?_eq_none hle] at hs
    simpa only [World.shape?, Below.heap_alloc w _ b this] using hs
  have up : ∀ {v a}, Rel (live N β σ) w β v a → Rel (live N (upd β id (some w.heap.size)) (upd σ id (some x))) (w.alloc o) (upd β id (some w.heap.size)) v a := Rel.step k1 k2 k3 k4
  have hb : ∀ b, b < w.heap.size → (w.alloc o).heap[b]? = w.heap[b]? := fun b hb => Below.heap_alloc w _ b hb
  have hlp' : ∀ i L fr S st pe wr, (upd σ id (some x)) i = some (.lp L fr S st pe wr) → ∃ b tm D, (upd β id (some w.heap.size)) i = some b ∧ LpAt (live N (upd β id (some w.heap.size)) (upd σ id (some x))) (w.alloc o) (upd β id (some w.heap.size)) L fr S st pe b tm D := by
    intro i L fr S st pe wr hy
    by_cases ei : i = id
    · subst ei
      rw [upd_same] at hy; cases hy
      obtain ⟨tm, D, rfl, g1, g2, g3⟩ := hlp L fr S st pe wr rfl
      exact ⟨w.heap.size, tm, D, by simp, heap_alloc_new w _, k1 _ _ g1, g2, fun t => up (g3 t)⟩
    · rw [upd_ne _ _ ei] at hy
      obtain ⟨b, tm, D, h1, h2⟩ := h.heap.lp i L fr S st pe wr hy
      exact ⟨b, tm, D, by rw [upd_ne _ _ ei]; exact h1, h2.step k1 k2 k3 k4 (hb b (Array.getElem?_eq_some_iff.1 h2.1).1)⟩
  have hdf' : ∀ i p wr, (upd σ id (some x)) i = some (.df p wr) → ∃ b, (upd β id (some w.heap.size)) i = some b ∧ (w.alloc o).heap[b]? = some (.deferred (if p = true then some [] else none)) := by
    intro i p wr hy
    by_cases ei : i = id
    · subst ei
      rw [upd_same] at hy; cases hy
      have := hdf p wr rfl
      subst this
      exact ⟨w.heap.size, by simp, heap_alloc_new w _⟩
    · rw [upd_ne _ _ ei] at hy
      obtain ⟨b, h1, h2⟩ := h.heap.df i p wr hy
      exact ⟨b, by rw [upd_ne _ _ ei]; exact h1, (hb b (Array.getElem?_eq_some_iff.1 h2).1).trans h2⟩
  refine ⟨⟨⟨?_, ?_, ?_, ?_, ?_, hlp', hdf'⟩, fun t => up (h.regs t), ?_, ?_, h.away, h.defers, fun i b hb => k1 i b (h.ext i b hb)⟩, up⟩
  · rintro i ⟨hi, hne⟩
    rw [upd_ne _ _ hne, upd_ne _ _ hne]; exact h.heap.dom i hi
  · intro i y b hy hb hN
    by_cases ei : i = id
    · subst ei
      simp at hb
      have := h.away.1 b hN
      have := h.frame.size
      omega
    · rw [upd_ne _ _ ei] at hy hb; exact h.heap.off i y b hy hb hN
  · intro i j b hi hj si sj
    by_cases ei : i = id <;> by_cases ej : j = id
    · rw [ei, ej]
    · subst ei
      rw [upd_same] at hi
      rw [upd_ne _ _ ej] at hj sj
      have := h.heap.lt hj sj
      cases hi; omega
    · subst ej
      rw [upd_same] at hj
      rw [upd_ne _ _ ei] at hi si
      have := h.heap.lt hi si
      cases hj; omega
    · rw [upd_ne _ _ ei] at hi si
      rw [upd_ne _ _ ej] at hj sj
      exact h.heap.inj i j b hi hj si sj
  · intro i y hy
    by_cases ei : i = id
    · subst ei
      rw [upd_same] at hy; cases hy
      obtain ⟨cells, e, rfl, g1, g2, g3, g4⟩ := hc y rfl
      exact .inr ⟨w.heap.size, cells, e, by simp, heap_alloc_new w _, g1, g2, g3, fun p q r a hp hq => let ⟨u, hu, hr⟩ := g4 p q r a hp hq; ⟨u, hu, nm_step k1 k2 k3 k4 hr⟩⟩
    · rw [upd_ne _ _ ei] at hy
      rcases h.heap.blk i y hy with h0 | ⟨b, cells, e, h1, h2⟩
      · exact .inl (by rw [upd_ne _ _ ei]; exact h0)
      · exact .inr ⟨b, cells, e, by rw [upd_ne _ _ ei]; exact h1, h2.step k1 k2 k3 k4 (hb b (Array.getElem?_eq_some_iff.1 h2.1).1)⟩
  · intro i es wr hy
    by_cases ei : i = id
    · subst ei
      rw [upd_same] at hy; cases hy
      obtain ⟨ms, cl, rfl, g1, g2⟩ := hm es wr rfl
      exact ⟨w.heap.size, ms, cl, by simp, heap_alloc_new w _, g1, fun p e m hp hm => ⟨Rel.step (fun _ _ h => h) k2 k3 k4 (g2 p e m hp hm).1, Rel.step (fun _ _ h => h) k2 k3 k4 (g2 p e m hp hm).2⟩⟩
    · rw [upd_ne _ _ ei] at hy
      obtain ⟨b, ms, cl, h1, h2⟩ := h.heap.map i es wr hy
      exact ⟨b, ms, cl, by rw [upd_ne _ _ ei]; exact h1, h2.step k2 k3 k4 (hb b (Array.getElem?_eq_some_iff.1 h2.1).1)⟩
  · refine ⟨h.frame.os, h.frame.tape, h.frame.output, Nat.le_trans h.frame.size (by simp), fun b h1 h2 => ?_, fun b s hs => k4 b s (h.frame.shape b s hs)⟩
    rw [Below.heap_alloc w _ b (Nat.lt_of_lt_of_le h1 h.frame.size)]; exact h.frame.block b h1 h2
  · rintro b ⟨i, y, h1, h2, h3⟩ hb
    by_cases ei : i = id
    · subst ei; simp at h3
      have := h.frame.size; omega
    · rw [upd_ne _ _ ei] at h1 h3
      exact h.old b ⟨i, y, h1, h2, h3⟩ hb
theorem SRel.new (h : SRel N w0 M0 β0 ds β fr σ F a w) (id : Nat) (hid : F id)
    (cells : Array Value) (e : TypeId) (x : Blk) (hn : x.rows.length * x.k ≤ cells.size) (hr : ∀ r ∈ x.rows, r.length = x.k) (hB : x.rows.length ≤ 4611686018427387904)
    (hc : ∀ (p q : Nat) (r : List AV) (a : AV), x.rows[p]? = some r → r[q]? = some a → ∃ u, cells[p * x.k + q]? = some u ∧ Rel (live N β σ) w (x.nm β) u a) :
    SRel N w0 M0 β0 ds (upd β id (some w.heap.size)) fr (upd σ id (some (.c x))) (fun i => F i ∧ i ≠ id) a (w.alloc (.cells cells e)) ∧
      (∀ {v a}, Rel (live N β σ) w β v a → Rel (live N (upd β id (some w.heap.size)) (upd σ id (some (.c x)))) (w.alloc (.cells cells e)) (upd β id (some w.heap.size)) v a) :=
  h.newObj id hid _ _ (fun y hy => by cases hy; exact ⟨cells, e, rfl, hn, hr, hB, hc⟩) (fun es wr h => by cases h) (fun _ _ _ _ _ _ h => by cases h) (fun _ _ h => by cases h)
inductive Ob.le : Ob → Ob → Prop
  | c (k : Nat) (rows : List (List AV)) (wr wr' cl : Bool) (h : wr = true → wr' = true) : Ob.le (.c ⟨k, rows, wr, cl⟩) (.c ⟨k, rows, wr', cl⟩)
  | m (es : List (AV × AV)) (wr wr' : Bool) (h : wr = true → wr' = true) : Ob.le (.m es wr) (.m es wr')
  | lp (L : Lp) (fr : Regs) (S : Nat) (st : LoopState) (pe : Option Code) (wr wr' : Bool) (h : wr = true → wr' = true) : Ob.le (.lp L fr S st pe wr) (.lp L fr S st pe wr')
  | df (o wr wr' : Bool) (h : wr = true → wr' = true) : Ob.le (.df o wr) (.df o wr')
theorem Ob.le.refl (x : Ob) : Ob.le x x := by cases x with | c x => cases x; exact .c _ _ _ _ _ (fun h => h) | m es wr => exact .m _ _ _ (fun h => h) | lp L fr S st pe wr => exact .lp _ _ _ _ _ _ _ (fun h => h) | df o wr => exact .df _ _ _ (fun h => h)
theorem Ob.le.wr {x y : Ob} (h : Ob.le x y) : x.wr = true → y.wr = true := by cases h <;> first | assumption | exact fun h => h
theorem HRel.less {σ' : Hp} (h : HRel N β σ F w) (hσ : ∀ i x, σ' i = some x → ∃ y, σ i = some y ∧ Ob.le x y) :
    HRel N β σ' F w ∧ (∀ b, own β σ' b → own β σ b) ∧ (∀ {β' v a}, Rel (live N β σ) w β' v a → Rel (live N β σ') w β' v a) := by
  have hl0 : ∀ b, own β σ' b → own β σ b := by
    rintro b ⟨i, x, h1, h2, h3⟩
    obtain ⟨y, hy, hle⟩ := hσ i x h1
    exact ⟨i, y, hy, hle.wr h2, h3⟩
  have hl : ∀ b, live N β σ' b → live N β σ b := fun b h => h.imp (fun h => h) (hl0 b)
  have hs : ∀ i, (σ' i).isSome → (σ i).isSome := fun i hi => by
    obtain ⟨x, hx⟩ := Option.isSome_iff_exists.1 hi
    obtain ⟨y, hy, _⟩ := hσ i x hx
    simp [hy]
  refine ⟨⟨fun i hi => ⟨(h.dom i hi).1, ?_⟩, fun i x b hx hb => (let ⟨y, hy, _⟩ := hσ i x hx; h.off i y b hy hb), fun i j b hi hj si sj => h.inj i j b hi hj (hs i si) (hs j sj), fun i x hx => ?_, fun i es wr hx => ?_, fun i L fr S st pe wr hx => ?_, fun i o wr hx => ?_⟩, hl0, fun hr => hr.sub hl⟩
  · cases hx : σ' i with
    | none => rfl
    | some x => obtain ⟨y, hy, _⟩ := hσ i x hx; rw [(h.dom i hi).2] at hy; cases hy
  · obtain ⟨y, hy, hle⟩ := hσ i _ hx
    cases hle with
    | c k rows wr wr' cl hw =>
      rcases h.blk i _ hy with h0 | ⟨b, cells, e, h1, h2⟩
      · exact .inl h0
      · exact .inr ⟨b, cells, e, h1, h2.1, h2.2.1, h2.2.2.1, h2.2.2.2.1, fun p q r a hp hq => let ⟨u, hu, hr⟩ := h2.2.2.2.2 p q r a hp hq; ⟨u, hu, Rel.sub hr hl⟩⟩
  · obtain ⟨y, hy, hle⟩ := hσ i _ hx
    cases hle with
    | m es wr wr' hw =>
      obtain ⟨b, ms, cl, h1, h2⟩ := h.map i _ _ hy
      exact ⟨b, ms, cl, h1, h2.1, h2.2.1, fun p e m hp hm => ⟨Rel.sub (h2.2.2 p e m hp hm).1 hl, Rel.sub (h2.2.2 p e m hp hm).2 hl⟩⟩
  · obtain ⟨y, hy, hle⟩ := hσ i _ hx
    cases hle with
    | lp =>
      obtain ⟨b, tm, D, h1, h2⟩ := h.lp i _ _ _ _ _ _ hy
      exact ⟨b, tm, D, h1, h2.1, h2.2.1, h2.2.2.1, fun t => (h2.2.2.2 t).sub hl⟩
  · obtain ⟨y, hy, hle⟩ := hσ i _ hx
    cases hle with
    | df => exact h.df i _ _ hy
theorem SRel.less {σ' : Hp} (h : SRel N w0 M0 β0 ds β fr σ F a w) (hσ : ∀ i x, σ' i = some x → ∃ y, σ i = some y ∧ Ob.le x y) :
    SRel N w0 M0 β0 ds β fr σ' F a w ∧ (∀ {β' v a}, Rel (live N β σ) w β' v a → Rel (live N β σ') w β' v a) := by
  obtain ⟨g1, g2, g3⟩ := h.heap.less hσ
  exact ⟨⟨g1, fun t => g3 (h.regs t), h.frame, fun b hb => h.old b (g2 b hb), h.away, h.defers, h.ext⟩, g3⟩
theorem SRel.imagine (h : SRel N w0 M0 β0 ds β fr σ F a w) (id : Nat) (hid : F id) (k : Nat) (cl : Bool) : SRel N w0 M0 β0 ds β fr (upd σ id (some (.c ⟨k, [], true, cl⟩))) (fun i => F i ∧ i ≠ id) a w ∧
    (∀ {β' v a}, Rel (live N β σ) w β' v a → Rel (live N β (upd σ id (some (.c ⟨k, [], true, cl⟩)))) w β' v a) := by
  obtain ⟨hβ0, hσ0⟩ := h.heap.dom id hid
  have hl0 : ∀ b, own β (upd σ id (some (.c ⟨k, [], true, cl⟩))) b → own β σ b := by
    rintro b ⟨i, x, h1, h2, h3⟩
    by_cases e : i = id
    · subst e; rw [hβ0] at h3; cases h3
    · rw [upd_ne _ _ e] at h1; exact ⟨i, x, h1, h2, h3⟩
  have hl : ∀ b, live N β (upd σ id (some (.c ⟨k, [], true, cl⟩))) b → live N β σ b := fun b h => h.imp (fun h => h) (hl0 b)
  have hne : ∀ {i : Nat} {x : Ob}, (upd σ id (some (.c ⟨k, [], true, cl⟩))) i = some x → (∀ y, x ≠ .c y) → σ i = some x := by
    intro i x hx hx'
    by_cases e : i = id
    · subst e; rw [upd_same] at hx; cases hx; exact absurd rfl (hx' _)
    · rw [upd_ne _ _ e] at hx; exact hx
  refine ⟨⟨⟨?_, ?_, ?_, ?_, ?_, fun i L fr S st pe wr hx => (let ⟨b, tm, D, h1, h2⟩ := h.heap.lp i L fr S st pe wr (hne hx (fun _ h => by cases h)); ⟨b, tm, D, h1, h2.1, h2.2.1, h2.2.2.1, fun t => (h2.2.2.2 t).sub hl⟩), fun i o wr hx => h.heap.df i o wr (hne hx (fun _ h => by cases h))⟩, fun t => (h.regs t).sub hl, h.frame, fun b hb => h.old b (hl0 b hb), h.away, h.defers, h.ext⟩, fun hr => hr.sub hl⟩
  · rintro i ⟨hi, hne⟩; rw [upd_ne _ _ hne]; exact h.heap.dom i hi
  · intro i x b hx hb
    by_cases e : i = id
    · subst e; rw [hβ0] at hb; cases hb
    · rw [upd_ne _ _ e] at hx; exact h.heap.off i x b hx hb
  · intro i j b hi hj si sj
    have : i ≠ id := fun e => by subst e; rw [hβ0] at hi; cases hi
    have : j ≠ id := fun e => by subst e; rw [hβ0] at hj; cases hj
    rw [upd_ne _ _ ‹i ≠ id›] at si; rw [upd_ne _ _ ‹j ≠ id›] at sj
    exact h.heap.inj i j b hi hj si sj
  · intro i x hx
    by_cases e : i = id
    · subst e; rw [upd_same] at hx; cases hx; exact .inl ⟨hβ0, rfl⟩
    · rw [upd_ne _ _ e] at hx
      rcases h.heap.blk i x hx with h0 | ⟨b, cells, ee, h1, h2⟩
      · exact .inl h0
      · exact .inr ⟨b, cells, ee, h1, h2.1, h2.2.1, h2.2.2.1, h2.2.2.2.1, fun p q r a hp hq => let ⟨u, hu, hr⟩ := h2.2.2.2.2 p q r a hp hq; ⟨u, hu, hr.sub hl⟩⟩
  · intro i es wr hx
    by_cases e : i = id
    · subst e; rw [upd_same] at hx; cases hx
    · rw [upd_ne _ _ e] at hx
      obtain ⟨b, ms, cl', h1, h2⟩ := h.heap.map i es wr hx
      exact ⟨b, ms, cl', h1, h2.1, h2.2.1, fun p e m hp hm => ⟨(h2.2.2 p e m hp hm).1.sub hl, (h2.2.2 p e m hp hm).2.sub hl⟩⟩
end
end Go.Proofs.YtodoejfkjimeaaaGreatDoor.Am

set_option linter.unusedSimpArgs false
set_option linter.unusedVariables false
namespace Go.Proofs.YtodoejfkjimeaaaGreatDoor.Am
open Go Go.RowKit

inductive Opd where
  | t (i : Nat)
  | c (a : AV)
def Opd.get (fr : Regs) : Opd → AV
  | .t i => fr i
  | .c a => a
def ofC : Value → AV
  | .string b => if b.data.toList.length ≤ 9223372036854775807 then .s b.data.toList else .any
  | .slice _ 0 0 => .em
  | v => .sc v
def ofV : Value → AV
  | .agg cs => .ag (cs.toList.map ofC)
  | .tuple cs => .tp (cs.toList.map ofC)
  | v => ofC v
def cOpd : Operand → Opd
  | .tmp t => .t t
  | .const v => .c (ofV v)
  | .global g => .c (.sc (.pointer (some ⟨g, 0, none⟩)))
  | .func f => .c (.fn f [])
inductive SOp where
  | mv (x : Opd)
  | pick (c a b : Opd)
  | alloc (zs : List Value)
  | allt (t : Nat) (zs : List Value)
  | box (x : Opd)
  | build (zs : List Value) (parts : List (Nat × Nat × Opd))
  | bsl (k : Nat) (zs : List Value) (len : Nat) (parts : List (Nat × Opd))
  | ld (m : Option Nat) (x : Opd)
  | st (m : Nat) (x v : Opd)
  | fad (off : Nat) (x : Opd)
  | fld (m : Option Nat) (off : Nat) (x : Opd)
  | iad (k : Nat) (x i : Opd)
  | idp (k n : Nat) (x i : Opd)
  | istr (x i : Opd)
  | iarr (m : Option Nat) (k len : Nat) (x i : Opd)
  | bin (op : BinOp) (x y : Opd)
  | eqs (ks : List Nat) (neg : Bool) (x y : Opd)
  | eqb (neg : Bool) (x y : Opd)
  | eqp (neg : Bool) (x y : Opd)
  | eqn (neg : Bool) (x : Opd)
  | mxn (mx : Bool) (x y : Opd)
  | un (op : UnOp) (x : Opd)
  | cvi (k : IntKind) (x : Opd)
  | cvs (x : Opd)
  | cvb (x : Opd)
  | len (s : Bool) (x : Opd)
  | slc (k : Nat) (x : Opd) (lo hi mx : Option Opd)
  | sstr (x : Opd) (lo hi : Option Opd)
  | app (k bytes : Nat) (x y : Opd)
  | aps (bytes : Nat) (x y : Opd)
  | ext (x : Opd) (i : Nat)
  | mkf (f : Nat) (caps : List Opd)
  | nck (x : Opd)
  | mki (t : TypeId) (x : Opd)
  | tas (t : TypeId) (z : Value) (x : Opd)
  | mkm
  | lkp (z : Value) (ok : Bool) (x k : Opd)
  | mup (x k v : Opd)
  | clm (x : Opd)
  | call (f : Opd) (args : List Opd)
  | pan (x : Opd)

def AV.cells : AV → Option (List AV)
  | .ag l => some l
  | .any => none
  | .bo => none
  | .tp _ => none
  | .sc (.agg _) => none
  | .sc (.tuple _) => none
  | a => some [a]
def leafok : AV → Bool
  | .any => false
  | .bo => false
  | .ag _ => false
  | .tp _ => false
  | .sc (.agg _) => false
  | .sc (.tuple _) => false
  | _ => true
def clo : AV → Bool
  | .any => true
  | .sc _ => true
  | .s _ => true
  | .em => true
  | .tr _ => true
  | .fp _ => true
  | _ => false
def brw (σ : Hp) : Nat → AV → Option (AV × List Nat)
  | _, .sc v => some (.sc v, [])
  | _, .s l => some (.s l, [])
  | _, .em => some (.tr [], [])
  | _, .tr rows => some (.tr rows, [])
  | _, .fp l => some (.fp l, [])
  | d + 1, .ag l => (l.foldr (fun a acc => match brw σ d a, acc with
      | some (c, I), some (cs, J) => some (c :: cs, I ++ J)
      | _, _ => none) (some ([], []))).map fun p => (.ag p.1, p.2)
  | d + 1, .tp l => (l.foldr (fun a acc => match brw σ d a, acc with
      | some (c, I), some (cs, J) => some (c :: cs, I ++ J)
      | _, _ => none) (some ([], []))).map fun p => (.tp p.1, p.2)
  | d + 1, .fn f l => (l.foldr (fun a acc => match brw σ d a, acc with
      | some (c, I), some (cs, J) => some (c :: cs, I ++ J)
      | _, _ => none) (some ([], []))).map fun p => (.fn f p.1, p.2)
  | d + 1, .ow i k off len => match σ i with
    | some (.c x) => if x.k = k ∧ x.cl = true ∧ off + len ≤ x.rows.length ∧ 0 < k then some (.tr ((x.rows.drop off).take len), [i])
      else if x.k = k ∧ off + len ≤ x.rows.length ∧ 0 < k then (((x.rows.drop off).take len).foldr (fun row acc => match row.foldr (fun a acc => match brw σ d a, acc with
          | some (c, I), some (cs, J) => some (c :: cs, I ++ J)
          | _, _ => none) (some ([], [])), acc with
        | some (c, I), some (cs, J) => some (c :: cs, I ++ J)
        | _, _ => none) (some ([], []))).map fun p => (.tr p.1, i :: p.2)
      else none
    | _ => none
  | d + 1, .rf i k r c => match σ i with
    | some (.c x) => if x.k = k then (match x.rows[r]? with
      | some row => if c < row.length then (((row.drop c).foldr (fun a acc => match brw σ d a, acc with
          | some (c, I), some (cs, J) => some (c :: cs, I ++ J)
          | _, _ => none) (some ([], []))).map fun p => (.fp p.1, i :: p.2)) else none
      | none => none) else none
    | _ => none
  | _, _ => none
def brwL (σ : Hp) (d : Nat) (l : List AV) : Option (List AV × List Nat) :=
  l.foldr (fun a acc => match brw σ d a, acc with
      | some (c, I), some (cs, J) => some (c :: cs, I ++ J)
      | _, _ => none) (some ([], []))
def brwR (σ : Hp) (d : Nat) (l : List (List AV)) : Option (List (List AV) × List Nat) :=
  l.foldr (fun row acc => match brwL σ d row, acc with
      | some (c, I), some (cs, J) => some (c :: cs, I ++ J)
      | _, _ => none) (some ([], []))
abbrev Wr := List (Nat × Option Ob)
def Ob.frz : Ob → Ob
  | .c x => .c { x with wr := false }
  | .m es _ => .m es false
  | .lp L fr S st pe _ => .lp L fr S st pe false
  | .df o _ => .df o false
def frz (σ : Hp) : List Nat → Wr
  | [] => []
  | i :: I => (i, (σ i).map Ob.frz) :: frz σ I
def part (row : List AV) (c : Nat) : Option Nat → Option AV
  | none => row[c]?
  | some m => if c + m ≤ row.length then some (.ag ((row.drop c).take m)) else none
def splice (l : List AV) (c : Nat) (x : List AV) : List AV := l.take c ++ x ++ l.drop (c + x.length)
def fillA : List (Nat × Nat × AV) → List AV → Option (List AV)
  | [], l => some l
  | (off, size, x) :: rest, l => match x.cells with
    | some cs => if cs.length = size ∧ off + size ≤ l.length then fillA rest (splice l off cs) else none
    | none => none
def fillR (σ : Hp) (k : Nat) : List (Nat × AV) → List (List AV) → List Nat → Option (List (List AV) × List Nat)
  | [], l, I => some (l, I)
  | (i, x) :: rest, l, I => match brw σ 6 x with
    | some (c, J) => (match c.cells with
      | some cs => if cs.length = k ∧ i < l.length then fillR σ k rest (l.set i cs) (J ++ I) else none
      | none => none)
    | none => none
def ii (n : Int) : AV := .sc (.int .i64 n)
def bb (t : Bool) : AV := .sc (.bool t)
def bits (op : BinOp) (k : IntKind) (x y : Int) : Int :=
  let a := BitVec.ofInt k.bits x
  let b := BitVec.ofInt k.bits y
  k.wrap (match op with
    | .and => (a &&& b).toNat
    | .or => (a ||| b).toNat
    | .xor => (a ^^^ b).toNat
    | _ => (a &&& ~~~b).toNat)
def semBin (op : BinOp) (x y : AV) : Option AV :=
  match x, y with
  | .sc (.int k a), .sc (.int k' b) =>
      (match op with
      | .shl => if b < 0 then none else some (.sc (.int k (k.wrap (a * 2 ^ (min b.toNat k.bits)))))
      | .shr => if b < 0 then none else some (.sc (.int k (a.fdiv (2 ^ (min b.toNat k.bits)))))
      | _ => if k = k' then
        (match op with
        | .add => some (.sc (.int k (k.wrap (a + b))))
        | .sub => some (.sc (.int k (k.wrap (a - b))))
        | .mul => some (.sc (.int k (k.wrap (a * b))))
        | .quo => if b = 0 then none else some (.sc (.int k (k.wrap (a.tdiv b))))
        | .rem => if b = 0 then none else some (.sc (.int k (a.tmod b)))
        | .and => some (.sc (.int k (bits .and k a b)))
        | .or => some (.sc (.int k (bits .or k a b)))
        | .xor => some (.sc (.int k (bits .xor k a b)))
        | .andNot => some (.sc (.int k (bits .andNot k a b)))
        | .eql => some (bb (a == b))
        | .neq => some (bb (a != b))
        | .lss => some (bb (decide (a < b)))
        | .leq => some (bb (decide (a ≤ b)))
        | .gtr => some (bb (decide (a > b)))
        | .geq => some (bb (decide (a ≥ b)))
        | _ => none)
      else none)
  | .s a, .s b =>
      (match op with
      | .add => if a.length + b.length ≤ 9223372036854775807 then some (.s (a ++ b)) else none
      | .eql => some (bb (a == b))
      | .neq => some (bb (!(a == b)))
      | .lss => some (bb (Op.bytesLess a b))
      | .leq => some (bb (Op.bytesLess a b || (a == b)))
      | .gtr => some (bb (!(Op.bytesLess a b || (a == b))))
      | .geq => some (bb (!(Op.bytesLess a b)))
      | _ => none)
  | _, _ => none
def eqK : List Nat → List AV → List AV → Option Bool
  | [], [], [] => some true
  | 0 :: ks, .sc (.int k a) :: l, .sc (.int k' b) :: m => if k = k' then (eqK ks l m).map ((a == b) && ·) else none
  | 1 :: ks, .sc (.bool a) :: l, .sc (.bool b) :: m => (eqK ks l m).map ((a == b) && ·)
  | 2 :: ks, .s a :: l, .s b :: m => (eqK ks l m).map ((a == b) && ·)
  | _, _, _ => none
def eqP : AV → AV → Option Bool
  | .sc (.pointer none), .rf _ _ _ _ => some false
  | .rf _ _ _ _, .sc (.pointer none) => some false
  | .sc (.pointer none), .fp _ => some false
  | .fp _, .sc (.pointer none) => some false
  | .sc (.pointer none), .sc (.pointer none) => some true
  | .rf i k r c, .rf i' k' r' c' => if i = i' ∧ k = k' ∧ c < k ∧ c' < k then some (r == r' && c == c') else none
  | _, _ => none
def rowsOf (σ : Hp) (k : Nat) : AV → Option (List (List AV))
  | .em => some []
  | .tr rows => if rows.all (fun r => r.length == k) = true then some rows else none
  | .ow i k' off len => if k' = k then (match σ i with
    | some (.c x) => if x.k = k ∧ x.cl = true ∧ off + len ≤ x.rows.length then some ((x.rows.drop off).take len) else none
    | _ => none) else none
  | _ => none
def asI (a : AV) : Option Int := match a with
  | .sc (.int _ n) => some n
  | _ => none
def optI (d : Nat) : Option AV → Option Int
  | none => some d
  | some a => asI a
/-! the operations that change nothing, of values -/
def aPick (c a b : AV) : Option AV := match c with
  | .sc (.bool t) => some (cond t a b)
  | _ => none
def aBuild (zs : List Value) (parts : List (Nat × Nat × AV)) : Option AV := (fillA parts (zs.map ofC)).map .ag
def aFad (off : Nat) (x : AV) : Option AV := match x with
  | .rf i k r c => some (.rf i k r (c + off))
  | .rt i k t => if off = 0 then some (.rt i k t) else some (.rf i k 0 off)
  | .fp l => if off < l.length then some (.fp (l.drop off)) else none
  | _ => none
def aFld (m : Option Nat) (off : Nat) (x : AV) : Option AV := match x with
  | .ag l => part l off m
  | _ => none
def aIad (k : Nat) (x i : AV) : Option AV := match i with
  | .sc (.int _ n) => (match x with
    | .tr rows => if 0 ≤ n then (match rows[n.toNat]? with
      | some row => if row.length = k then some (.fp row) else none
      | none => none) else none
    | .ow j k' off len => if k' = k ∧ 0 ≤ n ∧ n < len then some (.rf j k (off + n.toNat) 0) else none
    | _ => none)
  | _ => none
def aIstr (x i : AV) : Option AV := match x, i with
  | .s l, .sc (.int _ n) => if 0 ≤ n then (match l[n.toNat]? with
    | some b => some (.sc (.int .u8 b.toNat))
    | none => none) else none
  | _, _ => none
def aIdp (k len : Nat) (x i : AV) : Option AV := match x, i with
  | .rf id k' r c, .sc (.int _ n) => if 0 ≤ n ∧ n < len then some (.rf id k' r (c + n.toNat * k)) else none
  | _, _ => none
def aIarr (m : Option Nat) (k len : Nat) (x i : AV) : Option AV := match x, i with
  | .ag l, .sc (.int _ n) => if 0 ≤ n ∧ n < len then part l (n.toNat * k) m else none
  | _, _ => none
def aUn (op : UnOp) (x : AV) : Option AV := match op, x with
  | .not, .sc (.bool b) => some (bb (!b))
  | .neg, .sc (.int k n) => some (.sc (.int k (k.wrap (0 - n))))
  | .xor, .sc (.int k n) => some (.sc (.int k (bits .xor k (if k.signed then -1 else k.max) n)))
  | _, _ => none
def aCvi (k : IntKind) (x : AV) : Option AV := match x with
  | .sc (.int _ n) => some (.sc (.int k (k.wrap n)))
  | _ => none
def aCvs (x : AV) : Option AV := match x with
  | .s l => some (.s l)
  | .sc (.int _ n) => if 0 ≤ n ∧ n < 128 then some (.s [UInt8.ofNat n.toNat]) else none
  | _ => none
def aLen (s : Bool) (x : AV) : Option AV := match s, x with
  | true, .s l => some (ii l.length)
  | false, .em => some (ii 0)
  | false, .tr rows => some (ii rows.length)
  | false, .ow _ _ _ len => some (ii len)
  | _, _ => none
def aSlc (k : Nat) (x : AV) (lo hi mx : Option AV) : Option AV := match x with
  | .em => (match optI 0 lo, optI 0 hi, optI 0 mx with
    | some l, some h, some m => if l = 0 ∧ h = 0 ∧ m = 0 ∧ (mx.isSome = true → hi.isSome = true) then some .em else none
    | _, _, _ => none)
  | .tr rows => (match optI 0 lo, optI rows.length hi, mx with
    | some l, some h, none => if rows.all (fun r => r.length == k) = true ∧ 0 ≤ l ∧ l ≤ h ∧ h ≤ rows.length then some (.tr ((rows.take h.toNat).drop l.toNat)) else none
    | some l, some h, some (.sc (.int _ m)) => if l = 0 ∧ h = 0 ∧ m = 0 ∧ hi.isSome = true then some .em else none
    | _, _, _ => none)
  | .ow j k' off len => (match optI 0 lo, optI len hi, mx with
    | some l, some h, none => if k' = k ∧ 0 ≤ l ∧ l ≤ h ∧ h ≤ len ∧ (l = 0 ∨ l < len) then some (.ow j k (off + l.toNat) (h.toNat - l.toNat)) else none
    | some l, some h, some (.sc (.int _ m)) => if l = 0 ∧ h = 0 ∧ m = 0 ∧ hi.isSome = true then some .em else none
    | _, _, _ => none)
  | _ => none
def aSstr (x : AV) (lo hi : Option AV) : Option AV := match x with
  | .s s => (match optI 0 lo, optI s.length hi with
    | some l, some h => if 0 ≤ l ∧ l ≤ h ∧ h ≤ s.length then some (.s ((s.take h.toNat).drop l.toNat)) else none
    | _, _ => none)
  | _ => none
def aExt (x : AV) (i : Nat) : Option AV := match x with
  | .tp l => l[i]?
  | _ => none
def aNck (x : AV) : Option AV := match x with
  | .rf i k r c => some (.rf i k r c)
  | .rt i k t => some (.rt i k t)
  | .fp l => some (.fp l)
  | .fn f l => some (.fn f l)
  | _ => none
def aMki (t : TypeId) (x : AV) : Option AV := match x with
  | .sc v => some (.sc (.iface t v))
  | .ag [.sc (.int k a), .sc (.int k' b)] => some (.sc (.iface t (.agg #[.int k a, .int k' b])))
  | _ => none
def aTas (t : TypeId) (z : Value) (x : AV) : Option AV := match x with
  | .sc (.iface t' v) => if t' = t then some (.tp [ofV v, bb true]) else some (.tp [ofV z, bb false])
  | .sc .nilIface => some (.tp [ofV z, bb false])
  | _ => none
def aLd (σ : Hp) (m : Option Nat) (x : AV) : Option AV := match x with
  | .rf i k r c => match σ i with
    | some (.c b) => if b.k = k then (match b.rows[r]? with
      | some row => part row c m
      | none => none) else none
    | _ => none
  | .rt i k _ => match σ i with
    | some (.c b) => if b.k = k then (match b.rows[0]? with
      | some row => part row 0 m
      | none => none) else none
    | _ => none
  | .fp l => part l 0 m
  | _ => none
def aEqs (ks : List Nat) (neg : Bool) (x y : AV) : Option AV := match x, y with
  | .ag l, .ag m => (eqK ks l m).map fun p => bb (if neg then !p else p)
  | _, _ => none
def aEqb (neg : Bool) (x y : AV) : Option AV := match x, y with
  | .sc (.bool p), .sc (.bool q) => some (bb (if neg then !(p == q) else p == q))
  | _, _ => none
def aMxn (mx : Bool) (x y : AV) : Option AV := match x, y with
  | .sc (.int k a), .sc (.int _ b) => some (.sc (.int k (if mx then (if b > a then b else a) else (if b < a then b else a))))
  | _, _ => none
def aEqp (neg : Bool) (x y : AV) : Option AV := (eqP x y).map fun p => bb (if neg then !p else p)
def keyAt (l : List UInt8) : Nat → List (AV × AV) → Option (Option Nat)
  | _, [] => some none
  | n, e :: es => match e with
    | (.s k, .sc _) => if k = l then some (some n) else keyAt l (n + 1) es
    | _ => none
def aLkp (σ : Hp) (z : Value) (ok : Bool) (x k : AV) : Option AV := match x, k with
  | .mp i, .s l => (match σ i with
    | some (.m es _) => (match keyAt l 0 es with
      | some (some p) => (match es[p]? with
        | some (_, .sc v) => some (if ok = true then .tp [.sc v, .sc (.bool true)] else .sc v)
        | _ => none)
      | some none => some (if ok = true then .tp [.sc z, .sc (.bool false)] else .sc z)
      | none => none)
    | _ => none)
  | _, _ => none
def aEqn (neg : Bool) : AV → Option AV
  | .em => some .bo
  | .tr [] => some .bo
  | .tr (_ :: _) => some (bb neg)
  | .ow _ _ _ 0 => some .bo
  | .ow _ _ _ (_ + 1) => some (bb neg)
  | _ => none
def bytesOf : List (List AV) → Option (List Int)
  | [] => some []
  | r :: rs => match r with
    | [.sc (.int .u8 n)] => (bytesOf rs).map (n :: ·)
    | _ => none
def aCvb (σ : Hp) (x : AV) : Option AV := match rowsOf σ 1 x with
  | some rows => if rows.length ≤ 9223372036854775807 then (bytesOf rows).map (fun ns => .s (ns.map fun n => UInt8.ofNat n.toNat)) else none
  | none => none
def semR (σ : Hp) (g : Opd → AV) : SOp → Option AV
  | .mv x => some (g x)
  | .pick c a b => aPick (g c) (g a) (g b)
  | .build zs parts => aBuild zs (parts.map fun p => (p.1, p.2.1, g p.2.2))
  | .fad off x => aFad off (g x)
  | .fld m off x => aFld m off (g x)
  | .iad k x i => aIad k (g x) (g i)
  | .idp k n x i => aIdp k n (g x) (g i)
  | .istr x i => aIstr (g x) (g i)
  | .iarr m k len x i => aIarr m k len (g x) (g i)
  | .bin op x y => semBin op (g x) (g y)
  | .un op x => aUn op (g x)
  | .cvi k x => aCvi k (g x)
  | .cvs x => aCvs (g x)
  | .cvb x => aCvb σ (g x)
  | .len s x => aLen s (g x)
  | .slc k x lo hi mx => aSlc k (g x) (lo.map g) (hi.map g) (mx.map g)
  | .sstr x lo hi => aSstr (g x) (lo.map g) (hi.map g)
  | .ext x i => aExt (g x) i
  | .mkf f caps => some (.fn f (caps.map g))
  | .nck x => aNck (g x)
  | .mki t x => aMki t (g x)
  | .tas t z x => aTas t z (g x)
  | .ld m x => aLd σ m (g x)
  | .lkp z ok x k => aLkp σ z ok (g x) (g k)
  | .eqs ks neg x y => aEqs ks neg (g x) (g y)
  | .eqn neg x => aEqn neg (g x)
  | .eqb neg x y => aEqb neg (g x) (g y)
  | .eqp neg x y => aEqp neg (g x) (g y)
  | .mxn mx x y => aMxn mx (g x) (g y)
  | _ => none
/-! the operations that make memory or write the call's own -/
def hAlloc (id : Nat) (zs : List Value) : Option (AV × Wr) := some (.rf id zs.length 0 0, [(id, some (.c ⟨zs.length, [zs.map ofC], true, false⟩))])
def hAllt (id t : Nat) (zs : List Value) : Option (AV × Wr) := some (.rt id zs.length t, [(id, some (.c ⟨zs.length, [zs.map ofC], true, false⟩))])
def hBox (id : Nat) (x : AV) : Option (AV × Wr) := x.cells.map fun l => (.rf id l.length 0 0, [(id, some (.c ⟨l.length, [l], true, false⟩))])
def hBsl (σ : Hp) (id k : Nat) (zs : List Value) (len : Nat) (parts : List (Nat × AV)) : Option (AV × Wr) := match fillR σ k parts (List.replicate len (zs.map ofC)) [] with
  | some (rows, I) => some (.ow id k 0 len, frz σ I ++ [(id, some (.c ⟨k, rows, true, true⟩))])
  | none => none
def hSt (σ : Hp) (m : Nat) (x v : AV) : Option (AV × Wr) := match x with
  | .rf i k r c => match σ i with
    | some (.c b) => if b.k = k ∧ b.wr = true then (match b.rows[r]?, v.cells with
      | some row, some l => if l.length = m ∧ c + m ≤ row.length ∧ l.all leafok = true then some (.tp [], [(i, some (.c ⟨k, b.rows.set r (splice row c l), true, b.cl && l.all clo⟩))]) else none
      | _, _ => none) else none
    | _ => none
  | .rt i k _ => match σ i with
    | some (.c b) => if b.k = k ∧ b.wr = true then (match b.rows[0]?, v.cells with
      | some row, some l => if l.length = m ∧ 0 + m ≤ row.length ∧ l.all leafok = true then some (.tp [], [(i, some (.c ⟨k, b.rows.set 0 (splice row 0 l), true, b.cl && l.all clo⟩))]) else none
      | _, _ => none) else none
    | _ => none
  | _ => none
def hAppN (σ : Hp) (id k bytes : Nat) (x : AV) (news : List (List AV)) : Option (AV × Wr) := match x with
    | .em => if news.length * bytes ≤ 140737488355328 then (match news with
      | [] => some (.em, [])
      | _ :: _ => some (.ow id k 0 news.length, [(id, some (.c ⟨k, news, true, true⟩))])) else none
    | .ow i k' 0 len => (match σ i with
      | some (.c b) => if k' = k ∧ b.k = k ∧ b.wr = true ∧ b.cl = true ∧ b.rows.length = len ∧ (len + news.length) * bytes ≤ 140737488355328 ∧ i ≠ id then
          some (.ow id k 0 (len + news.length), [(i, none), (id, some (.c ⟨k, b.rows ++ news, true, true⟩))]) else none
      | _ => none)
    | _ => none
def hApp (σ : Hp) (id k bytes : Nat) (x y : AV) : Option (AV × Wr) := match rowsOf σ k y with
  | some news => if news.all (fun r => r.all leafok) = true then hAppN σ id k bytes x news else none
  | none => none
def byteRows (l : List UInt8) : List (List AV) := l.map fun b => [.sc (.int .u8 b.toNat)]
def hAps (σ : Hp) (id bytes : Nat) (x y : AV) : Option (AV × Wr) := match x, y with
  | .em, .s l => if l.length * bytes ≤ 140737488355328 then (match l with
      | [] => some (.em, [])
      | _ :: _ => some (.ob id l.length, [(id, some (.c ⟨1, byteRows l, true, true⟩))])) else none
  | .ob i len, .s l => (match σ i with
      | some (.c b) => if b.k = 1 ∧ b.wr = true ∧ b.cl = true ∧ b.rows.length = len ∧ (len + l.length) * bytes ≤ 140737488355328 ∧ i ≠ id ∧ 0 < len + l.length then
          some (.ob id (len + l.length), [(i, none), (id, some (.c ⟨1, b.rows ++ byteRows l, true, true⟩))]) else none
      | _ => none)
  | _, _ => none
def hMkm (id : Nat) : Option (AV × Wr) := some (.mp id, [(id, some (.m [] true))])
def hMup (σ : Hp) (x k v : AV) : Option (AV × Wr) := match x, k, v with
  | .mp i, .s l, .sc u => (match σ i with
    | some (.m es true) => (match keyAt l 0 es with
      | some (some p) => some (.tp [], [(i, some (.m (es.set p (.s l, .sc u)) true))])
      | some none => some (.tp [], [(i, some (.m (es ++ [(.s l, .sc u)]) true))])
      | none => none)
    | _ => none)
  | _, _, _ => none
def hClm (σ : Hp) (x : AV) : Option (AV × Wr) := match x with
  | .mp i => (match σ i with
    | some (.m _ true) => some (.tp [], [(i, some (.m [] true))])
    | _ => none)
  | _ => none
def semH (σ : Hp) (id : Nat) (g : Opd → AV) : SOp → Option (AV × Wr)
  | .alloc zs => hAlloc id zs
  | .allt t zs => hAllt id t zs
  | .box x => hBox id (g x)
  | .bsl k zs len parts => hBsl σ id k zs len (parts.map fun p => (p.1, g p.2))
  | .st m x v => hSt σ m (g x) (g v)
  | .app k bytes x y => hApp σ id k bytes (g x) (g y)
  | .aps bytes x y => hAps σ id bytes (g x) (g y)
  | .mkm => hMkm id
  | .mup x k v => hMup σ (g x) (g k) (g v)
  | .clm x => hClm σ (g x)
  | _ => none
def applyW (σ : Hp) : Wr → Hp
  | [] => σ
  | (i, x) :: rest => applyW (upd σ i x) rest

def szT (P : Program) (t : TypeId) : Option Nat := (P.info? t).map (·.size)
def zsT (P : Program) (t : TypeId) : Option (List Value) := ((P.info? t).bind (·.zero)).map (·.cells.toList)
def aggT (P : Program) (t : TypeId) : Option (Option Nat) := match P.underlying t with
  | some (.struct _) => (szT P t).map some
  | some (.array _ _) => (szT P t).map some
  | some _ => some none
  | none => none
def fieldT (P : Program) (t : TypeId) (f : Nat) : Option (Nat × TypeId) := match P.underlying t with
  | some (.struct fs) => fs[f]?.map fun x => (x.offset, x.type)
  | _ => none
def partsT (places : List (Nat × Nat)) : List (Nat × Operand) → Option (List (Nat × Nat × Opd))
  | [] => some []
  | (i, x) :: rest => match places[i]?, partsT places rest with
    | some (off, n), some l => some ((off, n, cOpd x) :: l)
    | _, _ => none
def placesT (P : Program) : TypeDesc → Option (List (Nat × Nat))
  | .struct fs => fs.toList.mapM (fun f => (P.info? f.type).map fun i => (f.offset, i.size))
  | .array n e => if n ≤ 64 then (P.info? e).map fun i => (List.range n).map fun j => (j * i.size, i.size) else none
  | _ => none
def flatF (rec_ : TypeId → Option (List Nat)) : List Field → Nat → Option (List Nat)
  | [], _ => some []
  | f :: fs, n => if f.offset = n ∧ (f.name == "_") = false then (match rec_ f.type with
    | some l => (flatF rec_ fs (n + l.length)).map (l ++ ·)
    | none => none) else none
def flatT (P : Program) : Nat → TypeId → Option (List Nat)
  | 0, _ => none
  | d + 1, t => match P.underlying t with
    | some (.int _) => some [0]
    | some .bool => some [1]
    | some .string => some [2]
    | some (.struct fs) => (match flatF (flatT P d) fs.toList 0 with
      | some l => if szT P t = some l.length ∧ P.stoodInHeld t = false then some l else none
      | none => none)
    | _ => none
def cmpEq (o : BinOp) (f : Bool → SOp) : Option SOp := match o with
  | .eql => some (f false)
  | .neq => some (f true)
  | _ => none
def cmpBin (P : Program) (o : BinOp) (t : TypeId) (x y : Operand) : Option SOp := match P.underlying t with
  | some (.int _) => some (.bin o (cOpd x) (cOpd y))
  | some .string => some (.bin o (cOpd x) (cOpd y))
  | some .bool => cmpEq o (.eqb · (cOpd x) (cOpd y))
  | some (.struct _) => if P.eqGuardType P.depth t = false then (match flatT P 6 t with
    | some ks => cmpEq o (.eqs ks · (cOpd x) (cOpd y))
    | none => none) else none
  | some (.pointer e) => if (szT P e).any (· != 0) = true then cmpEq o (.eqp · (cOpd x) (cOpd y)) else none
  | some (.slice _) => (match y with
    | .const (.slice none 0 0) => cmpEq o (.eqn · (cOpd x))
    | _ => none)
  | _ => none
def isBl : List Value → Bool
  | [.pointer none, .slice none 0 0] => true
  | _ => false
def cmpCall (P : Program) (c : Call) : Option SOp := match c.callee with
  | .value f => some (.call (cOpd f) (c.args.toList.map cOpd))
  | .builtin .len => match c.args.toList, (c.argTypes[0]?).bind P.underlying with
    | [x], some .string => some (.len true (cOpd x))
    | [x], some (.slice _) => some (.len false (cOpd x))
    | _, _ => none
  | .builtin .max => match c.args.toList with
    | [x, y] => some (.mxn true (cOpd x) (cOpd y))
    | _ => none
  | .builtin .min => match c.args.toList with
    | [x, y] => some (.mxn false (cOpd x) (cOpd y))
    | _ => none
  | .builtin .append => match c.args.toList, (c.argTypes[0]?).bind P.underlying, (c.argTypes[1]?).bind P.underlying with
    | [x, y], some (.slice e), some (.slice _) => match P.info? e with
      | some i => if 0 < i.size ∧ 0 < i.bytes ∧ i.zero.map (·.cells.size) = some i.size then some (.app i.size i.bytes (cOpd x) (cOpd y)) else none
      | none => none
    | [x, y], some (.slice e), some .string => match P.info? e with
      | some i => if e = 5 ∧ i.size = 1 ∧ 0 < i.bytes ∧ i.zero.map (·.cells.size) = some i.size then some (.aps i.bytes (cOpd x) (cOpd y)) else none
      | none => none
    | _, _, _ => none
  | .builtin .clear => match c.args.toList, (c.argTypes[0]?).bind P.underlying with
    | [x], some (.map _ _) => some (.clm (cOpd x))
    | _, _ => none
  | _ => none
def cmpMks (P : Program) (t : TypeId) (l c : Operand) : Option SOp := match l, c with
  | .const (.int .i64 (.ofNat len)), .const (.int .i64 (.ofNat len')) => match P.underlying t with
    | some (.slice e) => match szT P e, zsT P e with
      | some k, some zs => if 0 < k ∧ zs.length = k ∧ len * k ≤ 16777216 ∧ len' = len ∧ 0 < len ∧ ((P.info? e).map (·.bytes)).all (fun b => b * len ≤ 140737488355328) = true then some (.bsl k zs len []) else none
      | _, _ => none
    | _ => none
  | _, _ => none
def cmp (P : Program) (op : Op) : Option SOp :=
  match op with
  | .move x => some (.mv (cOpd x))
  | .assign x => some (.mv (cOpd x))
  | .pick c a b => some (.pick (cOpd c) (cOpd a) (cOpd b))
  | .alloc e => (zsT P e).map fun zs => if isBl zs = true then .allt e zs else .alloc zs
  | .box _ x => some (.box (cOpd x))
  | .build t parts => match P.underlying t, zsT P t with
    | some d, some zs => (match placesT P d with
      | some places => (partsT places parts.toList).map (.build zs)
      | none => none)
    | _, _ => none
  | .buildSlice t len parts => match P.underlying t with
    | some (.slice e) => match szT P e, zsT P e with
      | some k, some zs => if 0 < k ∧ zs.length = k ∧ len * k ≤ 16777216 then some (.bsl k zs len (parts.toList.map fun p => (p.1, cOpd p.2))) else none
      | _, _ => none
    | _ => none
  | .makeSlice t l c => cmpMks P t l c
  | .makeMap t none => match P.underlying t with
    | some (.map k _) => (match P.underlying k with
      | some .string => some .mkm
      | _ => none)
    | _ => none
  | .lookup t x k ok => match P.underlying t with
    | some (.map kt e) => (match P.underlying kt, (P.info? e).bind (·.zero) with
      | some .string, some z => some (.lkp z ok (cOpd x) (cOpd k))
      | _, _ => none)
    | _ => none
  | .mapUpdate t x k v => match P.underlying t with
    | some (.map kt _) => (match P.underlying kt with
      | some .string => some (.mup (cOpd x) (cOpd k) (cOpd v))
      | _ => none)
    | _ => none
  | .load t x => (aggT P t).map (.ld · (cOpd x))
  | .store t x v => (szT P t).map (.st · (cOpd x) (cOpd v))
  | .fieldAddr t x f => match fieldT P t f with
    | some (off, ft) => match szT P ft with
      | some n => if n = 0 then none else some (.fad off (cOpd x))
      | none => none
    | none => none
  | .field t x f => match fieldT P t f with
    | some (off, ft) => (aggT P ft).map (.fld · off (cOpd x))
    | none => none
  | .indexAddr t x i => match P.underlying t with
    | some (.slice e) => (szT P e).map (.iad · (cOpd x) (cOpd i))
    | some (.array n e) => (szT P e).map (.idp · n (cOpd x) (cOpd i))
    | _ => none
  | .index t x i => match P.underlying t with
    | some .string => some (.istr (cOpd x) (cOpd i))
    | some (.array n e) => match aggT P e, szT P e with
      | some m, some k => some (.iarr m k n (cOpd x) (cOpd i))
      | _, _ => none
    | _ => none
  | .binOp o t x y _ => cmpBin P o t x y
  | .unOp o _ x => some (.un o (cOpd x))
  | .convert s d x => match P.underlying s, P.underlying d with
    | some (.int _), some (.int k) => some (.cvi k (cOpd x))
    | some .string, some .string => some (.cvs (cOpd x))
    | some (.int _), some .string => some (.cvs (cOpd x))
    | some (.slice e), some .string => (match P.underlying e with
      | some (.int .u8) => some (.cvb (cOpd x))
      | _ => none)
    | _, _ => none
  | .slice t x lo hi mx => match P.underlying t with
    | some (.slice e) => match szT P e with
      | some k => if 0 < k then some (.slc k (cOpd x) (lo.map cOpd) (hi.map cOpd) (mx.map cOpd)) else none
      | none => none
    | some .string => (match mx with
      | none => some (.sstr (cOpd x) (lo.map cOpd) (hi.map cOpd))
      | some _ => none)
    | _ => none
  | .extract x i => some (.ext (cOpd x) i)
  | .makeFunc (.func f) first caps => if first.size = 0 then some (.mkf f (caps.toList.map cOpd)) else none
  | .nilCheck x => some (.nck (cOpd x))
  | .makeInterface t x => match P.underlying t with
    | some (.int _) => some (.mki t (cOpd x))
    | some .string => none
    | some (.struct _) => some (.mki t (cOpd x))
    | _ => none
  | .typeAssert x _ t true => match P.underlying t, (P.info? t).bind (·.zero) with
    | some (.interface _), _ => none
    | some _, some z => some (.tas t z (cOpd x))
    | _, _ => none
  | .panic x => some (.pan (cOpd x))
  | .call c => cmpCall P c
  | _ => none
def quiet : SOp → Bool
  | .alloc _ | .allt _ _ | .box _ | .bsl _ _ _ _ | .st _ _ _ | .app _ _ _ _ | .aps _ _ _ | .call _ _ | .pan _ | .mkm | .mup _ _ _ | .clm _ => false
  | _ => true
end Go.Proofs.YtodoejfkjimeaaaGreatDoor.Am

set_option linter.unusedSimpArgs false
set_option linter.unusedVariables false
namespace Go.Proofs.YtodoejfkjimeaaaGreatDoor.Am
open Go Go.RowKit

section
variable {P : Program} {N : Nat → Prop} {w0 : World} {M0 : Nat → Prop} {β0 : Nat → Option Nat} {ds : List Deferred} {β : Nat → Option Nat} {fr : Regs} {σ : Hp} {F : Nat → Prop} {a : Act} {w : World}

def GoodR (P : Program) (o : Oper) (N : Nat → Prop) (β : Nat → Option Nat) (σ : Hp) (a : Act) (w : World) (v : AV) : Prop :=
  ∃ u, (execOp a.eval o).run P w = .ok (.value u) w ∧ Rel (live N β σ) w β u v
theorem rel_ofC (M : Nat → Prop) (w : World) (β : Nat → Option Nat) (v : Value) : Rel M w β v (ofC v) := by
  unfold ofC
  split
  · split
    · exact .s _ _ rfl (by assumption)
    · exact .any _
  · exact .em _
  · exact .sc _
theorem rel_ofV (M : Nat → Prop) (w : World) (β : Nat → Option Nat) (v : Value) : Rel M w β v (ofV v) := by
  unfold ofV
  split
  · rename_i cs
    refine .ag cs _ (by simp) (fun i u a hu ha => ?_)
    have : cs.toList[i]? = some u := by simpa using hu
    simp only [List.getElem?_map, this, Option.map_some] at ha
    cases ha; exact rel_ofC _ _ _ _
  · rename_i cs
    refine .tp cs _ (by simp) (fun i u a hu ha => ?_)
    have : cs.toList[i]? = some u := by simpa using hu
    simp only [List.getElem?_map, this, Option.map_some] at ha
    cases ha; exact rel_ofC _ _ _ _
  · exact rel_ofC _ _ _ _
theorem rel_get (R : SRel N w0 M0 β0 ds β fr σ F a w) (x : Operand) : Rel (live N β σ) w β (a.eval x) ((cOpd x).get fr) := by
  cases x with
  | tmp t => exact R.regs t
  | const v => exact rel_ofV _ _ _ v
  | global g => exact .sc _
  | func f => exact .fn f #[] [] rfl (fun i u a h _ => by simp at h)
theorem add_none (b o j : Nat) : (⟨b, o, none⟩ : Addr).add j = ⟨b, o + j, none⟩ := by unfold Addr.add; split <;> simp_all
theorem blk_cell {b i : Nat} {cells : Array Value} {e : TypeId} {fz : Nat × Nat} {u : Value} (h : w.heap[b]? = some (.cells cells e fz)) (hu : cells[i]? = some u) : w.cell? ⟨b, i, none⟩ = some u := by
  simp [World.cell?, h, hu]
def partV (m : Option Nat) (us : Nat → Value) (c : Nat) : Value := match m with
  | none => us c
  | some n => .agg ((List.range n).map (fun j => us (c + j))).toArray
theorem run_loadVar_part {t : TypeId} {m : Option Nat} (h : aggT P t = some m) (A : Addr) (us : Nat → Value) (hcell : ∀ j, j < m.getD 1 → w.cell? (A.add j) = some (us j)) :
    (loadVar t A).run P w = .ok (partV m us 0) w := by
  unfold partV
  simp only [Nat.zero_add]
  have h0 : A.add 0 = A := by simp [Addr.add]
  unfold aggT szT at h
  cases hu : P.underlying t with
  | none => simp [hu] at h
  | some d =>
    cases d <;> simp [hu] at h <;> first
      | (obtain ⟨i, hi, rfl⟩ := h
         simp [loadVar, isAgg, run_underlying hu, sizeOf, typeInfo, hi, run_loadCells w A _ us (by simpa using hcell)])
      | (subst h
         have hc := hcell 0 (by simp)
         rw [h0] at hc
         simp [loadVar, isAgg, run_underlying hu, hc])
theorem part_rel {M : Nat → Prop} {row : List AV} {us : Nat → Value} (hr : ∀ (j : Nat) (x : AV), row[j]? = some x → Rel M w β (us j) x) {c : Nat} {m : Option Nat} {v : AV} (h : part row c m = some v) :
    Rel M w β (partV m us c) v ∧ c + m.getD 1 ≤ row.length := by
  unfold partV
  cases m with
  | none =>
    simp only [part] at h
    exact ⟨hr c v h, by have := (List.getElem?_eq_some_iff.1 h).1; simp; omega⟩
  | some n =>
    simp only [part] at h
    split at h
    · rename_i hle
      cases h
      refine ⟨.ag _ _ (by simp; omega) (fun i u x hu hx => ?_), by simpa using hle⟩
      have hi : i < n := by
        have := (Array.getElem?_eq_some_iff.1 hu).1; simpa using this
      have hu' : us (c + i) = u := by
        simp [hi] at hu; exact hu
      rw [List.getElem?_take, if_pos hi, List.getElem?_drop] at hx
      rw [← hu']; exact hr _ _ hx
    · cases h
theorem rel_row {x : Blk} {cells : Array Value} (hx : ∀ (p q : Nat) (r : List AV) (z : AV), x.rows[p]? = some r → r[q]? = some z → ∃ u, cells[p * x.k + q]? = some u ∧ Rel (live N β σ) w (x.nm β) u z) {p : Nat} {row : List AV} (hp : x.rows[p]? = some row) :
    ∀ (j : Nat) (z : AV), row[j]? = some z → Rel (live N β σ) w β (cells.getD (p * x.k + j) undef) z := by
  intro j z hz
  obtain ⟨u, hu, hr⟩ := hx p j row z hp hz
  simpa [Array.getD_eq_getD_getElem?, hu] using nm_lift hr
theorem rel_sc {β : Nat → Option Nat} {M : Nat → Prop} {v x : Value} (h : Rel M w β v (.sc x)) : v = x := by cases h; rfl
theorem rel_s {β : Nat → Option Nat} {M : Nat → Prop} {v : Value} {l : List UInt8} (h : Rel M w β v (.s l)) : ∃ b : ByteArray, v = .string b ∧ b.data.toList = l ∧ l.length ≤ 9223372036854775807 := by cases h; exact ⟨_, rfl, by assumption, by assumption⟩
theorem good_mv (R : SRel N w0 M0 β0 ds β fr σ F a w) {o : Oper} {x : Operand} (ho : o.op = .move x ∨ o.op = .assign x) : GoodR P o N β σ a w ((cOpd x).get fr) :=
  ⟨a.eval x, by rcases ho with ho | ho <;> simp [execOp, ho], rel_get R x⟩
theorem good_pick (R : SRel N w0 M0 β0 ds β fr σ F a w) {o : Oper} {c x y : Operand} {v : AV} (ho : o.op = .pick c x y) (hs : aPick ((cOpd c).get fr) ((cOpd x).get fr) ((cOpd y).get fr) = some v) : GoodR P o N β σ a w v := by
  unfold aPick at hs
  split at hs
  · rename_i t hc
    cases hs
    have h := rel_get R c
    rw [hc] at h
    have hu := rel_sc h
    refine ⟨if t then a.eval x else a.eval y, by simp [execOp, ho, hu, asBool], ?_⟩
    cases t
    · exact rel_get R y
    · exact rel_get R x
  · cases hs
theorem good_ld (R : SRel N w0 M0 β0 ds β fr σ F a w) {o : Oper} {x : Operand} {t : TypeId} {m : Option Nat} {v : AV} (ho : o.op = .load t x) (ht : aggT P t = some m) (hs : aLd σ m ((cOpd x).get fr) = some v) : GoodR P o N β σ a w v := by
  have h := rel_get R x
  generalize (cOpd x).get fr = X at h hs
  generalize hu : a.eval x = u at h
  obtain ⟨X, h, hs, hnt⟩ : ∃ X, Rel (live N β σ) w β u X ∧ aLd σ m X = some v ∧ ∀ i k t, X ≠ .rt i k t := by
    cases X with
    | rt i k t => exact ⟨.rf i k 0 0, rel_rt h, hs, fun _ _ _ h => by cases h⟩
    | _ => exact ⟨_, h, hs, fun _ _ _ h => by cases h⟩
  unfold aLd at hs
  cases h <;> simp only [reduceCtorEq] at hs
  case rt => exact absurd rfl (hnt _ _ _)
  case rf i k r c b hb =>
    cases hσ : σ i with
    | none => simp [hσ] at hs
    | some y =>
    cases y with
    | m es wr => simp [hσ] at hs
    | lp L fr S st pe wr => simp [hσ] at hs
    | df o wr => simp [hσ] at hs
    | c y =>
      simp only [hσ] at hs
      split at hs
      · rename_i hk
        cases hrow : y.rows[r]? with
        | none => simp [hrow] at hs
        | some row =>
          simp only [hrow] at hs
          obtain ⟨cells, e, h2, h3, h4, h4', h5⟩ := R.heap.phys hσ hb
          have hrel := rel_row h5 hrow
          obtain ⟨hv, hlen⟩ := part_rel hrel hs
          have hcell : ∀ j, j < m.getD 1 → w.cell? ((⟨b, r * k + c, none⟩ : Addr).add j) = some ((fun j => cells.getD (r * y.k + (c + j)) undef) j) := by
            intro j hj
            obtain ⟨u, hu, _⟩ := h5 r (c + j) row row[c + j] hrow (List.getElem?_eq_getElem (by omega))
            rw [add_none, show r * k + c + j = r * y.k + (c + j) by rw [hk]; omega]
            rw [blk_cell h2 hu]
            simp [Array.getD_eq_getD_getElem?, hu]
          have hrun := run_loadVar_part ht _ _ hcell
          have e : partV m (fun j => cells.getD (r * y.k + (c + j)) undef) 0 = partV m (fun j => cells.getD (r * y.k + j) undef) c := by unfold partV; cases m <;> simp
          rw [e] at hrun
          exact ⟨_, by simp [execOp, ho, hu, Instr.loadAt, Instr.sureAddr, hrun]; try rfl, hv⟩
      · cases hs
  case fp A l us hl hm hc hr =>
    obtain ⟨hv, hlen⟩ := part_rel hr hs
    have hrun := run_loadVar_part (w := w) ht A us (fun j hj => hc j (by omega))
    exact ⟨_, by simp [execOp, ho, hu, Instr.loadAt, Instr.sureAddr, hrun]; try rfl, hv.lift⟩
theorem good_fad (R : SRel N w0 M0 β0 ds β fr σ F a w) {o : Oper} {x : Operand} {t ft : TypeId} {f off n : Nat} {v : AV} (ho : o.op = .fieldAddr t x f) (ht : fieldT P t f = some (off, ft)) (hn : szT P ft = some n) (hn0 : n ≠ 0)
    (hs : aFad off ((cOpd x).get fr) = some v) : GoodR P o N β σ a w v := by
  have h := rel_get R x
  unfold aFad at hs
  generalize (cOpd x).get fr = X at h hs
  generalize hu : a.eval x = u at h
  unfold fieldT at ht
  unfold szT at hn
  obtain ⟨fs, hfs⟩ : ∃ fs, P.underlying t = some (.struct fs) := by
    cases hd : P.underlying t with
    | none => simp [hd] at ht
    | some d => cases d <;> simp [hd] at ht; exact ⟨_, rfl⟩
  simp only [hfs, Option.map_eq_some_iff, Prod.mk.injEq] at ht
  obtain ⟨fd, hfd, h1, h2⟩ := ht
  obtain ⟨inf, hinf, h3⟩ := Option.map_eq_some_iff.1 hn
  have hrun : ∀ A : Addr, (Instr.fieldAt t (.pointer (some A)) f).run P w = .ok (.pointer (some (A.add off))) w := by
    intro A
    subst h1 h2 h3
    simp [Instr.fieldAt, run_underlying hfs, hfd, Instr.sureAddr, fieldPlace, sizeOf, typeInfo, hinf, hn0]
  cases h <;> simp only [reduceCtorEq] at hs
  case rf i k r c b hb =>
    cases hs
    refine ⟨.pointer (some ⟨b, r * k + c + off, none⟩), ?_, by rw [Nat.add_assoc]; exact .rf i k r (c + off) b hb⟩
    simp [execOp, ho, hu, hrun, add_none]
  case rt i k t' b hsh' hb' =>
    refine ⟨.pointer (some ⟨b, off, none⟩), by simp [execOp, ho, hu, hrun, add_none], ?_⟩
    split at hs
    · rename_i h0
      cases hs
      rw [h0]
      exact .rt i k t' b (by assumption) (by assumption)
    · cases hs
      simpa using Rel.rf (M := live N β σ) (w := w) (β := β) i k 0 off b (by assumption)
  case fp A l us hl hm hc hr =>
    split at hs
    · rename_i hlt
      cases hs
      have hadd : ∀ j, (A.add off).add j = A.add (off + j) := by
        intro j
        unfold Addr.add
        by_cases h0 : off = 0
        · simp [h0]
        · by_cases hj : j = 0
          · simp [hj, h0]
          · simp [h0, hj, Nat.add_assoc]
      refine ⟨.pointer (some (A.add off)), by simp [execOp, ho, hu, hrun], ?_⟩
      refine .fp (A.add off) (l.drop off) (fun j => us (off + j)) (by simp; omega) (by rwa [show (A.add off).block = A.block by unfold Addr.add; split <;> rfl]) ?_ ?_
      · intro j hj
        rw [hadd]; exact hc _ (by simp at hj; omega)
      · intro j z hz
        rw [List.getElem?_drop] at hz; exact hr _ _ hz
    · cases hs
theorem add_add (A : Addr) (x y : Nat) : (A.add x).add y = A.add (x + y) := by
  unfold Addr.add
  by_cases h0 : x = 0
  · simp [h0]
  · by_cases hj : y = 0
    · simp [hj, h0]
    · simp [h0, hj, Nat.add_assoc]
theorem add_block (A : Addr) (x : Nat) : (A.add x).block = A.block := by unfold Addr.add; split <;> rfl
theorem asI_some {x : AV} {n : Int} (h : asI x = some n) : ∃ k, x = .sc (.int k n) := by
  unfold asI at h
  split at h
  · cases h; exact ⟨_, rfl⟩
  · cases h
theorem run_part {t : TypeId} {m : Option Nat} (h : aggT P t = some m) (cs : Array Value) (off : Nat) (hl : off + m.getD 1 ≤ cs.size) : (Go.part t cs off).run P w = .ok (partV m (fun j => cs.getD j undef) off) w := by
  unfold partV
  unfold aggT szT at h
  cases hu : P.underlying t with
  | none => simp [hu] at h
  | some d =>
    cases d <;> simp [hu] at h <;> first
      | (obtain ⟨i, hi, rfl⟩ := h
         simp at hl
         simp [Go.part, isAgg, run_underlying hu, sizeOf, typeInfo, hi]
         apply Array.ext
         · simp; omega
         · intro j h1 h2
           simp at h1
           simp [Array.getElem?_eq_getElem (show off + j < cs.size by omega)])
      | (subst h
         simp at hl
         simp [Go.part, isAgg, run_underlying hu, Array.getElem?_eq_getElem (show off < cs.size by omega)])
theorem ag_getD {vs : Array Value} {l : List AV} (hn : vs.size = l.length) (hr : ∀ (i : Nat) (u : Value) (a : AV), vs[i]? = some u → l[i]? = some a → Rel (live N β σ) w β u a) : ∀ (j : Nat) (z : AV), l[j]? = some z → Rel (live N β σ) w β (vs.getD j undef) z := by
  intro j z hz
  have hj : j < vs.size := by rw [hn]; exact (List.getElem?_eq_some_iff.1 hz).1
  have := hr j vs[j] z (by simp [hj]) hz
  simpa [Array.getD_eq_getD_getElem?, hj] using this
theorem good_fld (R : SRel N w0 M0 β0 ds β fr σ F a w) {o : Oper} {x : Operand} {t ft : TypeId} {f off : Nat} {m : Option Nat} {v : AV} (ho : o.op = .field t x f) (ht : fieldT P t f = some (off, ft)) (hm : aggT P ft = some m)
    (hs : aFld m off ((cOpd x).get fr) = some v) : GoodR P o N β σ a w v := by
  have h := rel_get R x
  unfold aFld at hs
  generalize (cOpd x).get fr = X at h hs
  generalize hu : a.eval x = u at h
  unfold fieldT at ht
  obtain ⟨fs, hfs⟩ : ∃ fs, P.underlying t = some (.struct fs) := by
    cases hd : P.underlying t with
    | none => simp [hd] at ht
    | some d => cases d <;> simp [hd] at ht; exact ⟨_, rfl⟩
  simp only [hfs, Option.map_eq_some_iff, Prod.mk.injEq] at ht
  obtain ⟨fd, hfd, h1, h2⟩ := ht
  cases h <;> simp only [reduceCtorEq] at hs
  case ag vs l hn hr =>
    obtain ⟨hv, hlen⟩ := part_rel (ag_getD hn hr) hs
    refine ⟨partV m (fun j => vs.getD j undef) off, ?_, hv⟩
    have hrun := run_part (w := w) hm vs off (by omega)
    subst h1 h2
    simp [execOp, ho, hu, Instr.field, run_underlying hfs, hfd, asAgg, hrun]
theorem good_iarr (R : SRel N w0 M0 β0 ds β fr σ F a w) {o : Oper} {x i : Operand} {t e : TypeId} {n k : Nat} {m : Option Nat} {v : AV} (ho : o.op = .index t x i) (ht : P.underlying t = some (.array n e)) (hm : aggT P e = some m) (hk : szT P e = some k)
    (hs : aIarr m k n ((cOpd x).get fr) ((cOpd i).get fr) = some v) : GoodR P o N β σ a w v := by
  have h := rel_get R x
  have h' := rel_get R i
  unfold szT at hk
  obtain ⟨inf, hinf, hsz⟩ := Option.map_eq_some_iff.1 hk
  unfold aIarr at hs
  split at hs
  · rename_i l kk j e1 e2
    rw [e1] at h; rw [e2] at h'
    have hi := rel_sc h'
    generalize hu : a.eval x = u at h
    cases h with
    | ag vs l hn hr =>
      split at hs
      · rename_i hc
        obtain ⟨hv, hlen⟩ := part_rel (ag_getD hn hr) hs
        refine ⟨_, ?_, hv⟩
        have hrun := run_part (w := w) hm vs (j.toNat * k) (by omega)
        simp [execOp, ho, hu, hi, Instr.index, asIntOf, run_underlying ht, hc.1, hc.2, sizeOf, typeInfo, hinf, hsz, hrun]
      · cases hs
  · cases hs
theorem good_iad (R : SRel N w0 M0 β0 ds β fr σ F a w) {o : Oper} {x i : Operand} {t e : TypeId} {k : Nat} {v : AV} (ho : o.op = .indexAddr t x i) (ht : P.underlying t = some (.slice e)) (hk : szT P e = some k)
    (hs : aIad k ((cOpd x).get fr) ((cOpd i).get fr) = some v) : GoodR P o N β σ a w v := by
  have h := rel_get R x
  have h' := rel_get R i
  unfold szT at hk
  obtain ⟨inf, hinf, hsz⟩ := Option.map_eq_some_iff.1 hk
  unfold aIad at hs
  split at hs
  · rename_i kk n e2
    rw [e2] at h'
    have hi := rel_sc h'
    generalize (cOpd x).get fr = X at h hs
    generalize hu : a.eval x = u at h
    cases h <;> simp only [reduceCtorEq] at hs
    case tr A c k' rows us hk0 hc hB hrl hA hcell hr =>
      split at hs
      · rename_i hn0
        cases hrow : rows[n.toNat]? with
        | none => simp [hrow] at hs
        | some row =>
          simp only [hrow] at hs
          split at hs
          · rename_i hkk
            cases hs
            have hlt := (List.getElem?_eq_some_iff.1 hrow).1
            have hmem : row ∈ rows := List.mem_of_getElem? hrow
            have hrlen := hrl row hmem
            obtain rfl : k' = k := hrlen.symm.trans hkk
            obtain ⟨ad, rfl, hm⟩ := hA (by rintro rfl; simp at hlt)
            have hlt' : n < (rows.length : Int) := by omega
            refine ⟨.pointer (some (ad.add (n.toNat * k'))), ?_, ?_⟩
            · simp [execOp, ho, hu, hi, Instr.indexAt, asIntOf, run_underlying ht, hn0, hlt', sizeOf, typeInfo, hinf, hsz]
            · refine .fp _ row (fun j => us n.toNat j) (by intro e; rw [e] at hrlen; simp at hrlen; omega) (by rwa [add_block]) ?_ ?_
              · intro j hj
                rw [add_add]; exact hcell ad _ j rfl hlt (by omega)
              · intro j z hz
                exact hr _ j row z hrow hz
          · cases hs
      · cases hs
    case ow j k' off len cap b ee nn hl hsh hnn hb =>
      split at hs
      · rename_i hcond
        obtain ⟨rfl, hn0, hlt'⟩ := hcond
        cases hs
        refine ⟨.pointer (some ⟨b, off * k' + n.toNat * k', none⟩), ?_, ?_⟩
        · simp [execOp, ho, hu, hi, Instr.indexAt, asIntOf, run_underlying ht, hn0, hlt', sizeOf, typeInfo, hinf, hsz, add_none]
        · have := Rel.rf (β := β) (M := live N β σ) (w := w) j k' (off + n.toNat) 0 b hb
          rwa [Nat.add_zero, Nat.add_mul] at this
      · cases hs
    case ow0 A j k' =>
      split at hs
      · rename_i hcond
        have := hcond.2.2
        have := hcond.2.1
        simp at *; omega
      · cases hs
  · cases hs
theorem good_idp (R : SRel N w0 M0 β0 ds β fr σ F a w) {o : Oper} {x i : Operand} {t e : TypeId} {n k : Nat} {v : AV} (ho : o.op = .indexAddr t x i) (ht : P.underlying t = some (.array n e)) (hk : szT P e = some k)
    (hs : aIdp k n ((cOpd x).get fr) ((cOpd i).get fr) = some v) : GoodR P o N β σ a w v := by
  have h := rel_get R x
  have h' := rel_get R i
  unfold szT at hk
  obtain ⟨inf, hinf, hsz⟩ := Option.map_eq_some_iff.1 hk
  unfold aIdp at hs
  split at hs
  · rename_i id k' r c kk j e1 e2
    rw [e1] at h; rw [e2] at h'
    have hi := rel_sc h'
    generalize hu : a.eval x = u at h
    cases h with
    | rf _ _ _ _ b hb =>
      split at hs
      · rename_i hc
        cases hs
        refine ⟨.pointer (some ⟨b, r * k' + c + j.toNat * k, none⟩), ?_, by rw [Nat.add_assoc]; exact .rf id k' r (c + j.toNat * k) b hb⟩
        simp [execOp, ho, hu, hi, Instr.indexAt, asIntOf, run_underlying ht, Instr.sureAddr, hc.1, hc.2, sizeOf, typeInfo, hinf, hsz, add_none]
      · cases hs
  · cases hs
theorem good_istr (R : SRel N w0 M0 β0 ds β fr σ F a w) {o : Oper} {x i : Operand} {t : TypeId} {v : AV} (ho : o.op = .index t x i) (ht : P.underlying t = some .string)
    (hs : aIstr ((cOpd x).get fr) ((cOpd i).get fr) = some v) : GoodR P o N β σ a w v := by
  have h := rel_get R x
  have h' := rel_get R i
  unfold aIstr at hs
  split at hs
  · rename_i l kk n e1 e2
    rw [e1] at h; rw [e2] at h'
    have hi := rel_sc h'
    obtain ⟨s, hu, rfl, hb⟩ := rel_s h
    split at hs
    · rename_i hn0
      cases hb : s.data.toList[n.toNat]? with
      | none => rw [hb] at hs; cases hs
      | some b =>
        rw [hb] at hs
        cases hs
        have hb' : s[n.toNat]? = some b := by
          obtain ⟨h1, h2⟩ := List.getElem?_eq_some_iff.1 hb
          rw [getElem?_pos s n.toNat (by simpa using h1)]
          exact congrArg some (by rw [Array.getElem_toList] at h2; exact h2)
        exact ⟨.int .u8 b.toNat, by simp [execOp, ho, hu, hi, Instr.index, asIntOf, run_underlying ht, hn0, hb'], .sc _⟩
    · cases hs
  · cases hs
theorem good_bin (R : SRel N w0 M0 β0 ds β fr σ F a w) {o : Oper} {op : BinOp} {x y : Operand} {t yt : TypeId} {v : AV} (ho : o.op = .binOp op t x y yt)
    (hs : semBin op ((cOpd x).get fr) ((cOpd y).get fr) = some v) : GoodR P o N β σ a w v := by
  have h1 := rel_get R x
  have h2 := rel_get R y
  unfold semBin at hs
  split at hs
  · rename_i k p k' q e1 e2
    rw [e1] at h1; rw [e2] at h2
    have e1 := rel_sc h1
    have e2 := rel_sc h2
    split at hs
    · split at hs
      · cases hs
      · rename_i hq
        cases hs
        exact ⟨_, by simp [execOp, ho, e1, e2, eqGuard, Go.binOp, Op.shift, hq]; try rfl, .sc _⟩
    · split at hs
      · cases hs
      · rename_i hq
        cases hs
        exact ⟨_, by simp [execOp, ho, e1, e2, eqGuard, Go.binOp, Op.shift, hq]; try rfl, .sc _⟩
    · rename_i hsl hsr
      by_cases hk : k = k'
      · subst hk
        simp only [if_true] at hs
        cases op <;> simp only [Option.some.injEq, reduceCtorEq] at hs <;> first
          | exact absurd rfl hsl
          | exact absurd rfl hsr
          | (subst hs
             exact ⟨_, by simp [execOp, ho, e1, e2, eqGuard, Go.binOp, Op.intArith, Op.intCmp, Op.intBits, bits]; try rfl, .sc _⟩)
          | (split at hs
             · cases hs
             · rename_i hq
               cases hs
               exact ⟨_, by simp [execOp, ho, e1, e2, eqGuard, Go.binOp, Op.intDiv, hq]; try rfl, .sc _⟩)
      · rw [if_neg hk] at hs; cases hs
  · rename_i l l' g1 g2
    rw [g1] at h1; rw [g2] at h2
    obtain ⟨s, e1, rfl, hb1⟩ := rel_s h1
    obtain ⟨s', e2, rfl, hb2⟩ := rel_s h2
    clear g1 g2 h1 h2
    cases op <;> simp only [Option.some.injEq, reduceCtorEq] at hs <;> first
      | (subst hs
         exact ⟨_, by simp [execOp, ho, e1, e2, eqGuard, Go.binOp, Op.stringOp, Lib.toList_data]; try rfl, .sc _⟩)
      | (split at hs
         · rename_i hq
           cases hs
           have hq' : ¬ (9223372036854775807 < (s.size : Int) + (s'.size : Int)) := by
             have e3 : s.data.toList.length = s.size := by simp
             have e4 : s'.data.toList.length = s'.size := by simp
             omega
           exact ⟨.string (s ++ s'), by simp [execOp, ho, e1, e2, eqGuard, Go.binOp, Op.stringOp, IntKind.max, IntKind.bits, IntKind.signed, hq']; try rfl, .s _ _ (data_append' s s') (by simpa using hq)⟩
         · cases hs)
  · cases hs
theorem good_un (R : SRel N w0 M0 β0 ds β fr σ F a w) {o : Oper} {op : UnOp} {x : Operand} {t : TypeId} {v : AV} (ho : o.op = .unOp op t x)
    (hs : aUn op ((cOpd x).get fr) = some v) : GoodR P o N β σ a w v := by
  have h1 := rel_get R x
  unfold aUn at hs
  split at hs
  · rename_i e1
    rw [e1] at h1
    have e1 := rel_sc h1
    cases hs
    exact ⟨_, by simp [execOp, ho, e1, Op.unary]; try rfl, .sc _⟩
  · rename_i e1
    rw [e1] at h1
    have e1 := rel_sc h1
    cases hs
    exact ⟨_, by simp [execOp, ho, e1, Op.unary, Op.intArith]; try rfl, .sc _⟩
  · rename_i e1
    rw [e1] at h1
    have e1 := rel_sc h1
    cases hs
    exact ⟨_, by simp [execOp, ho, e1, Op.unary, Op.intBits, bits]; try rfl, .sc _⟩
  · cases hs
theorem good_cvi (R : SRel N w0 M0 β0 ds β fr σ F a w) {o : Oper} {x : Operand} {s d : TypeId} {k0 k : IntKind} {v : AV} (ho : o.op = .convert s d x) (h1 : P.underlying s = some (.int k0)) (h2 : P.underlying d = some (.int k))
    (hs : aCvi k ((cOpd x).get fr) = some v) : GoodR P o N β σ a w v := by
  have h := rel_get R x
  unfold aCvi at hs
  split at hs
  · rename_i e1
    rw [e1] at h
    have e1 := rel_sc h
    cases hs
    exact ⟨_, by simp [execOp, ho, e1, convert, run_underlying h1, run_underlying h2, Conv.intToInt]; try rfl, .sc _⟩
  · cases hs
theorem enc_one {n : Int} (h : 0 ≤ n ∧ n < 128) : Utf8.encode n = ⟨#[UInt8.ofNat n.toNat]⟩ := by
  obtain ⟨h0, h1⟩ := h
  have hv : Utf8.valid n = true := by
    simp only [Utf8.valid, Bool.or_eq_true, Bool.and_eq_true, decide_eq_true_eq]
    omega
  have hc : n.toNat < 128 := by omega
  simp only [Utf8.encode, hv, if_true, if_pos hc]
theorem good_cvs (R : SRel N w0 M0 β0 ds β fr σ F a w) {o : Oper} {x : Operand} {s d : TypeId} {v : AV} (ho : o.op = .convert s d x) (h1 : P.underlying s = some .string) (h2 : P.underlying d = some .string) (hs : aCvs ((cOpd x).get fr) = some v) : GoodR P o N β σ a w v := by
  have h := rel_get R x
  unfold aCvs at hs
  split at hs
  · rename_i l e
    rw [e] at h
    cases hs
    obtain ⟨b, e1, rfl, hb⟩ := rel_s h
    exact ⟨.string b, by simp [execOp, ho, e1, convert, run_underlying h1, run_underlying h2]; try rfl, .s _ _ rfl hb⟩
  · rename_i k n e
    rw [e] at h
    split at hs
    · rename_i hn
      cases hs
      have e1 := rel_sc h
      exact ⟨.string ⟨#[UInt8.ofNat n.toNat]⟩, by simp [execOp, ho, e1, convert, run_underlying h1, run_underlying h2, Conv.intToString, enc_one hn]; try rfl, .s _ _ rfl (by simp)⟩
    · cases hs
  · cases hs
theorem good_cvr (R : SRel N w0 M0 β0 ds β fr σ F a w) {o : Oper} {x : Operand} {s d : TypeId} {k0 : IntKind} {v : AV} (ho : o.op = .convert s d x) (h1 : P.underlying s = some (.int k0)) (h2 : P.underlying d = some .string) (hs : aCvs ((cOpd x).get fr) = some v) : GoodR P o N β σ a w v := by
  have h := rel_get R x
  unfold aCvs at hs
  split at hs
  · rename_i l e
    rw [e] at h
    cases hs
    obtain ⟨b, e1, rfl, hb⟩ := rel_s h
    exact ⟨.string b, by simp [execOp, ho, e1, convert, run_underlying h1, run_underlying h2]; try rfl, .s _ _ rfl hb⟩
  · rename_i k n e
    rw [e] at h
    split at hs
    · rename_i hn
      cases hs
      have e1 := rel_sc h
      exact ⟨.string ⟨#[UInt8.ofNat n.toNat]⟩, by simp [execOp, ho, e1, convert, run_underlying h1, run_underlying h2, Conv.intToString, enc_one hn]; try rfl, .s _ _ rfl (by simp)⟩
    · cases hs
  · cases hs
theorem good_ext (R : SRel N w0 M0 β0 ds β fr σ F a w) {o : Oper} {x : Operand} {i : Nat} {v : AV} (ho : o.op = .extract x i)
    (hs : aExt ((cOpd x).get fr) i = some v) : GoodR P o N β σ a w v := by
  have h := rel_get R x
  unfold aExt at hs
  generalize (cOpd x).get fr = X at h hs
  generalize hu : a.eval x = u at h
  cases h <;> simp only [reduceCtorEq] at hs
  case tp vs l hn hr =>
    have hi : i < vs.size := by rw [hn]; exact (List.getElem?_eq_some_iff.1 hs).1
    exact ⟨vs[i], by simp [execOp, ho, hu, Instr.extract, hi], hr i _ _ (by simp [hi]) hs⟩
theorem good_mkf (R : SRel N w0 M0 β0 ds β fr σ F a w) {o : Oper} {f : Nat} {first caps : Array Operand} (ho : o.op = .makeFunc (.func f) first caps) (h0 : first.size = 0) : GoodR P o N β σ a w (.fn f ((caps.toList.map cOpd).map (Opd.get fr))) := by
  have h0' : first = #[] := Array.size_eq_zero_iff.1 h0
  subst h0'
  refine ⟨.func (.func f) #[] (caps.map a.eval), by simp [execOp, ho, Instr.makeFunc], .fn f _ _ (by simp) (fun i u z hu hz => ?_)⟩
  rw [List.map_map, List.getElem?_map] at hz
  rw [Array.getElem?_map] at hu
  cases hc : caps[i]? with
  | none => simp [hc] at hu
  | some x =>
    rw [hc, Option.map_some] at hu
    rw [show caps.toList[i]? = some x by simpa using hc, Option.map_some] at hz
    cases hu; cases hz
    exact rel_get R x
theorem good_len_str (R : SRel N w0 M0 β0 ds β fr σ F a w) {o : Oper} {c : Call} {x : Operand} {v : AV} (ho : o.op = .call c) (hc : c.callee = .builtin .len) (ha : c.args.toList = [x])
    (ht : (c.argTypes[0]?).bind P.underlying = some .string) (hs : aLen true ((cOpd x).get fr) = some v) : GoodR P o N β σ a w v := by
  have h := rel_get R x
  unfold aLen at hs
  obtain ⟨t, ht1, ht2⟩ := Option.bind_eq_some_iff.1 ht
  have ha' : c.args = #[x] := by apply Array.ext'; simpa using ha
  split at hs
  · rename_i g e
    rw [e] at h
    obtain ⟨b, e1, rfl, hb⟩ := rel_s h
    cases hs
    exact ⟨_, by simp [execOp, ho, resolve, hc, ha', invoke, Go.builtin, Builtin.len_, ht1, e1, run_underlying ht2]; try rfl, by rw [show b.data.toList.length = b.size by simp]; exact .sc _⟩
  all_goals first
    | (rename_i g e; cases g; done)
    | cases hs
theorem good_len_sl (R : SRel N w0 M0 β0 ds β fr σ F a w) {o : Oper} {c : Call} {x : Operand} {e' : TypeId} {v : AV} (ho : o.op = .call c) (hc : c.callee = .builtin .len) (ha : c.args.toList = [x])
    (ht : (c.argTypes[0]?).bind P.underlying = some (.slice e')) (hs : aLen false ((cOpd x).get fr) = some v) : GoodR P o N β σ a w v := by
  have h := rel_get R x
  unfold aLen at hs
  obtain ⟨t, ht1, ht2⟩ := Option.bind_eq_some_iff.1 ht
  have ha' : c.args = #[x] := by apply Array.ext'; simpa using ha
  split at hs
  · rename_i g e; cases g
  all_goals first
    | (rename_i e; rw [e] at h; generalize hu : a.eval x = u at h; cases hs; cases h <;> exact ⟨_, by simp [execOp, ho, resolve, hc, ha', invoke, Go.builtin, Builtin.len_, ht1, hu, run_underlying ht2]; try rfl, .sc _⟩)
    | cases hs
theorem opt_eval (R : SRel N w0 M0 β0 ds β fr σ F a w) {d : Nat} {x : Option Operand} {n : Int} (h : optI d ((x.map cOpd).map (Opd.get fr)) = some n) : match x.map a.eval with | none => n = d | some v => ∃ k, v = .int k n := by
  cases x with
  | none => simp only [Option.map_none, optI, Option.some.injEq] at h; exact h.symm
  | some x =>
    obtain ⟨k, hk⟩ := asI_some (x := (cOpd x).get fr) h
    have := rel_get R x
    rw [hk] at this
    exact ⟨k, rel_sc this⟩
theorem run_bounds {s : Bool} {len cap : Nat} {lo hi : Option Value} {l h : Int} (h1 : match lo with | none => l = 0 | some v => ∃ k, v = .int k l) (h2 : match hi with | none => h = len | some v => ∃ k, v = .int k h) (h0 : 0 ≤ l) (hlh : l ≤ h) (hc : h ≤ cap) :
    (Instr.sliceBounds s len cap lo hi none).run P w = .ok (l.toNat, h.toNat, cap) w := by
  have hb : ∀ (k : IntKind) (n : Int) (y : Nat) (c : BoundsCode), 0 ≤ n → n ≤ y → (Instr.sliceBound (.int k n) y c).run P w = .ok n.toNat w := by
    intro k n y c h1 h2
    simp [Instr.sliceBound, asIntOf, h1, h2]
  have hl' : l ≤ (h.toNat : Int) := by omega
  cases lo <;> cases hi <;> simp only at h1 h2
  · subst h1 h2; simp [Instr.sliceBounds]
  · obtain ⟨k, rfl⟩ := h2; subst h1; cases s <;> simp [Instr.sliceBounds, hb _ _ _ _ hlh hc]
  · obtain ⟨k, rfl⟩ := h1; subst h2; simp [Instr.sliceBounds, hb _ _ _ _ h0 hlh]
  · obtain ⟨k, rfl⟩ := h1; obtain ⟨k', rfl⟩ := h2; cases s <;> simp [Instr.sliceBounds, hb _ _ _ _ h0 hl', hb _ _ _ _ (Int.le_trans h0 hlh) hc]
theorem good_sstr (R : SRel N w0 M0 β0 ds β fr σ F a w) {o : Oper} {x : Operand} {lo hi : Option Operand} {t : TypeId} {v : AV} (ho : o.op = .slice t x lo hi none) (ht : P.underlying t = some .string)
    (hs : aSstr ((cOpd x).get fr) ((lo.map cOpd).map (Opd.get fr)) ((hi.map cOpd).map (Opd.get fr)) = some v) : GoodR P o N β σ a w v := by
  have h := rel_get R x
  unfold aSstr at hs
  split at hs
  · rename_i s g
    rw [g] at h
    obtain ⟨b, e, rfl, hb⟩ := rel_s h
    clear g h
    have hbs : b.data.toList.length = b.size := by simp
    split at hs
    · rename_i l hh e1 e2
      split at hs
      · rename_i hcond
        cases hs
        rw [hbs] at e2
        have r := run_bounds (P := P) (w := w) (s := false) (opt_eval R e1) (opt_eval R e2) hcond.1 hcond.2.1 (show hh ≤ ((b.size : Nat) : Int) by rw [← hbs]; exact hcond.2.2)
        refine ⟨_, by simp [execOp, ho, e, Instr.sliceAt, Instr.slice, run_underlying ht, r]; try rfl, .s _ _ ?_ (by simp; omega)⟩
        rw [Lib.extract_data]
        rw [List.drop_take]
      · cases hs
    · cases hs
  · cases hs
theorem all_len {k : Nat} {rows : List (List AV)} (h : rows.all (fun r => r.length == k) = true) : ∀ r ∈ rows, r.length = k := fun r hr => by simpa using List.all_eq_true.1 h r hr
theorem good_slc (R : SRel N w0 M0 β0 ds β fr σ F a w) {o : Oper} {x : Operand} {lo hi mx : Option Operand} {t e' : TypeId} {k : Nat} {v : AV} (ho : o.op = .slice t x lo hi mx) (ht : P.underlying t = some (.slice e')) (hk : szT P e' = some k) (hk0 : 0 < k)
    (hs : aSlc k ((cOpd x).get fr) ((lo.map cOpd).map (Opd.get fr)) ((hi.map cOpd).map (Opd.get fr)) ((mx.map cOpd).map (Opd.get fr)) = some v) : GoodR P o N β σ a w v := by
  have h := rel_get R x
  unfold szT at hk
  obtain ⟨inf, hinf, hsz⟩ := Option.map_eq_some_iff.1 hk
  have i0 : ∀ (y : Operand), asI ((cOpd y).get fr) = some 0 → ∃ k, a.eval y = .int k 0 := fun y hy => by
    obtain ⟨k, hk⟩ := asI_some hy
    have := rel_get R y
    rw [hk] at this
    exact ⟨k, rel_sc this⟩
  have hem : ∀ (A : Option Addr) (len c : Nat), a.eval x = .slice A len c → optI 0 ((lo.map cOpd).map (Opd.get fr)) = some 0 → (hi = none ∧ len = 0 ∨ ∃ h2, hi = some h2 ∧ asI ((cOpd h2).get fr) = some 0) →
      (mx = none ∧ c = 0 ∨ ∃ m, mx = some m ∧ hi ≠ none ∧ asI ((cOpd m).get fr) = some 0) → ∃ A', (execOp a.eval o).run P w = .ok (.value (.slice A' 0 0)) w := by
    intro A len c hx e1 e2 e3
    have e1' := opt_eval R e1
    rcases e2 with ⟨rfl, rfl⟩ | ⟨h2, rfl, e2⟩
    · rcases e3 with ⟨rfl, rfl⟩ | ⟨m, rfl, e, _⟩
      · cases lo with
        | none => exact ⟨_, by simp [execOp, ho, hx, Instr.sliceAt, Instr.slice, Instr.sliceBounds, run_underlying ht, sizeOf, typeInfo, hinf]; try rfl⟩
        | some l1 =>
          obtain ⟨k1, e1'⟩ := e1'
          exact ⟨_, by simp [execOp, ho, hx, e1', Instr.sliceAt, Instr.slice, Instr.sliceBounds, Instr.sliceBound, asIntOf, run_underlying ht, sizeOf, typeInfo, hinf]; try rfl⟩
      · exact absurd rfl e
    · obtain ⟨k2, e2'⟩ := i0 h2 e2
      rcases e3 with ⟨rfl, rfl⟩ | ⟨m, rfl, e, e3⟩
      · cases lo with
        | none => exact ⟨_, by simp [execOp, ho, hx, e2', Instr.sliceAt, Instr.slice, Instr.sliceBounds, Instr.sliceBound, asIntOf, run_underlying ht, sizeOf, typeInfo, hinf]; try rfl⟩
        | some l1 =>
          obtain ⟨k1, e1'⟩ := e1'
          exact ⟨_, by simp [execOp, ho, hx, e1', e2', Instr.sliceAt, Instr.slice, Instr.sliceBounds, Instr.sliceBound, asIntOf, run_underlying ht, sizeOf, typeInfo, hinf]; try rfl⟩
      · obtain ⟨k3, e3'⟩ := i0 m e3
        cases lo with
        | none => exact ⟨_, by simp [execOp, ho, hx, e2', e3', Instr.sliceAt, Instr.slice, Instr.sliceBounds, Instr.sliceBound, asIntOf, run_underlying ht, sizeOf, typeInfo, hinf]; try rfl⟩
        | some l1 =>
          obtain ⟨k1, e1'⟩ := e1'
          exact ⟨_, by simp [execOp, ho, hx, e1', e2', e3', Instr.sliceAt, Instr.slice, Instr.sliceBounds, Instr.sliceBound, asIntOf, run_underlying ht, sizeOf, typeInfo, hinf]; try rfl⟩
  have hi0 : ∀ d, optI d ((hi.map cOpd).map (Opd.get fr)) = some 0 → hi = none ∧ (d : Int) = 0 ∨ ∃ h2, hi = some h2 ∧ asI ((cOpd h2).get fr) = some 0 := by
    intro d h
    cases hi with
    | none => simp only [Option.map_none, optI, Option.some.injEq] at h; exact .inl ⟨rfl, h⟩
    | some h2 => exact .inr ⟨h2, rfl, h⟩
  have hmx : ∀ m, asI m = some 0 → (mx.map cOpd).map (Opd.get fr) = some m → (hi.map cOpd).map (Opd.get fr) ≠ none → ∃ m, mx = some m ∧ hi ≠ none ∧ asI ((cOpd m).get fr) = some 0 := by
    intro m h1 h2 h3
    cases mx with
    | none => cases h2
    | some m' => cases h2; exact ⟨m', rfl, fun e => by subst e; exact h3 rfl, h1⟩
  unfold aSlc at hs
  generalize (cOpd x).get fr = X at h hs
  generalize hu : a.eval x = u at h
  cases h <;> simp only [reduceCtorEq] at hs
  case em A =>
    split at hs
    · rename_i l h' m e1 e2 e3
      split at hs
      · rename_i hcond
        obtain ⟨rfl, rfl, rfl, hmh⟩ := hcond
        cases hs
        have h3 : mx = none ∧ (0 : Nat) = 0 ∨ ∃ m, mx = some m ∧ hi ≠ none ∧ asI ((cOpd m).get fr) = some 0 := by
          cases mx with
          | none => exact .inl ⟨rfl, rfl⟩
          | some m => exact .inr ⟨m, rfl, fun e => by subst e; simp at hmh, e3⟩
        obtain ⟨A', hrun⟩ := hem _ _ _ hu e1 ((hi0 0 e2).imp (fun h => ⟨h.1, rfl⟩) (fun h => h)) h3
        exact ⟨_, hrun, .em _⟩
      · cases hs
    · cases hs
  case tr A c k' rows us hk1 hc hB hrl hA hcell hr =>
    split at hs
    · rename_i l hh e1 e2 e3
      split at hs
      · rename_i hcond
        obtain ⟨ck, c1, c2, c3⟩ := hcond
        cases hs
        have hmx0 : mx = none := by cases mx with | none => rfl | some m => cases e3
        subst hmx0
        have r := run_bounds (P := P) (w := w) (s := true) (opt_eval R e1) (opt_eval R e2) c1 c2 (show hh ≤ (c : Int) by omega)
        have hlen : ((rows.take hh.toNat).drop l.toNat).length = hh.toNat - l.toNat := by simp; omega
        have hkk : rows ≠ [] → k' = k := by
          intro hne
          cases rows with
          | nil => exact absurd rfl hne
          | cons r0 rows => rw [← hrl r0 (by simp)]; exact all_len ck r0 (by simp)
        refine ⟨.slice (if c = l.toNat then A else A.map (·.add (l.toNat * k))) (hh.toNat - l.toNat) (c - l.toNat), ?_, ?_⟩
        · simp [execOp, ho, hu, Instr.sliceAt, Instr.slice, run_underlying ht, r, sizeOf, typeInfo, hinf, hsz]
        · rw [← hlen]
          refine .tr _ _ k _ (fun i j => us (l.toNat + i) j) hk0 (by rw [hlen]; omega) (by rw [hlen]; omega) (fun z hz => all_len ck z (List.mem_of_mem_take (List.mem_of_mem_drop hz))) ?_ ?_ ?_
          · intro hne
            have hlt : l.toNat < hh.toNat := by
              rcases Nat.lt_or_ge l.toNat hh.toNat with h | h
              · exact h
              · exact absurd (List.eq_nil_of_length_eq_zero (by rw [hlen]; omega)) hne
            obtain ⟨ad, rfl, hm⟩ := hA (by rintro rfl; simp at c3; omega)
            rw [if_neg (by omega)]
            exact ⟨_, rfl, by rwa [add_block]⟩
          · intro ad i j had hi hj
            rw [hlen] at hi
            have hne : rows ≠ [] := by rintro rfl; simp at c3; omega
            obtain ⟨ad', rfl, hm⟩ := hA hne
            obtain rfl := hkk hne
            rw [if_neg (by omega)] at had
            cases had
            rw [add_add, ← Nat.add_assoc, ← Nat.add_mul]
            exact hcell ad' _ j rfl (by omega) hj
          · intro i j z q hz hq
            rw [List.getElem?_drop, List.getElem?_take] at hz
            split at hz
            · exact hr _ j z q hz hq
            · cases hz
      · cases hs
    · rename_i l hh kk m e1 e2 e3
      split at hs
      · rename_i hcond
        obtain ⟨rfl, rfl, rfl, hso⟩ := hcond
        cases hs
        obtain ⟨A', hrun⟩ := hem _ _ _ hu e1 ((hi0 _ e2).imp (fun h => ⟨h.1, by omega⟩) (fun h => h)) (.inr (hmx _ rfl e3 (by intro e; rw [e] at hso; cases hso)))
        exact ⟨_, hrun, .em _⟩
      · cases hs
    · cases hs
  case ow jd k' off len cap b ee nn hl hsh hnn hb =>
    split at hs
    · rename_i l hh e1 e2 e3
      split at hs
      · rename_i hcond
        obtain ⟨rfl, c1, c2, c3, c4⟩ := hcond
        cases hs
        have hmx0 : mx = none := by cases mx with | none => rfl | some m => cases e3
        subst hmx0
        have r := run_bounds (P := P) (w := w) (s := true) (opt_eval R e1) (opt_eval R e2) c1 c2 (show hh ≤ (cap : Int) by omega)
        refine ⟨.slice (if cap = l.toNat then some ⟨b, off * k', none⟩ else some ⟨b, off * k' + l.toNat * k', none⟩) (hh.toNat - l.toNat) (cap - l.toNat), ?_, ?_⟩
        · simp [execOp, ho, hu, Instr.sliceAt, Instr.slice, run_underlying ht, r, sizeOf, typeInfo, hinf, hsz, add_none]
        · have key : (if cap = l.toNat then some (⟨b, off * k', none⟩ : Addr) else some ⟨b, off * k' + l.toNat * k', none⟩) = some ⟨b, (off + l.toNat) * k', none⟩ := by
            split
            · have : l = 0 := by omega
              subst this; simp
            · rw [Nat.add_mul]
          rw [key]
          refine .ow jd k' (off + l.toNat) _ _ b ee nn hb (by omega) hsh (Nat.le_trans ?_ hnn)
          exact Nat.mul_le_mul_right _ (by omega)
      · cases hs
    · rename_i l hh kk m e1 e2 e3
      split at hs
      · rename_i hcond
        obtain ⟨rfl, rfl, rfl, hso⟩ := hcond
        cases hs
        obtain ⟨A', hrun⟩ := hem _ _ _ hu e1 ((hi0 _ e2).imp (fun h => ⟨h.1, by omega⟩) (fun h => h)) (.inr (hmx _ rfl e3 (by intro e; rw [e] at hso; cases hso)))
        exact ⟨_, hrun, .em _⟩
      · cases hs
    · cases hs
  case ow0 A jd k' =>
    split at hs
    · rename_i l hh e1 e2 e3
      split at hs
      · rename_i hcond
        obtain ⟨rfl, c1, c2, c3, c4⟩ := hcond
        cases hs
        have hmx0 : mx = none := by cases mx with | none => rfl | some m => cases e3
        subst hmx0
        obtain rfl : l = 0 := by simp at c3; omega
        obtain rfl : hh = 0 := by simp at c3; omega
        obtain ⟨A', hrun⟩ := hem _ _ _ hu e1 ((hi0 _ e2).imp (fun h => ⟨h.1, by omega⟩) (fun h => h)) (.inl ⟨rfl, rfl⟩)
        exact ⟨_, hrun, .ow0 _ _ _⟩
      · cases hs
    · rename_i l hh kk m e1 e2 e3
      split at hs
      · rename_i hcond
        obtain ⟨rfl, rfl, rfl, hso⟩ := hcond
        cases hs
        obtain ⟨A', hrun⟩ := hem _ _ _ hu e1 ((hi0 _ e2).imp (fun h => ⟨h.1, by omega⟩) (fun h => h)) (.inr (hmx _ rfl e3 (by intro e; rw [e] at hso; cases hso)))
        exact ⟨_, hrun, .em _⟩
      · cases hs
    · cases hs
theorem good_nck (R : SRel N w0 M0 β0 ds β fr σ F a w) {o : Oper} {x : Operand} {v : AV} (ho : o.op = .nilCheck x)
    (hs : aNck ((cOpd x).get fr) = some v) : GoodR P o N β σ a w v := by
  have h := rel_get R x
  unfold aNck at hs
  generalize (cOpd x).get fr = X at h hs
  generalize hu : a.eval x = u at h
  have h' := h
  cases h <;> simp only [reduceCtorEq, Option.some.injEq] at hs <;> subst hs <;> exact ⟨_, by simp [execOp, ho, hu]; try rfl, h'⟩
theorem good_mki (R : SRel N w0 M0 β0 ds β fr σ F a w) {o : Oper} {x : Operand} {t : TypeId} {v : AV} (ho : o.op = .makeInterface t x) {d : TypeDesc} (ht : P.underlying t = some d) (hd : ∀ ms, d ≠ .interface ms)
    (hs : aMki t ((cOpd x).get fr) = some v) : GoodR P o N β σ a w v := by
  have h := rel_get R x
  have hrun : (execOp a.eval o).run P w = .ok (.value (.iface t (a.eval x))) w := by
    cases d <;> first | exact absurd rfl (hd _) | simp [execOp, ho, Instr.makeInterface, run_underlying ht]
  unfold aMki at hs
  split at hs
  · rename_i e
    rw [e] at h
    have e := rel_sc h
    cases hs
    exact ⟨_, by rw [hrun, e], .sc _⟩
  · rename_i k p k' q e
    rw [e] at h
    generalize hu : a.eval x = u at h hrun
    cases h with
    | ag vs l hn hr =>
      cases hs
      have hvs : vs = #[.int k p, .int k' q] := by
        have h0 : vs.size = 2 := hn
        have e0 := rel_sc (hr 0 vs[0] _ (by simp [h0]) rfl)
        have e1 := rel_sc (hr 1 vs[1] _ (by simp [h0]) rfl)
        apply Array.ext (by simpa using h0)
        intro i h1 h2
        match i, h1 with
        | 0, _ => exact e0
        | 1, _ => exact e1
        | i + 2, h1 => omega
      subst hvs
      exact ⟨_, hrun, .sc _⟩
  · cases hs
theorem good_tas (R : SRel N w0 M0 β0 ds β fr σ F a w) {o : Oper} {x : Operand} {xt t : TypeId} {z : Value} {v : AV} {i : TypeInfo} {d : TypeDesc} (ho : o.op = .typeAssert x xt t true) (ht : P.underlying t = some d) (hd : ∀ ms, d ≠ .interface ms) (hi : P.info? t = some i) (hz : i.zero = some z)
    (hs : aTas t z ((cOpd x).get fr) = some v) : GoodR P o N β σ a w v := by
  have h := rel_get R x
  have two : ∀ (u1 u2 : Value) (a1 a2 : AV), Rel (live N β σ) w β u1 a1 → Rel (live N β σ) w β u2 a2 → Rel (live N β σ) w β (.tuple #[u1, u2]) (.tp [a1, a2]) := by
    intro u1 u2 a1 a2 h1 h2
    refine .tp _ _ rfl (fun i u z hu hz => ?_)
    match i with
    | 0 => simp at hu hz; subst hu hz; exact h1
    | 1 => simp at hu hz; subst hu hz; exact h2
    | i + 2 => simp at hu
  unfold aTas at hs
  split at hs
  · rename_i t' u e
    rw [e] at h
    have e := rel_sc h
    split at hs
    · rename_i htt
      subst htt
      cases hs
      refine ⟨.tuple #[u, .bool true], ?_, two _ _ _ _ (rel_ofV _ _ _ _) (.sc _)⟩
      cases d <;> first | exact absurd rfl (hd _) | simp [execOp, ho, e, Instr.typeAssert, run_underlying ht]
    · rename_i htt
      cases hs
      refine ⟨.tuple #[z, .bool false], ?_, two _ _ _ _ (rel_ofV _ _ _ _) (.sc _)⟩
      cases d <;> first | exact absurd rfl (hd _) | simp [execOp, ho, e, Instr.typeAssert, run_underlying ht, htt, zeroValue, typeInfo, hi, hz]
  · rename_i e
    rw [e] at h
    have e := rel_sc h
    cases hs
    refine ⟨.tuple #[z, .bool false], ?_, two _ _ _ _ (rel_ofV _ _ _ _) (.sc _)⟩
    cases d <;> first | exact absurd rfl (hd _) | simp [execOp, ho, e, Instr.typeAssert, run_underlying ht, zeroValue, typeInfo, hi, hz]
  · cases hs
end
end Go.Proofs.YtodoejfkjimeaaaGreatDoor.Am
