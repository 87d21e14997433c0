/- The words that all walks of this seat share: which block may have changed. -/
import Derived.WalkKit
import Derived.WalkLawsBesides
import Derived.WalkSpells
import Derived.KernelRfl
import Derived.RowKit3
import Derived.Deep.LoopGhost
import Derived.Deep.QuietTactic
import Derived.BigQuiet
import Derived.Deep.DeepFit
import Derived.Deep.DeepCutAuto
import Derived.Lib.Hide
import Derived.IntWalk
import Derived.Lib.Strings
import Derived.Lib.IndexBytes
import Derived.ScopeJumps
import Derived.WalkMore
import Derived.Lib.ConvBytes
import Derived.Laws.IdiomStrings
set_option linter.unusedSimpArgs false
set_option linter.unusedVariables false
namespace Go.Proofs.Ytlhnncmflnjinaa
open Go.RowKit

/-- only block g may have turned -/
structure Only (g : Nat) (w w' : World) : Prop where
  os : w'.os = w.os
  tape : w'.tape = w.tape
  output : w'.output = w.output
  size : w.heap.size ≤ w'.heap.size
  block : ∀ k, k < w.heap.size → k ≠ g → w'.heap[k]? = w.heap[k]?
theorem Only.refl (g : Nat) (w : World) : Only g w w := ⟨rfl, rfl, rfl, Nat.le_refl _, fun _ _ _ => rfl⟩
theorem Only.trans {g : Nat} {a b c : World} (h : Only g a b) (k : Only g b c) : Only g a c :=
  ⟨k.os.trans h.os, k.tape.trans h.tape, k.output.trans h.output, Nat.le_trans h.size k.size, fun i hi hg => (k.block i (Nat.lt_of_lt_of_le hi h.size) hg).trans (h.block i hi hg)⟩
theorem Only.drewN {g : Nat} {a w : World} (h : Only g a w) (n : Nat) : Only g a (w.drewN n) := ⟨h.os, h.tape, h.output, h.size, h.block⟩
theorem Only.drew1 {g : Nat} {a w : World} (h : Only g a w) : Only g a w.drew := ⟨h.os, h.tape, h.output, h.size, h.block⟩
theorem Only.setCell {g : Nat} {a w : World} (h : Only g a w) (o : Nat) (u : Value) : Only g a (w.setCell ⟨g, o, none⟩ u) :=
  h.trans ⟨rfl, rfl, rfl, by simp [World.setCell], fun k _ hk => Below.heap_setCell _ _ _ _ hk⟩
theorem Only.alloc {g : Nat} {a w : World} (h : Only g a w) (o : Obj) : Only g a (w.alloc o) :=
  h.trans ⟨rfl, rfl, rfl, by simp, fun k hk _ => Below.heap_alloc _ _ _ hk⟩
theorem Only.setNew {g : Nat} {a w : World} (h : Only g a w) {B : Nat} (hB : a.heap.size ≤ B) (o : Nat) (u : Value) : Only g a (w.setCell ⟨B, o, none⟩ u) :=
  ⟨h.os, h.tape, h.output, by simpa [World.setCell] using h.size, fun k hk hg => (Below.heap_setCell _ _ _ _ (by simp only; omega)).trans (h.block k hk hg)⟩
theorem Only.of_below {g : Nat} {a w w' : World} (h : Only g a w) (hb : Below w.heap.size w w') : Only g a w' :=
  h.trans ⟨hb.os, hb.tape, hb.output, hb.size, fun k hk _ => hb.block k hk⟩
theorem Only.then_below {g : Nat} {a b c : World} (h : Only g a b) (k : Below a.heap.size b c) : Only g a c :=
  ⟨k.os.trans h.os, k.tape.trans h.tape, k.output.trans h.output, Nat.le_trans h.size k.size, fun i hi hg => (k.block i hi).trans (h.block i hi hg)⟩
/-- a block of the call's own has turned: nothing below. -/
theorem Only.below {g : Nat} {a w : World} (h : Only g a w) {B : Nat} (hB : B ≤ a.heap.size) (hg : B ≤ g) : Below B a w :=
  ⟨h.os, h.tape, h.output, h.size, fun k hk => h.block k (by omega) (by omega)⟩
theorem below_drewN' {B : Nat} {a w : World} (h : Below B a w) (n : Nat) : Below B a (w.drewN n) := ⟨h.os, h.tape, h.output, h.size, h.block⟩
theorem below_only {B : Nat} {a w w' : World} {g : Nat} (h : Below B a w) (k : Only g w w') (hg : B ≤ g) (hB : B ≤ w.heap.size) : Below B a w' :=
  h.trans ⟨k.os, k.tape, k.output, k.size, fun i hi => k.block i (by omega) (by omega)⟩
/-- a scope that begins with its label, to which the run jumps back: a round from the label on, each time with less to do -/
theorem wp_scope_label {P : Program} {a : Act} {w : World} {Q : Exit → Act → World → Prop} {l : Nat} {c : Code} (J : Nat → Act → World → Prop) (n₀ : Nat) (h0 : J n₀ a w)
    (pass : ∀ n a w, J n a w → c.wp P (Exit.jump l (fun a' w' => ∃ n', n' < n ∧ J n' a' w') Q) a w) : (Code.scope (.seq (.label l) c)).wp P Q a w := by
  refine wp_scope_jumps l (fun a w => ∃ n, J n a w) (fun a w => leastOf (fun n => J n a w)) (rest := .seq .skip c) (by simp [findLabel]) ?_ ?_
  · refine wp_seq (wp_label ?_)
    show c.wp P (Exit.jump l (fun a w => ∃ n, J n a w) Q) a w
    refine wp_mono (pass n₀ a w h0) ?_
    intro e a' w' hq
    cases e <;> first | exact hq | exact ⟨hq.1, let ⟨n', _, h⟩ := hq.2; ⟨n', h⟩⟩
  · intro a w hJ
    refine wp_seq (wp_skip ?_)
    show c.wp P (Exit.jump l _ Q) a w
    refine wp_mono (pass _ a w (leastOf_spec hJ).1) ?_
    intro e a' w' hq
    cases e <;> first | exact hq | exact ⟨hq.1, let ⟨n', hlt, h⟩ := hq.2; ⟨⟨n', h⟩, Nat.lt_of_le_of_lt ((leastOf_spec ⟨n', h⟩).2 n' h) hlt⟩⟩
/-- block g holds the bytes l, ready to be written -/
def Row8 (w : World) (g : Nat) (l : List UInt8) : Prop :=
  ∃ (cells : Array Value) (e : TypeId) (fz : Nat × Nat), w.heap[g]? = some (.cells cells e fz) ∧ (∀ j (h : j < l.length), cells[j]? = some (.int .u8 (l[j].toNat))) ∧ l.length ≤ fz.1
theorem Row8.cell {w : World} {g : Nat} {l : List UInt8} (h : Row8 w g l) {j : Nat} {b : UInt8} (hj : l[j]? = some b) : w.cell? ⟨g, j, none⟩ = some (.int .u8 b.toNat) := by
  obtain ⟨cells, e, fz, h1, h2, _⟩ := h
  obtain ⟨hj', rfl⟩ := List.getElem?_eq_some_iff.1 hj
  simp [World.cell?, h1, h2 j hj']
theorem Row8.free {w : World} {g : Nat} {l : List UInt8} (h : Row8 w g l) {j : Nat} (hj : j < l.length) : w.frozen? ⟨g, j, none⟩ = false := by
  obtain ⟨cells, e, fz, h1, _, h3⟩ := h
  simp [World.frozen?, h1]
  omega
theorem Row8.set {w : World} {g : Nat} {l : List UInt8} (h : Row8 w g l) (j : Nat) (hj : j < l.length) (b : UInt8) (n : Int) (hn : n = b.toNat) : Row8 (w.setCell ⟨g, j, none⟩ (.int .u8 n)) g (l.set j b) := by
  subst hn
  obtain ⟨cells, e, fz, h1, h2, h3⟩ := h
  refine ⟨cells.setIfInBounds j (.int .u8 b.toNat), e, fz, ?_, ?_, by simpa using h3⟩
  · simp [World.setCell, Array.getElem?_modify, h1]
  · intro k hk
    have hk' : k < l.length := by simpa using hk
    have hs := h2 k hk'
    have hlt : j < cells.size := (Array.getElem?_eq_some_iff.1 (h2 j hj)).1
    by_cases e : j = k
    · subst e; simp [hlt]
    · simp [e, hs]
theorem Row8.made (w : World) (e : TypeId) (s : ByteArray) : Row8 (Lib.bytesWorld w e s) w.heap.size s.data.toList := by
  refine ⟨_, _, _, Lib.bytesWorld_at_new w e s, ?_, ?_⟩
  · intro j hj
    have hj' : j < s.size := by simpa using hj
    simp [Lib.bytesCells, Array.getElem?_append, hj']
  · simp [Lib.bytesCells]
theorem below_bytes {B : Nat} {w W : World} (h : Below B w W) (hB : B ≤ W.heap.size) (e : TypeId) (s : ByteArray) : Below B w (Lib.bytesWorld W e s) :=
  h.trans ⟨rfl, rfl, rfl, by rw [Lib.bytesWorld_size]; omega, fun i hi => Lib.bytesWorld_at_old W e s i (by omega)⟩
theorem add_plain' (g j : Nat) : (⟨g, 0, none⟩ : Addr).add j = ⟨g, j, none⟩ := by unfold Addr.add; split <;> simp_all
/-- more blocks, and some draws -/
structure More where
  blocks : Array Obj
  drawn : Nat
instance : Inhabited More := ⟨⟨#[], 0⟩⟩
/-- w with more blocks behind it, and some draws -/
def plusW (w : World) (z : More) : World := { w with heap := w.heap ++ z.blocks, drawn := z.drawn }
theorem plus_below (w : World) (z : More) : Below w.heap.size w (plusW w z) :=
  ⟨rfl, rfl, rfl, by simp [plusW], fun k hk => by simp [plusW, Array.getElem?_append, hk]⟩
theorem plus_of_below {w w' : World} (h : Below w.heap.size w w') : ∃ z, w' = plusW w z := by
  refine ⟨⟨w'.heap.extract w.heap.size w'.heap.size, w'.drawn⟩, ?_⟩
  obtain ⟨heap, tape, drawn, os, output⟩ := w'
  obtain ⟨h1, h2, h3, h4, h5⟩ := h
  dsimp only at h1 h2 h3 h4 h5
  subst h1 h2 h3
  unfold plusW
  congr 1
  apply Array.ext_getElem?
  intro i
  rw [Array.getElem?_append]
  split
  · rename_i hi; exact h5 i hi
  · rename_i hi
    rw [Array.getElem?_extract]
    split
    · rw [show w.heap.size + (i - w.heap.size) = i from by omega]
    · rename_i h2
      rw [Array.getElem?_eq_none (by simp only at h2; omega)]
theorem plus_cell {w : World} {a : Addr} {v : Value} (h : w.cell? a = some v) (z : More) : (plusW w z).cell? a = some v :=
  ((plus_below w z).cell (World.block_lt_of_cell? w a h)).trans h
theorem plus_calls {P : Program} {f : FuncId} {args : Array Value} {w : World} {v : Value} (h : ∀ w, Calls P f args w fun e w' => e = .returned v ∧ Below w.heap.size w w') (z : More) :
    Calls P f args (plusW w z) fun e w'' => e = .returned v ∧ ∃ z', w'' = plusW w z' :=
  (h _).mono fun _ _ ⟨he, hb⟩ => ⟨he, plus_of_below ((plus_below w z).trans (hb.mono (plus_below w z).size))⟩
theorem plus_calls_same {P : Program} {f : FuncId} {args : Array Value} {w : World} {v : Value} (h : ∀ w, Calls P f args w fun e w' => e = .returned v ∧ w' = w) (z : More) :
    Calls P f args (plusW w z) fun e w'' => e = .returned v ∧ ∃ z', w'' = plusW w z' :=
  (h _).mono fun _ _ ⟨he, hb⟩ => ⟨he, z, hb⟩
/-- a region that draws its order, whose operations only read and whose callees only read and make memory: one walk serves every order -/
theorem wp_region_plus {P : Program} {id : Nat} {Q : Exit → Act → World → Prop} {a : Act} {w : World} {l : List Oper} (hm : P.follows .mixedOrders = true) (hB : Region.lexB .any l.toArray = true)
    (h : wpQuiet P l.toArray (fun w' => ∃ z, w' = plusW w z) (fun a' => ∀ w', (∃ z, w' = plusW w z) → Q .normal a' w') l a) : (Code.region id l.toArray true).wp P Q a w :=
  wp_region_quiet (C := fun w' => ∃ z, w' = plusW w z) hm hB ⟨⟨#[], w.drawn + 1⟩, by simp [plusW]⟩ (by simpa using h)
theorem size_mk (l : List UInt8) : (⟨l.toArray⟩ : ByteArray).size = l.length := by show l.toArray.size = _; simp
theorem bytes_ext {a b : ByteArray} (h : a.data.toList = b.data.toList) : a = b := by
  cases a; cases b; simp at h; rw [ByteArray.mk.injEq]; exact h
theorem data_append' (a b : ByteArray) : (a ++ b).data.toList = a.data.toList ++ b.data.toList := by
  rw [show a ++ b = a.append b from rfl]
  simp
theorem row_below {W wr : World} {g : Nat} (hb : Below W.heap.size W wr) (hg : g < W.heap.size) {o : Nat} {v : Value} (h : W.cell? ⟨g, o, none⟩ = some v) : wr.cell? ⟨g, o, none⟩ = some v :=
  (hb.cell (p := ⟨g, o, none⟩) hg).trans h
theorem max2_int' (k k' : IntKind) (x y : Int) : Builtin.max2 (.int k x) (.int k' y) = pure (.int k (if x < y then y else x)) := by simp only [Builtin.max2, gt_iff_lt]
theorem min2_int' (k k' : IntKind) (x y : Int) : Builtin.min2 (.int k x) (.int k' y) = pure (.int k (if y < x then y else x)) := by simp only [Builtin.min2]
theorem max_two' (ats : Array TypeId) (ty : TypeId) (a b : Value) : Builtin.max_ ats ty #[a, b] = (Builtin.max2 a b >>= fun s => pure s) := by simp only [Builtin.max_, List.foldlM_cons, List.foldlM_nil]
theorem min_two' (ats : Array TypeId) (ty : TypeId) (a b : Value) : Builtin.min_ ats ty #[a, b] = (Builtin.min2 a b >>= fun s => pure s) := by simp only [Builtin.min_, List.foldlM_cons, List.foldlM_nil]
theorem ret_congr {a b : Value} (h : a = b) : Ending.returned a = .returned b := by rw [h]
end Go.Proofs.Ytlhnncmflnjinaa
