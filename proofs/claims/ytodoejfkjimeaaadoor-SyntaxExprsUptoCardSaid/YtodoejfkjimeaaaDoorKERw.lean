/- Packed by a program of this repo: Rw. -/
import Derived.Test.YtodoejfkjimeaaaDoorRows
import Derived.WalkKit
import Derived.ProofKit
import Derived.OpenShut
import Derived.ShutString
import Derived.Deep.Slices
import Derived.Carry
import Derived.JoinedCond
import Derived.HandedShaped
import Derived.Test.YtodoejfkjimeaaaDoorKERg
set_option linter.unusedSimpArgs false
set_option linter.unusedVariables false
set_option maxRecDepth 100000
namespace Go.Proofs.YtodoejfkjimeaaaDoor
open Go Go.RowKit Am Go.ChangeShapes Go.WideShapes Go.ChangeAt

abbrev noB : Nat → Prop := fun _ => False
theorem bulk_pos {H : Type} (d : DataW H) : 1 ≤ Rows.uptoBulk d := by
  cases d with
  | lit l => cases l <;> simp [Rows.uptoBulk]
  | nil => simp [Rows.uptoBulk]
  | ptr d => simp [Rows.uptoBulk]
  | slice elems spare => simp [Rows.uptoBulk]
  | agg parts => simp [Rows.uptoBulk]
  | iface t d => simp [Rows.uptoBulk]
  | map entries => simp [Rows.uptoBulk]
  | held h => simp [Rows.uptoBulk]
theorem bulk_part {H : Type} {d : DataW H} {l : List (DataW H)} (h : d ∈ l) : Rows.uptoBulk d ≤ Rows.uptoBulkAll l := by
  induction l with
  | nil => cases h
  | cons x r ih =>
    simp only [Rows.uptoBulkAll]
    cases List.mem_cons.1 h with
    | inl e => subst e; omega
    | inr e => have := ih e; omega
theorem bulk_length {H : Type} (l : List (DataW H)) : l.length ≤ Rows.uptoBulkAll l := by
  induction l with
  | nil => simp [Rows.uptoBulkAll]
  | cons x r ih => have := bulk_pos x; simp only [Rows.uptoBulkAll, List.length_cons]; omega
/-- what is read of a type's cells is encoded by f, and is B -/
def Opens {α : Type} (t : TypeId) (k : Nat) (f : α → List AV) (B : α → Prop) (n : Nat) : Prop :=
  ∀ {H : Type} (enc : TypeId × Value → H) (W : World) (cs : List Value) (x : DataW H × List MemPlace), DataW.trod enc Tryd.prog W 0 (fun _ => true) true n t cs = some x → Rows.uptoBulk x.1 ≤ 1048576 →
    ∃ a, B a ∧ cs.length = k ∧ (f a).length = k ∧ ∀ (i : Nat) (u : Value) (v : AV), cs[i]? = some u → (f a)[i]? = some v → Rel noB W nob u v
theorem one_rel {W : World} {c : Value} {z : AV} (h : Rel noB W nob c z) : ∀ (i : Nat) (u : Value) (v : AV), [c][i]? = some u → [z][i]? = some v → Rel noB W nob u v := by
  intro i u v h1 h2
  cases i with
  | zero => cases h1; cases h2; exact h
  | succ i => cases h1
theorem int_range {m : Int} (h : (Lit.int .i64 m).wf = true) : -9223372036854775808 ≤ m ∧ m ≤ 9223372036854775807 := by
  simp only [Lit.wf, Bool.and_eq_true, decide_eq_true_eq] at h
  have h1 : IntKind.i64.min = -9223372036854775808 := by kernel_rfl
  have h2 : IntKind.i64.max = 9223372036854775807 := by kernel_rfl
  rw [h1, h2] at h; exact h
theorem opens_int (n : Nat) : Opens 3 1 (fun m : Int => [.sc (.int .i64 m)]) (fun m => -9223372036854775808 ≤ m ∧ m ≤ 9223372036854775807) n := by
  intro H enc W cs x h hb
  obtain ⟨m, rfl, rfl, hw⟩ := DataW.trod_int Tryd.underlying3 h
  exact ⟨m, int_range hw, rfl, rfl, one_rel (.sc _)⟩
theorem opens_str (n : Nat) : Opens 9 1 (fun m : Tx => [.s m]) (fun m => m.length ≤ 1048576) n := by
  intro H enc W cs x h hb
  obtain ⟨m, rfl, rfl, _⟩ := DataW.trod_string Tryd.underlying9 h
  simp only [Rows.uptoBulk] at hb
  have hl : m.data.toList.length ≤ 1048576 := by omega
  exact ⟨m.data.toList, hl, rfl, rfl, one_rel (.s m _ rfl (by omega))⟩
theorem opens_slice {α : Type} [Inhabited α] {t e : TypeId} {k : Nat} {f : α → List AV} {B : α → Prop} (ht : Tryd.prog.underlying t = some (.slice e)) (hc : Tryd.prog.cellsOf e = k) (hk : 0 < k) (n : Nat) (ho : ∀ m, m < n → Opens e k f B m) :
    Opens t 1 (fun l : List α => [.tr (l.map f)]) (fun l => l.length ≤ 1048576 ∧ ∀ a ∈ l, B a) n := by
  intro H enc W cs x h hb
  rcases DataW.trod_slice ht h with ⟨rfl, rfl⟩ | ⟨ad, len, cap, elems, rest, m, rfl, rfl, rfl, hbase, hl, hm, hlen, hel, _⟩
  · refine ⟨[], ⟨by simp, fun a ha => by cases ha⟩, rfl, rfl, one_rel ?_⟩
    exact .tr none 0 1 [] (fun _ _ => undef) (by omega) (by simp) (by simp) (fun r hr => by cases hr) (fun h => absurd rfl h) (fun ad i j h => by cases h) (fun i j r a h => by simp at h)
  · simp only [Rows.uptoBulk] at hb
    have hbe : Rows.uptoBulkAll (elems.map (·.1)) ≤ 1048576 := by omega
    have hle : elems.length ≤ 1048576 := by
      have := bulk_length (elems.map (·.1))
      rw [List.length_map] at this; omega
    have hx : ∀ i, i < len → ∃ q : List Value × α, W.cells? 0 (ad.add (i * k)) k = some q.1 ∧ B q.2 ∧ q.1.length = k ∧ (f q.2).length = k ∧ ∀ (j : Nat) (u : Value) (v : AV), q.1[j]? = some u → (f q.2)[j]? = some v → Rel noB W nob u v := by
      intro i hi
      have h1 := hel i hi
      rw [hc, List.getElem?_eq_getElem (by omega)] at h1
      obtain ⟨cs', h2, h3⟩ := Option.bind_eq_some_iff.1 h1
      obtain ⟨a, g1, g2, g3, g4⟩ := ho m (by omega) enc W cs' _ h3 (Nat.le_trans (bulk_part (List.mem_map.2 ⟨_, List.getElem_mem _, rfl⟩)) hbe)
      exact ⟨(cs', a), h2, g1, g2, g3, g4⟩
    obtain ⟨q, hq⟩ := _root_.Go.Deep.choose_lt hx
    have hrl : (((List.range len).map fun i => (q i).2).map f).length = len := by simp
    have hrow : ∀ i, i < len → (((List.range len).map fun i => (q i).2).map f)[i]? = some (f (q i).2) := by
      intro i hi
      simp [hi]
    refine ⟨(List.range len).map fun i => (q i).2, ⟨by simp; omega, fun a ha => ?_⟩, rfl, rfl, one_rel ?_⟩
    · obtain ⟨i, hi, rfl⟩ := List.mem_map.1 ha
      exact (hq i (List.mem_range.1 hi)).2.1
    · have := Rel.tr (M := noB) (w := W) (β := nob) (some ad) cap k (((List.range len).map fun i => (q i).2).map f) (fun i j => ((q i).1)[j]?.getD undef) hk (by rw [hrl]; exact hl) (by rw [hrl]; omega)
        (fun r hr => by
          obtain ⟨a, ha, rfl⟩ := List.mem_map.1 hr
          obtain ⟨i, hi, rfl⟩ := List.mem_map.1 ha
          exact (hq i (List.mem_range.1 hi)).2.2.2.1)
        (fun _ => ⟨ad, rfl, fun h => h⟩)
        (fun ad' i j he hi hj => by
          cases he
          rw [hrl] at hi
          obtain ⟨c1, c2, c3, _⟩ := hq i hi
          obtain ⟨_, _, d3⟩ := World.cells?_some c1
          have := d3 j hj
          rw [show (ad.add (i * k + j)) = (ad.add (i * k)).add j by rw [Addr.add_add]]
          rw [this, List.getElem?_eq_getElem (by omega)]; rfl)
        (fun i j r a h1 h2 => by
          have hi : i < len := by have := (List.getElem?_eq_some_iff.1 h1).1; rw [hrl] at this; exact this
          rw [hrow i hi] at h1
          cases h1
          obtain ⟨_, _, c3, c4, c5⟩ := hq i hi
          have hj : j < k := by have := (List.getElem?_eq_some_iff.1 h2).1; omega
          refine c5 j _ a ?_ h2
          rw [List.getElem?_eq_getElem (by omega)]; rfl)
      rw [hrl] at this
      exact this
def encV (v : Vl) : List AV := [.sc (.int .i64 v.kind), .sc (.int .i64 v.n), .s v.text]
instance : Inhabited Vl := ⟨⟨0, 0, []⟩⟩
instance : Inhabited Cl := ⟨⟨[], 0, false⟩⟩
instance : Inhabited Ix := ⟨⟨[], 0⟩⟩
instance : Inhabited Tb := ⟨⟨[], [], 0, []⟩⟩
instance : Inhabited Ep := ⟨.zero⟩
theorem opens_Value (n : Nat) : Opens 23 3 encV (fun v => v.text.length ≤ 1048576 ∧ rng v.n) n := by
  intro H enc W cs x h hb
  obtain ⟨xs, m, rfl, rfl, hl, hlen, hf⟩ := DataW.trod_struct Tryd.underlying23 h
  have hc : Tryd.prog.cellsOf 23 = 3 := by kernel_rfl
  rw [hc] at hl
  simp only [Rows.uptoBulk] at hb
  match cs, hl, xs, hlen, hf, hb with
  | [c0, c1, c2], _, [y0, y1, y2], _, hf, hb =>
    simp only [List.map_cons, List.map_nil, Rows.uptoBulkAll] at hb
    have z0 : Tryd.prog.cellsOf 3 = 1 := by kernel_rfl
    have f0 : DataW.trod enc Tryd.prog W 0 (fun _ => true) true m 3 [c0] = some y0 := by have this : DataW.trod enc Tryd.prog W 0 (fun _ => true) true m 3 (([c0, c1, c2].drop 0).take (Tryd.prog.cellsOf 3)) = some y0 := hf 0 _ rfl; rw [z0] at this; exact this
    obtain ⟨a0, b0, _, _, r0⟩ := opens_int m enc W _ _ f0 (by omega)
    have z1 : Tryd.prog.cellsOf 3 = 1 := by kernel_rfl
    have f1 : DataW.trod enc Tryd.prog W 0 (fun _ => true) true m 3 [c1] = some y1 := by have this : DataW.trod enc Tryd.prog W 0 (fun _ => true) true m 3 (([c0, c1, c2].drop 1).take (Tryd.prog.cellsOf 3)) = some y1 := hf 1 _ rfl; rw [z1] at this; exact this
    obtain ⟨a1, b1, _, _, r1⟩ := opens_int m enc W _ _ f1 (by omega)
    have z2 : Tryd.prog.cellsOf 9 = 1 := by kernel_rfl
    have f2 : DataW.trod enc Tryd.prog W 0 (fun _ => true) true m 9 [c2] = some y2 := by have this : DataW.trod enc Tryd.prog W 0 (fun _ => true) true m 9 (([c0, c1, c2].drop 2).take (Tryd.prog.cellsOf 9)) = some y2 := hf 2 _ rfl; rw [z2] at this; exact this
    obtain ⟨a2, b2, _, _, r2⟩ := opens_str m enc W _ _ f2 (by omega)
    refine ⟨⟨a0, a1, a2⟩, ⟨b2, b1⟩, rfl, rfl, ?_⟩
    intro i u v h1 h2
    match i, h1, h2 with
    | 0, h1, h2 => exact r0 0 u v h1 h2
    | 1, h1, h2 => exact r1 0 u v h1 h2
    | 2, h1, h2 => exact r2 0 u v h1 h2
    | i + 3, h1, h2 => cases h1
/-- a table that was handed in -/
structure TBd0 (t : Tb) : Prop where
  name : t.name.length ≤ 1048576
  col : t.columns.length ≤ 1048576 ∧ ∀ c ∈ t.columns, c.name.length ≤ 1048576
  ind : t.indexes.length ≤ 1048576 ∧ ∀ c ∈ t.indexes, c.name.length ≤ 1048576
def BdRg (e : Ep) : Prop := Bd e ∧ Rg e
theorem cols_E : Tryd.prog.cellsOf 26 = 7 := by kernel_rfl
theorem opens_Expr_ (n : Nat) (ih : ∀ q, q < n → Opens 26 7 encE BdRg q) : Opens 26 7 encE BdRg n := by
  intro H enc W cs x h hb
  obtain ⟨xs, m, rfl, rfl, hl, hlen, hf⟩ := DataW.trod_struct Tryd.underlying26 h
  have hc : Tryd.prog.cellsOf 26 = 7 := by kernel_rfl
  rw [hc] at hl
  simp only [Rows.uptoBulk] at hb
  match cs, hl, xs, hlen, hf, hb with
  | [c0, c1, c2, c3, c4, c5, c6], _, [y0, y1, y2, y3, y4], _, hf, hb =>
    simp only [List.map_cons, List.map_nil, Rows.uptoBulkAll] at hb
    have z0 : Tryd.prog.cellsOf 3 = 1 := by kernel_rfl
    have f0 : DataW.trod enc Tryd.prog W 0 (fun _ => true) true m 3 [c0] = some y0 := by have this : DataW.trod enc Tryd.prog W 0 (fun _ => true) true m 3 (([c0, c1, c2, c3, c4, c5, c6].drop 0).take (Tryd.prog.cellsOf 3)) = some y0 := hf 0 _ rfl; rw [z0] at this; exact this
    obtain ⟨a0, b0, _, _, r0⟩ := opens_int m enc W _ _ f0 (by omega)
    have z1 : Tryd.prog.cellsOf 23 = 3 := by kernel_rfl
    have f1 : DataW.trod enc Tryd.prog W 0 (fun _ => true) true m 23 [c1, c2, c3] = some y1 := by have this : DataW.trod enc Tryd.prog W 0 (fun _ => true) true m 23 (([c0, c1, c2, c3, c4, c5, c6].drop 1).take (Tryd.prog.cellsOf 23)) = some y1 := hf 1 _ rfl; rw [z1] at this; exact this
    obtain ⟨a1, b1, _, _, r1⟩ := opens_Value m enc W _ _ f1 (by omega)
    have z2 : Tryd.prog.cellsOf 9 = 1 := by kernel_rfl
    have f2 : DataW.trod enc Tryd.prog W 0 (fun _ => true) true m 9 [c4] = some y2 := by have this : DataW.trod enc Tryd.prog W 0 (fun _ => true) true m 9 (([c0, c1, c2, c3, c4, c5, c6].drop 4).take (Tryd.prog.cellsOf 9)) = some y2 := hf 2 _ rfl; rw [z2] at this; exact this
    obtain ⟨a2, b2, _, _, r2⟩ := opens_str m enc W _ _ f2 (by omega)
    have z3 : Tryd.prog.cellsOf 9 = 1 := by kernel_rfl
    have f3 : DataW.trod enc Tryd.prog W 0 (fun _ => true) true m 9 [c5] = some y3 := by have this : DataW.trod enc Tryd.prog W 0 (fun _ => true) true m 9 (([c0, c1, c2, c3, c4, c5, c6].drop 5).take (Tryd.prog.cellsOf 9)) = some y3 := hf 3 _ rfl; rw [z3] at this; exact this
    obtain ⟨a3, b3, _, _, r3⟩ := opens_str m enc W _ _ f3 (by omega)
    have z4 : Tryd.prog.cellsOf 24 = 1 := by kernel_rfl
    have f4 : DataW.trod enc Tryd.prog W 0 (fun _ => true) true m 24 [c6] = some y4 := by have this : DataW.trod enc Tryd.prog W 0 (fun _ => true) true m 24 (([c0, c1, c2, c3, c4, c5, c6].drop 6).take (Tryd.prog.cellsOf 24)) = some y4 := hf 4 _ rfl; rw [z4] at this; exact this
    obtain ⟨a4, b4, _, _, r4⟩ := opens_slice Tryd.underlying24 cols_E (by omega) m (fun q hq => ih q (by omega)) enc W _ _ f4 (by omega)
    refine ⟨.mk a0 a1.kind a1.n a1.text a2 a3 a4, ⟨.mk _ _ _ _ _ _ _ b1.1 b2 b3 b4.1 (fun a ha => (b4.2 a ha).1), .mk _ b1.2 (fun a ha => (b4.2 a ha).2)⟩, rfl, encE_len _, ?_⟩
    rw [encE_eq]
    intro i u v h1 h2
    match i, h1, h2 with
    | 0, h1, h2 => exact r0 0 u v h1 h2
    | 1, h1, h2 => exact r1 0 u v h1 h2
    | 2, h1, h2 => exact r1 1 u v h1 h2
    | 3, h1, h2 => exact r1 2 u v h1 h2
    | 4, h1, h2 => exact r2 0 u v h1 h2
    | 5, h1, h2 => exact r3 0 u v h1 h2
    | 6, h1, h2 => exact r4 0 u v h1 h2
    | i + 7, h1, h2 => cases h1
theorem opens_Expr (n : Nat) : Opens 26 7 encE BdRg n := by
  induction n using Nat.strongRecOn with
  | _ n ih => exact opens_Expr_ n ih
end Go.Proofs.YtodoejfkjimeaaaDoor
