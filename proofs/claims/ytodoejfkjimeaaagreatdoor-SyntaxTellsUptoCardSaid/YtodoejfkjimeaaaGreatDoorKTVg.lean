/- Packed by a program of this repo: Vg Vh Vi Uo Kw. -/
import Derived.Test.YtodoejfkjimeaaaGreatDoorKTUe
import Derived.Test.YtodoejfkjimeaaaGreatDoorKTCx
import Derived.Test.YtodoejfkjimeaaaGreatDoorKTQa
import Derived.Test.YtodoejfkjimeaaaGreatDoorKTLxPlain
import Derived.Lib.IndexAny
set_option linter.unusedSimpArgs false
set_option linter.unusedVariables false
set_option maxRecDepth 100000
namespace Go.Proofs.YtodoejfkjimeaaaGreatDoor
open Go Go.RowKit Am
def Stop (p : UInt8 → Bool) (s : Tx) : Prop := ∀ c r, s = c :: r → p c = false
def isNm (c : UInt8) : Bool := !by_ noName c
def Dl (s : Tx) : Prop := s = [] ∨ ∃ c r, s = c :: r ∧ (c = 32 ∨ c = 41 ∨ c = 44)
theorem Dl.stop {s : Tx} (h : Dl s) (p : UInt8 → Bool) (hp : p 32 = false ∧ p 41 = false ∧ p 44 = false) : Stop p s := by
  rintro c r rfl
  rcases h with h | ⟨c', r', h1, h2⟩
  · cases h
  · cases h1
    rcases h2 with rfl | rfl | rfl
    · exact hp.1
    · exact hp.2.1
    · exact hp.2.2
theorem Dl.n {s : Tx} (h : Dl s) : Stop isNm s := h.stop isNm (by decide)
/-! numbers -/
/-! texts in quotes -/
/-! names -/
/-! the forms of an expression that may be -/
inductive Form (k : Nat) : Ep → Prop
  | lit (kind n : Int) (text : Tx) (h : valOk kind n text = true) (h1 : kind = 1 → 0 ≤ n) : Form k (.mk 0 kind n text [] [] [])
  | col (table name : Tx) (h : nameL name = true) (h1 : table = [] ∨ nameL table = true) : Form k (.mk 1 0 0 [] table name [])
  | one (op : Int) (a : Ep) (h : op = 2 ∨ op = 3 ∨ op = 16 ∨ op = 17 ∨ op = 19 ∨ op = 20 ∨ op = 21 ∨ op = 22) (ha : OKk k a) : Form k (.mk op 0 0 [] [] [] [a])
  | all : Form k (.mk 18 0 0 [] [] [] [])
  | two (op : Int) (a b : Ep) (h : 4 ≤ op ∧ op ≤ 15) (ha : OKk k a) (hb : OKk k b) : Form k (.mk op 0 0 [] [] [] [a, b])
end Go.Proofs.YtodoejfkjimeaaaGreatDoor

set_option linter.unusedSimpArgs false
set_option linter.unusedVariables false
set_option maxRecDepth 100000
namespace Go.Proofs.YtodoejfkjimeaaaGreatDoor
open Go Go.RowKit Am
end Go.Proofs.YtodoejfkjimeaaaGreatDoor

set_option linter.unusedSimpArgs false
set_option linter.unusedVariables false
set_option maxRecDepth 100000
namespace Go.Proofs.YtodoejfkjimeaaaGreatDoor
open Go Go.RowKit Am
structure SSh (x : Sm) : Prop where
  table : (x.kind ≤ 7 → nameL x.table = true) ∧ (7 < x.kind → x.table = [])
  key : (x.kind ≤ 2 → nameL x.key = true) ∧ (2 < x.kind → x.key = [])
  index : (x.kind = 2 → nameL x.index = true) ∧ (x.kind ≠ 2 → x.index = [])
  join : x.join = [] ∨ (x.kind = 7 ∧ nameL x.join = true)
  cols : (x.kind = 1 → x.columns ≠ []) ∧ (x.kind ≠ 1 → x.columns = [])
  rows : (x.kind = 4 → x.rows ≠ []) ∧ (x.kind ≠ 4 → x.rows = [])
  sets : (x.kind = 5 → x.sets ≠ []) ∧ (x.kind ≠ 5 → x.sets = [])
  items : (x.kind = 7 → x.items ≠ []) ∧ (x.kind ≠ 7 → x.items = [])
  on : (x.join ≠ [] → x.on.length = 1) ∧ (x.join = [] → x.on = [])
  where_ : x.where_.length ≤ 1 ∧ (x.kind ≤ 4 ∨ 7 < x.kind → x.where_ = [])
  group : x.group.length ≤ 1 ∧ (x.kind ≠ 7 → x.group = [])
  order : x.kind ≠ 7 → x.order = []
  limit : x.kind ≠ 7 → x.limit = 0
  colname : ∀ c ∈ x.columns, nameL c.name = true
  setname : ∀ s ∈ x.sets, nameL s.name = true
theorem named_t {s : Tx} {p : Prop} {i : Decidable p} (h : namedF s (@decide p i) = true) : (p → nameL s = true) ∧ (¬ p → s = []) := by
  by_cases hp : p
  · rw [decide_eq_true hp] at h; exact ⟨fun _ => h, fun n => absurd hp n⟩
  · rw [decide_eq_false hp] at h; exact ⟨fun n => absurd n hp, fun _ => of_decide_eq_true h⟩
theorem count_t {n m l : Int} {a : Bool} (h : countF n m a l = true) : (a = true → l ≤ n ∧ n ≤ m) ∧ (a = false → n = 0) := by
  cases a
  · exact ⟨fun e => (by cases e), fun _ => of_decide_eq_true h⟩
  · refine ⟨fun _ => ?_, fun e => (by cases e)⟩
    simp only [countF, if_true, Bool.and_eq_true] at h
    exact ⟨of_decide_eq_true h.1, of_decide_eq_true h.2⟩
theorem len0 {α : Type} {l : List α} (h : (l.length : Int) = 0) : l = [] := List.eq_nil_of_length_eq_zero (by omega)
theorem lenp {α : Type} {l : List α} (h : 1 ≤ (l.length : Int)) : l ≠ [] := by rintro rfl; simp at h
theorem checkF_sh (x : Sm) (h : checkF x = 0) : SSh x := by
  unfold checkF at h
  by_cases h1 : x.kind < 1 ∨ 10 < x.kind
  · rw [if_pos h1] at h; cases h
  · rw [if_neg h1] at h
    by_cases h2 : shapeF x = false
    · rw [if_pos h2] at h; cases h
    · have h2' : shapeF x = true := by simpa using h2
      clear h h2
      unfold shapeF at h2'
      simp only [Bool.and_eq_true] at h2'
      obtain ⟨⟨⟨⟨⟨⟨⟨⟨⟨⟨⟨⟨⟨⟨⟨⟨a1, a2⟩, a3⟩, a4⟩, a5⟩, a6⟩, a7⟩, a8⟩, a9⟩, a10⟩, a11⟩, a12⟩, a13⟩, a14⟩, a15⟩, a16⟩, a17⟩ := h2'
      have b1 := named_t a1
      have b3 := named_t a3
      have b2 : (x.kind ≤ 2 → nameL x.key = true) ∧ (2 < x.kind → x.key = []) := by
        by_cases hk : x.kind ≤ 2
        · have e : (decide (x.kind = 1) || decide (x.kind = 2)) = true := by
            rw [Bool.or_eq_true]
            rcases (by omega : x.kind = 1 ∨ x.kind = 2) with h | h
            · exact .inl (decide_eq_true h)
            · exact .inr (decide_eq_true h)
          rw [e] at a2
          exact ⟨fun _ => a2, fun n => absurd hk (by omega)⟩
        · have e : (decide (x.kind = 1) || decide (x.kind = 2)) = false := by
            rw [decide_eq_false (by omega), decide_eq_false (by omega)]; rfl
          rw [e] at a2
          exact ⟨fun n => absurd n hk, fun _ => of_decide_eq_true a2⟩
      have cnt : ∀ {n m l : Int} {p : Prop} {i : Decidable p}, countF n m (@decide p i) l = true → (p → l ≤ n ∧ n ≤ m) ∧ (¬ p → n = 0) := fun hc => ⟨fun hp => (count_t hc).1 (decide_eq_true hp), fun hp => (count_t hc).2 (decide_eq_false hp)⟩
      have c5 := cnt a5; have c6 := cnt a6; have c7 := cnt a7; have c8 := cnt a8; have c11 := cnt a11; have c12 := cnt a12
      have c10 := count_t a10
      have c9 := count_t a9
      refine ⟨⟨b1.1, fun h => b1.2 (by omega)⟩, b2, b3, ?_, ⟨fun h => lenp (c5.1 h).1, fun h => len0 (c5.2 h)⟩, ⟨fun h => lenp (c6.1 h).1, fun h => len0 (c6.2 h)⟩, ⟨fun h => lenp (c7.1 h).1, fun h => len0 (c7.2 h)⟩, ⟨fun h => lenp (c8.1 h).1, fun h => len0 (c8.2 h)⟩, ⟨fun h => ?_, fun h => ?_⟩, ⟨?_, fun h => ?_⟩, ⟨?_, fun h => len0 (c11.2 h)⟩, fun h => len0 (c12.2 h), fun h => ?_, fun c hc => ?_, fun s hs => ?_⟩
      · rw [Bool.or_eq_true, Bool.and_eq_true] at a4
        exact a4.imp (fun h => of_decide_eq_true h) (fun h => ⟨of_decide_eq_true h.1, h.2⟩)
      · have := c9.1 (by rw [decide_eq_false h]; rfl)
        omega
      · exact len0 (c9.2 (by rw [decide_eq_true h]; rfl))
      · cases hw : (decide (x.kind = 5) || decide (x.kind = 6) || decide (x.kind = 7))
        · have := c10.2 hw; omega
        · have := c10.1 hw; omega
      · refine len0 (c10.2 ?_)
        rw [decide_eq_false (by omega), decide_eq_false (by omega), decide_eq_false (by omega)]; rfl
      · by_cases hk : x.kind = 7
        · have := (c11.1 hk).2; omega
        · have := c11.2 hk; omega
      · rw [if_neg h] at a13; exact of_decide_eq_true a13
      · have := any_not a14 c hc
        unfold colBad at this
        cases hn : nameL c.name
        · rw [hn] at this; simp at this
        · rfl
      · have := any_not a16 s hs
        unfold setBad at this
        cases hn : nameL s.name
        · rw [hn] at this; simp at this
        · rfl
/-! lists -/
/-! columns -/
end Go.Proofs.YtodoejfkjimeaaaGreatDoor

set_option linter.unusedSimpArgs false
set_option linter.unusedVariables false
set_option maxRecDepth 100000
namespace Go.Proofs.YtodoejfkjimeaaaGreatDoor
open Go Go.RowKit Am Go.ChangeShapes Go.WideShapes Go.ChangeAt
attribute [-go_sem] guardP_if guardK_if guardD_if COND_bool
attribute [local go_sem low] guardP_if guardK_if guardD_if COND_bool

instance : Inhabited Se := ⟨⟨[], .zero⟩⟩
instance : Inhabited Od := ⟨⟨0, false⟩⟩
theorem opens_Exprs (n : Nat) : Opens 25 1 encRx (fun l : List Ep => l.length ≤ 1048576 ∧ ∀ a ∈ l, BdRg a) n :=
  opens_slice Tryz.underlying25 cols_E (by omega) n (fun m _ => opens_Expr m)
structure SRg (x : Sm) : Prop where
  row : ∀ l ∈ x.rows, ∀ e ∈ l, Rg e
  set : ∀ s ∈ x.sets, Rg s.ex
  items : ∀ e ∈ x.items, Rg e
  on : ∀ e ∈ x.on, Rg e
  where_ : ∀ e ∈ x.where_, Rg e
  group : ∀ e ∈ x.group, Rg e
  order : ∀ o ∈ x.order, rng o.n
  limit : rng x.limit
theorem LBd.of {l : List Ep} (h : l.length ≤ 1048576 ∧ ∀ a ∈ l, BdRg a) : LBd l := ⟨h.1, fun e he => (h.2 e he).1⟩
theorem opens_Order (n : Nat) : Opens 77 2 encO (fun x : Od => rng x.n) n := by
  intro H enc W cs x h hb
  obtain ⟨xs, m, rfl, rfl, hl, hlen, hf⟩ := DataW.trod_struct Tryz.underlying77 h
  have hc : Tryz.prog.cellsOf 77 = 2 := by kernel_rfl
  rw [hc] at hl
  simp only [Rows.uptoBulk] at hb
  match cs, hl, xs, hlen, hf, hb with
  | [c0, c1], _, [y0, y1], _, hf, hb =>
    simp only [List.map_cons, List.map_nil, Rows.uptoBulkAll] at hb
    have z0 : Tryz.prog.cellsOf 3 = 1 := by kernel_rfl
    have f0 : DataW.trod enc Tryz.prog W 0 (fun _ => true) true m 3 [c0] = some y0 := by have this : DataW.trod enc Tryz.prog W 0 (fun _ => true) true m 3 (([c0, c1].drop 0).take (Tryz.prog.cellsOf 3)) = some y0 := hf 0 _ rfl; rw [z0] at this; exact this
    obtain ⟨a0, b0, _, _, r0⟩ := opens_int m enc W _ _ f0 (by omega)
    have z1 : Tryz.prog.cellsOf 4 = 1 := by kernel_rfl
    have f1 : DataW.trod enc Tryz.prog W 0 (fun _ => true) true m 4 [c1] = some y1 := by have this : DataW.trod enc Tryz.prog W 0 (fun _ => true) true m 4 (([c0, c1].drop 1).take (Tryz.prog.cellsOf 4)) = some y1 := hf 1 _ rfl; rw [z1] at this; exact this
    obtain ⟨a1, b1, _, _, r1⟩ := opens_bool m enc W _ _ f1 (by omega)
    refine ⟨⟨a0, a1⟩, b0, rfl, rfl, ?_⟩
    intro i u v h1 h2
    match i, h1, h2 with
    | 0, h1, h2 => exact r0 0 u v h1 h2
    | 1, h1, h2 => exact r1 0 u v h1 h2
    | i + 2, h1, h2 => cases h1
theorem opens_Set (n : Nat) : Opens 48 8 encS (fun x : Se => x.name.length ≤ 1048576 ∧ BdRg x.ex) n := by
  intro H enc W cs x h hb
  obtain ⟨xs, m, rfl, rfl, hl, hlen, hf⟩ := DataW.trod_struct Tryz.underlying48 h
  have hc : Tryz.prog.cellsOf 48 = 8 := by kernel_rfl
  rw [hc] at hl
  simp only [Rows.uptoBulk] at hb
  match cs, hl, xs, hlen, hf, hb with
  | [c0, c1, c2, c3, c4, c5, c6, c7], _, [y0, y1], _, hf, hb =>
    simp only [List.map_cons, List.map_nil, Rows.uptoBulkAll] at hb
    have z0 : Tryz.prog.cellsOf 9 = 1 := by kernel_rfl
    have f0 : DataW.trod enc Tryz.prog W 0 (fun _ => true) true m 9 [c0] = some y0 := by have this : DataW.trod enc Tryz.prog W 0 (fun _ => true) true m 9 (([c0, c1, c2, c3, c4, c5, c6, c7].drop 0).take (Tryz.prog.cellsOf 9)) = some y0 := hf 0 _ rfl; rw [z0] at this; exact this
    obtain ⟨a0, b0, _, _, r0⟩ := opens_str m enc W _ _ f0 (by omega)
    have z1 : Tryz.prog.cellsOf 46 = 7 := by kernel_rfl
    have f1 : DataW.trod enc Tryz.prog W 0 (fun _ => true) true m 46 [c1, c2, c3, c4, c5, c6, c7] = some y1 := by have this : DataW.trod enc Tryz.prog W 0 (fun _ => true) true m 46 (([c0, c1, c2, c3, c4, c5, c6, c7].drop 1).take (Tryz.prog.cellsOf 46)) = some y1 := hf 1 _ rfl; rw [z1] at this; exact this
    obtain ⟨a1, b1, _, _, r1⟩ := opens_Expr m enc W _ _ f1 (by omega)
    refine ⟨⟨a0, a1⟩, ⟨b0, b1⟩, rfl, encS_len _, ?_⟩
    intro i u v h1 h2
    rw [encS] at h2
    match i, h1, h2 with
    | 0, h1, h2 => exact r0 0 u v h1 h2
    | 1, h1, h2 => exact r1 0 u v h1 h2
    | 2, h1, h2 => exact r1 1 u v h1 h2
    | 3, h1, h2 => exact r1 2 u v h1 h2
    | 4, h1, h2 => exact r1 3 u v h1 h2
    | 5, h1, h2 => exact r1 4 u v h1 h2
    | 6, h1, h2 => exact r1 5 u v h1 h2
    | 7, h1, h2 => exact r1 6 u v h1 h2
    | i + 8, h1, h2 => cases h1
theorem cols_S : Tryz.prog.cellsOf 48 = 8 := by kernel_rfl
theorem cols_O : Tryz.prog.cellsOf 77 = 2 := by kernel_rfl
theorem cols_Es : Tryz.prog.cellsOf 25 = 1 := by kernel_rfl
theorem opens_Stmt (n : Nat) : Opens 28 14 encSm (fun x : Sm => SBd x ∧ SRg x) n := by
  intro H enc W cs x h hb
  obtain ⟨xs, m, rfl, rfl, hl, hlen, hf⟩ := DataW.trod_struct Tryz.underlying28 h
  have hc : Tryz.prog.cellsOf 28 = 14 := by kernel_rfl
  rw [hc] at hl
  simp only [Rows.uptoBulk] at hb
  match cs, hl, xs, hlen, hf, hb with
  | [c0, c1, c2, c3, c4, c5, c6, c7, c8, c9, c10, c11, c12, c13], _, [y0, y1, y2, y3, y4, y5, y6, y7, y8, y9, y10, y11, y12, y13], _, hf, hb =>
    simp only [List.map_cons, List.map_nil, Rows.uptoBulkAll] at hb
    have z0 : Tryz.prog.cellsOf 3 = 1 := by kernel_rfl
    have f0 : DataW.trod enc Tryz.prog W 0 (fun _ => true) true m 3 [c0] = some y0 := by have this : DataW.trod enc Tryz.prog W 0 (fun _ => true) true m 3 (([c0, c1, c2, c3, c4, c5, c6, c7, c8, c9, c10, c11, c12, c13].drop 0).take (Tryz.prog.cellsOf 3)) = some y0 := hf 0 _ rfl; rw [z0] at this; exact this
    obtain ⟨a0, b0, _, _, r0⟩ := opens_int m enc W _ _ f0 (by omega)
    have z1 : Tryz.prog.cellsOf 9 = 1 := by kernel_rfl
    have f1 : DataW.trod enc Tryz.prog W 0 (fun _ => true) true m 9 [c1] = some y1 := by have this : DataW.trod enc Tryz.prog W 0 (fun _ => true) true m 9 (([c0, c1, c2, c3, c4, c5, c6, c7, c8, c9, c10, c11, c12, c13].drop 1).take (Tryz.prog.cellsOf 9)) = some y1 := hf 1 _ rfl; rw [z1] at this; exact this
    obtain ⟨a1, b1, _, _, r1⟩ := opens_str m enc W _ _ f1 (by omega)
    have z2 : Tryz.prog.cellsOf 22 = 1 := by kernel_rfl
    have f2 : DataW.trod enc Tryz.prog W 0 (fun _ => true) true m 22 [c2] = some y2 := by have this : DataW.trod enc Tryz.prog W 0 (fun _ => true) true m 22 (([c0, c1, c2, c3, c4, c5, c6, c7, c8, c9, c10, c11, c12, c13].drop 2).take (Tryz.prog.cellsOf 22)) = some y2 := hf 2 _ rfl; rw [z2] at this; exact this
    obtain ⟨a2, b2, _, _, r2⟩ := opens_slice Tryz.underlying22 cols_C (by omega) m (fun m _ => opens_Column m) enc W _ _ f2 (by omega)
    have z3 : Tryz.prog.cellsOf 9 = 1 := by kernel_rfl
    have f3 : DataW.trod enc Tryz.prog W 0 (fun _ => true) true m 9 [c3] = some y3 := by have this : DataW.trod enc Tryz.prog W 0 (fun _ => true) true m 9 (([c0, c1, c2, c3, c4, c5, c6, c7, c8, c9, c10, c11, c12, c13].drop 3).take (Tryz.prog.cellsOf 9)) = some y3 := hf 3 _ rfl; rw [z3] at this; exact this
    obtain ⟨a3, b3, _, _, r3⟩ := opens_str m enc W _ _ f3 (by omega)
    have z4 : Tryz.prog.cellsOf 9 = 1 := by kernel_rfl
    have f4 : DataW.trod enc Tryz.prog W 0 (fun _ => true) true m 9 [c4] = some y4 := by have this : DataW.trod enc Tryz.prog W 0 (fun _ => true) true m 9 (([c0, c1, c2, c3, c4, c5, c6, c7, c8, c9, c10, c11, c12, c13].drop 4).take (Tryz.prog.cellsOf 9)) = some y4 := hf 4 _ rfl; rw [z4] at this; exact this
    obtain ⟨a4, b4, _, _, r4⟩ := opens_str m enc W _ _ f4 (by omega)
    have z5 : Tryz.prog.cellsOf 23 = 1 := by kernel_rfl
    have f5 : DataW.trod enc Tryz.prog W 0 (fun _ => true) true m 23 [c5] = some y5 := by have this : DataW.trod enc Tryz.prog W 0 (fun _ => true) true m 23 (([c0, c1, c2, c3, c4, c5, c6, c7, c8, c9, c10, c11, c12, c13].drop 5).take (Tryz.prog.cellsOf 23)) = some y5 := hf 5 _ rfl; rw [z5] at this; exact this
    obtain ⟨a5, b5, _, _, r5⟩ := opens_slice Tryz.underlying23 cols_Es (by omega) m (fun m _ => opens_Exprs m) enc W _ _ f5 (by omega)
    have z6 : Tryz.prog.cellsOf 24 = 1 := by kernel_rfl
    have f6 : DataW.trod enc Tryz.prog W 0 (fun _ => true) true m 24 [c6] = some y6 := by have this : DataW.trod enc Tryz.prog W 0 (fun _ => true) true m 24 (([c0, c1, c2, c3, c4, c5, c6, c7, c8, c9, c10, c11, c12, c13].drop 6).take (Tryz.prog.cellsOf 24)) = some y6 := hf 6 _ rfl; rw [z6] at this; exact this
    obtain ⟨a6, b6, _, _, r6⟩ := opens_slice Tryz.underlying24 cols_S (by omega) m (fun m _ => opens_Set m) enc W _ _ f6 (by omega)
    have z7 : Tryz.prog.cellsOf 25 = 1 := by kernel_rfl
    have f7 : DataW.trod enc Tryz.prog W 0 (fun _ => true) true m 25 [c7] = some y7 := by have this : DataW.trod enc Tryz.prog W 0 (fun _ => true) true m 25 (([c0, c1, c2, c3, c4, c5, c6, c7, c8, c9, c10, c11, c12, c13].drop 7).take (Tryz.prog.cellsOf 25)) = some y7 := hf 7 _ rfl; rw [z7] at this; exact this
    obtain ⟨a7, b7, _, _, r7⟩ := opens_Exprs m enc W _ _ f7 (by omega)
    have z8 : Tryz.prog.cellsOf 9 = 1 := by kernel_rfl
    have f8 : DataW.trod enc Tryz.prog W 0 (fun _ => true) true m 9 [c8] = some y8 := by have this : DataW.trod enc Tryz.prog W 0 (fun _ => true) true m 9 (([c0, c1, c2, c3, c4, c5, c6, c7, c8, c9, c10, c11, c12, c13].drop 8).take (Tryz.prog.cellsOf 9)) = some y8 := hf 8 _ rfl; rw [z8] at this; exact this
    obtain ⟨a8, b8, _, _, r8⟩ := opens_str m enc W _ _ f8 (by omega)
    have z9 : Tryz.prog.cellsOf 25 = 1 := by kernel_rfl
    have f9 : DataW.trod enc Tryz.prog W 0 (fun _ => true) true m 25 [c9] = some y9 := by have this : DataW.trod enc Tryz.prog W 0 (fun _ => true) true m 25 (([c0, c1, c2, c3, c4, c5, c6, c7, c8, c9, c10, c11, c12, c13].drop 9).take (Tryz.prog.cellsOf 25)) = some y9 := hf 9 _ rfl; rw [z9] at this; exact this
    obtain ⟨a9, b9, _, _, r9⟩ := opens_Exprs m enc W _ _ f9 (by omega)
    have z10 : Tryz.prog.cellsOf 25 = 1 := by kernel_rfl
    have f10 : DataW.trod enc Tryz.prog W 0 (fun _ => true) true m 25 [c10] = some y10 := by have this : DataW.trod enc Tryz.prog W 0 (fun _ => true) true m 25 (([c0, c1, c2, c3, c4, c5, c6, c7, c8, c9, c10, c11, c12, c13].drop 10).take (Tryz.prog.cellsOf 25)) = some y10 := hf 10 _ rfl; rw [z10] at this; exact this
    obtain ⟨a10, b10, _, _, r10⟩ := opens_Exprs m enc W _ _ f10 (by omega)
    have z11 : Tryz.prog.cellsOf 25 = 1 := by kernel_rfl
    have f11 : DataW.trod enc Tryz.prog W 0 (fun _ => true) true m 25 [c11] = some y11 := by have this : DataW.trod enc Tryz.prog W 0 (fun _ => true) true m 25 (([c0, c1, c2, c3, c4, c5, c6, c7, c8, c9, c10, c11, c12, c13].drop 11).take (Tryz.prog.cellsOf 25)) = some y11 := hf 11 _ rfl; rw [z11] at this; exact this
    obtain ⟨a11, b11, _, _, r11⟩ := opens_Exprs m enc W _ _ f11 (by omega)
    have z12 : Tryz.prog.cellsOf 26 = 1 := by kernel_rfl
    have f12 : DataW.trod enc Tryz.prog W 0 (fun _ => true) true m 26 [c12] = some y12 := by have this : DataW.trod enc Tryz.prog W 0 (fun _ => true) true m 26 (([c0, c1, c2, c3, c4, c5, c6, c7, c8, c9, c10, c11, c12, c13].drop 12).take (Tryz.prog.cellsOf 26)) = some y12 := hf 12 _ rfl; rw [z12] at this; exact this
    obtain ⟨a12, b12, _, _, r12⟩ := opens_slice Tryz.underlying26 cols_O (by omega) m (fun m _ => opens_Order m) enc W _ _ f12 (by omega)
    have z13 : Tryz.prog.cellsOf 3 = 1 := by kernel_rfl
    have f13 : DataW.trod enc Tryz.prog W 0 (fun _ => true) true m 3 [c13] = some y13 := by have this : DataW.trod enc Tryz.prog W 0 (fun _ => true) true m 3 (([c0, c1, c2, c3, c4, c5, c6, c7, c8, c9, c10, c11, c12, c13].drop 13).take (Tryz.prog.cellsOf 3)) = some y13 := hf 13 _ rfl; rw [z13] at this; exact this
    obtain ⟨a13, b13, _, _, r13⟩ := opens_int m enc W _ _ f13 (by omega)
    refine ⟨⟨a0, a1, a2, a3, a4, a5, a6, a7, a8, a9, a10, a11, a12, a13⟩, ⟨⟨b1, b3, b4, b8, b2.1, b2.2, b5.1, fun l hl => LBd.of (b5.2 l hl), b6.1, fun s hs => ⟨(b6.2 s hs).1, (b6.2 s hs).2.1⟩, LBd.of b7, LBd.of b9, LBd.of b10, LBd.of b11, b12.1⟩, ⟨fun l hl e he => ((b5.2 l hl).2 e he).2, fun s hs => (b6.2 s hs).2.2, fun e he => (b7.2 e he).2, fun e he => (b9.2 e he).2, fun e he => (b10.2 e he).2, fun e he => (b11.2 e he).2, b12.2, b13⟩⟩, rfl, rfl, ?_⟩
    intro i u v h1 h2
    match i, h1, h2 with
    | 0, h1, h2 => exact r0 0 u v h1 h2
    | 1, h1, h2 => exact r1 0 u v h1 h2
    | 2, h1, h2 => exact r2 0 u v h1 h2
    | 3, h1, h2 => exact r3 0 u v h1 h2
    | 4, h1, h2 => exact r4 0 u v h1 h2
    | 5, h1, h2 => exact r5 0 u v h1 h2
    | 6, h1, h2 => exact r6 0 u v h1 h2
    | 7, h1, h2 => exact r7 0 u v h1 h2
    | 8, h1, h2 => exact r8 0 u v h1 h2
    | 9, h1, h2 => exact r9 0 u v h1 h2
    | 10, h1, h2 => exact r10 0 u v h1 h2
    | 11, h1, h2 => exact r11 0 u v h1 h2
    | 12, h1, h2 => exact r12 0 u v h1 h2
    | 13, h1, h2 => exact r13 0 u v h1 h2
    | i + 14, h1, h2 => cases h1
end Go.Proofs.YtodoejfkjimeaaaGreatDoor

set_option linter.unusedSimpArgs false
set_option linter.unusedVariables false
set_option maxRecDepth 100000
namespace Go.Proofs.YtodoejfkjimeaaaGreatDoor
open Go Go.RowKit

def kwWords : List (List UInt8) := [[99, 114, 101, 97, 116, 101], [116, 97, 98, 108, 101], [105, 110, 100, 101, 120], [111, 110], [100, 114, 111, 112], [105, 110, 115, 101, 114, 116], [105, 110, 116, 111], [118, 97, 108, 117, 101, 115], [117, 112, 100, 97, 116, 101], [115, 101, 116], [100, 101, 108, 101, 116, 101], [102, 114, 111, 109], [119, 104, 101, 114, 101], [115, 101, 108, 101, 99, 116], [106, 111, 105, 110], [103, 114, 111, 117, 112], [98, 121], [111, 114, 100, 101, 114], [100, 101, 115, 99], [108, 105, 109, 105, 116], [98, 101, 103, 105, 110], [99, 111, 109, 109, 105, 116], [114, 111, 108, 108, 98, 97, 99, 107], [112, 114, 105, 109, 97, 114, 121], [107, 101, 121], [110, 111, 116], [110, 117, 108, 108], [105, 115], [97, 110, 100], [111, 114], [116, 114, 117, 101], [102, 97, 108, 115, 101], [105, 110, 116], [98, 111, 111, 108], [116, 101, 120, 116], [99, 111, 117, 110, 116], [115, 117, 109], [109, 105, 110], [109, 97, 120]]
theorem kwAll_is : kwAll = 32 :: kwWords.flatMap (fun w => w ++ [32]) := by kernel_rfl
theorem kwWords_free : ∀ w ∈ kwWords, ∀ c ∈ w, c ≠ 32 := by
  have h : (kwWords.all fun w => w.all fun c => c != 32) = true := by kernel_rfl
  intro w hw c hc
  have := List.all_eq_true.1 (List.all_eq_true.1 h w hw) c hc
  simpa using this
theorem contains_step (b : UInt8) (l sub : List UInt8) : Lib.contains (b :: l) sub = (sub.isPrefixOf (b :: l) || Lib.contains l sub) := by
  unfold Lib.contains
  have hg := Lib.index_ge l sub
  rw [Lib.index]
  cases hp : sub.isPrefixOf (b :: l) with
  | true => simp
  | false =>
    simp only [Bool.false_eq_true, if_false, Bool.false_or]
    by_cases h1 : Lib.index l sub = -1
    · rw [h1]; decide
    · have h2 : (Lib.index l sub == -1) = false := by simpa using h1
      rw [h2]
      simp only [Bool.false_eq_true, if_false]
      exact decide_eq_decide.2 (by omega)
theorem word_prefix (rest : List UInt8) : ∀ (a w : List UInt8), (∀ c ∈ a, c ≠ 32) → (∀ c ∈ w, c ≠ 32) → (a ++ [32]).isPrefixOf (w ++ 32 :: rest) = decide (a = w)
  | [], [], _, _ => by simp [List.isPrefixOf]
  | [], c :: w, _, hw => by
    have h := hw c (List.mem_cons_self ..)
    have h2 : ((32 : UInt8) == c) = false := by simpa using fun e => h e.symm
    simp [List.isPrefixOf, h2]
  | x :: a, [], ha, _ => by
    have h := ha x (List.mem_cons_self ..)
    have h2 : (x == (32 : UInt8)) = false := by simpa using h
    simp [List.isPrefixOf, h2]
  | x :: a, c :: w, ha, hw => by
    have ih := word_prefix rest a w (fun y hy => ha y (List.mem_cons_of_mem _ hy)) (fun y hy => hw y (List.mem_cons_of_mem _ hy))
    simp only [List.cons_append, List.isPrefixOf, ih]
    by_cases e : x = c
    · subst e; simp
    · have h2 : (x == c) = false := by simpa using e
      simp [h2, e]
theorem skip_word (a l : List UInt8) : ∀ (w : List UInt8), (∀ c ∈ w, c ≠ 32) → Lib.contains (w ++ l) (32 :: a) = Lib.contains l (32 :: a)
  | [], _ => rfl
  | c :: w, hw => by
    have h := hw c (List.mem_cons_self ..)
    have h2 : ((32 : UInt8) == c) = false := by simpa using fun e => h e.symm
    rw [List.cons_append, contains_step, skip_word a l w (fun y hy => hw y (List.mem_cons_of_mem _ hy))]
    simp [List.isPrefixOf, h2]
theorem words_contain (a : List UInt8) (ha : ∀ c ∈ a, c ≠ 32) : ∀ (ws : List (List UInt8)), (∀ w ∈ ws, ∀ c ∈ w, c ≠ 32) → Lib.contains (32 :: ws.flatMap (fun w => w ++ [32])) (32 :: (a ++ [32])) = decide (a ∈ ws)
  | [], _ => by
    rw [contains_step, List.flatMap_nil]
    have : Lib.contains [] (32 :: (a ++ [32])) = false := by simp [Lib.contains, Lib.index]
    rw [this]
    cases a <;> simp [List.isPrefixOf]
  | w :: ws, hw => by
    have ih := words_contain a ha ws (fun v hv => hw v (List.mem_cons_of_mem _ hv))
    have hw0 := hw w (List.mem_cons_self ..)
    rw [contains_step, List.flatMap_cons, List.append_assoc, skip_word _ _ w hw0, List.singleton_append, ih]
    have hp : (32 :: (a ++ [32])).isPrefixOf (32 :: (w ++ 32 :: ws.flatMap fun w => w ++ [32])) = decide (a = w) := by
      rw [List.isPrefixOf, word_prefix _ a w ha hw0]; simp
    rw [hp]
    by_cases e : a = w <;> simp [e]
theorem kwL_words (l : List UInt8) : kwL l = decide (lowerL l ∈ kwWords) := by
  unfold kwL
  generalize lowerL l = a
  rw [← Lib.contains_iff_indexByte]
  by_cases h32 : (32 : UInt8) ∈ a
  · have h1 : a.contains 32 = true := by simpa using h32
    have h2 : a ∉ kwWords := fun h => kwWords_free a h 32 h32 rfl
    rw [h1, decide_eq_false h2]; simp
  · have h1 : a.contains 32 = false := by simpa using h32
    rw [kwAll_is, words_contain a (fun c hc e => h32 (e ▸ hc)) kwWords kwWords_free, h1]
    by_cases hn : a = []
    · subst hn; decide
    · simp [hn]
end Go.Proofs.YtodoejfkjimeaaaGreatDoor
