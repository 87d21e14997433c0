/- The plain laws of CheckBare and CheckKinds. -/
import Derived.Test.YtlhnncmflnjinaaDf
set_option linter.unusedSimpArgs false
set_option linter.unusedVariables false
set_option maxRecDepth 100000
namespace Go.Proofs.Ytlhnncmflnjinaa
open Go Go.RowKit Am

theorem placeE_err {table name : Tx} {ts : List Tb} {x : Int} (h : placeE table name ts = .error x) : x ≠ 0 := by
  unfold placeE at h
  split at h
  · cases h; decide
  · split at h
    · cases h
    · cases h; decide
theorem kindE_err {op : Int} {l : List Int} {x : Int} (h : kindE op l = .error x) : x ≠ 0 := by
  unfold kindE at h
  repeat' split at h
  all_goals first | (cases h; done) | (cases h; decide)
theorem exprL_err0 {ts : List Tb} {agg : Bool} {l : List Ep} {x : Int} (ih : ∀ a ∈ l, ∀ agg x, exprF ts a agg = .error x → x ≠ 0) (h : exprL ts l agg = .error x) : x ≠ 0 := by
  induction l with
  | nil => simp [exprL] at h
  | cons a l ihl =>
    simp only [exprL] at h
    split at h
    · rename_i y hy; cases h; exact ih a (List.mem_cons_self ..) _ _ hy
    · split at h
      · rename_i y hy; cases h; exact ihl (fun a ha => ih a (List.mem_cons_of_mem _ ha)) hy
      · cases h
theorem exprF_err {ts : List Tb} {e : Ep} : ∀ {agg : Bool} {x : Int}, exprF ts e agg = .error x → x ≠ 0 := by
  have htr := tr_all e
  induction htr with
  | mk e h ih =>
    intro agg x hx
    rw [exprF_eq] at hx
    split at hx
    · cases hx
    · split at hx
      · split at hx
        · cases hx
        · rename_i y hy; cases hx; exact placeE_err hy
      · split at hx
        · rename_i y hy; cases hx; exact exprL_err0 (fun a ha agg x h => ih a ha h) hy
        · split at hx
          · rename_i y hy; cases hx; exact kindE_err hy
          · split at hx
            · cases hx
            · cases hx; decide
theorem checkE_err {ts : List Tb} {e : Ep} {agg : Bool} {x : Int} (h : checkE ts e agg = .error x) : x ≠ 0 := by
  unfold checkE at h
  split at h
  · cases h; decide
  · split at h
    · rename_i h1; cases h; exact h1
    · exact exprF_err h
def cols (ts : List Tb) : Int := (ts.map (fun t => (t.columns.length : Int))).sum
theorem cols_take {ts : List Tb} {i : Nat} {t : Tb} (hx : ts[i]? = some t) : cols (ts.take (i + 1)) = cols (ts.take i) + t.columns.length := by
  unfold cols
  rw [List.take_add_one, hx, List.map_append, List.sum_append]; simp
theorem plAll_inv (table name : Tx) (ts : List Tb) : (plAll table name ts).base = cols ts ∧ 0 ≤ cols ts ∧ 0 ≤ (plAll table name ts).found ∧ (0 < (plAll table name ts).found → 0 ≤ (plAll table name ts).at_ ∧ (plAll table name ts).at_ < cols ts) := by
  have : ∀ (n : Nat), n ≤ ts.length → (plAll table name (ts.take n)).base = cols (ts.take n) ∧ 0 ≤ cols (ts.take n) ∧ 0 ≤ (plAll table name (ts.take n)).found ∧ (0 < (plAll table name (ts.take n)).found → 0 ≤ (plAll table name (ts.take n)).at_ ∧ (plAll table name (ts.take n)).at_ < cols (ts.take n)) := by
    intro n
    induction n with
    | zero => intro _; simp [plAll, cols]
    | succ n ih =>
      intro hn
      have hx := List.getElem?_eq_getElem (show n < ts.length by omega)
      obtain ⟨h1, h2, h3, h4⟩ := ih (by omega)
      rw [plAll_take hx, cols_take hx]
      generalize plAll table name (ts.take n) = p at *
      generalize cols (ts.take n) = c at *
      generalize ts[n] = t at *
      unfold plStep
      split
      · split
        · rename_i h5
          obtain ⟨k, cl, hk, _, hlt⟩ := colF_ok h5
          rw [hk]; simp only
          refine ⟨by omega, by omega, by omega, fun _ => by omega⟩
        · simp only
          refine ⟨by omega, by omega, by omega, fun h => ?_⟩
          have := h4 h; omega
      · simp only
        refine ⟨by omega, by omega, by omega, fun h => ?_⟩
        have := h4 h; omega
  have h := this ts.length (Nat.le_refl _)
  rw [List.take_length] at h; exact h
theorem placeE_ok {table name : Tx} {ts : List Tb} {p : Int × Int} (h : placeE table name ts = .ok p) : 0 ≤ p.1 ∧ p.1 < cols ts := by
  unfold placeE at h
  split at h
  · cases h
  · split at h
    · rename_i h1
      cases h
      exact (plAll_inv table name ts).2.2.2 (by omega)
    · cases h
theorem exprL_ok {ts : List Tb} {agg : Bool} {P : Ep → Prop} : ∀ {l : List Ep} {ps : List (Ep × Int)}, (∀ a ∈ l, ∀ p, exprF ts a agg = .ok p → P p.1) → exprL ts l agg = .ok ps → ∀ q ∈ ps, P q.1
  | [], ps, _, h, q, hq => by simp only [exprL] at h; cases h; cases hq
  | a :: l, ps, ha, h, q, hq => by
    simp only [exprL] at h
    split at h
    · cases h
    · rename_i p hp
      split at h
      · cases h
      · rename_i r hr
        cases h
        rcases List.mem_cons.1 hq with rfl | hq
        · exact ha a (List.mem_cons_self ..) _ hp
        · exact exprL_ok (fun a h => ha a (List.mem_cons_of_mem _ h)) hr q hq
theorem bare_law {ts : List Tb} {e : Ep} (hg : Gd e) : ∀ {agg : Bool} {p : Ep × Int}, exprF ts e agg = .ok p → bareF (cols ts) p.1 = true := by
  induction hg with
  | mk e hp ha ih =>
    intro agg p h
    rw [exprF_eq] at h
    split at h
    · rename_i h0
      cases h
      have hargs := partOk_args hp
      unfold partOk at hp
      rw [if_pos h0] at hp
      simp only [Bool.and_eq_true, decide_eq_true_eq] at hp
      have hn := List.append_eq_nil_iff.1 hp.2.1.1
      have hl : e.args = [] := by
        have := hargs.2
        rw [h0] at this
        exact List.eq_nil_of_length_eq_zero (by simp [argsN] at this; omega)
      rw [bareF_eq, if_neg (by simp [hn.1, hn.2, h0]), hl]; rfl
    · split at h
      · split at h
        · rename_i q hq
          cases h
          have := placeE_ok hq
          rw [bareF_eq, if_neg (by simp [Ep.name, Ep.table, Ep.n]; omega)]; rfl
        · cases h
      · rename_i h0 h1
        split at h
        · cases h
        · rename_i l hl
          split at h
          · cases h
          · split at h
            · cases h
              rw [bareF_eq, if_neg (fun h => h.elim (fun h => h.elim (fun h => h rfl) (fun h => h rfl)) (fun h => h1 h.1)), bareL_all]
              rw [List.all_eq_true]
              intro x hx
              obtain ⟨q, hq, rfl⟩ := List.mem_map.1 hx
              exact exprL_ok (P := fun x => bareF (cols ts) x = true) (fun a hA p hpp => ih a hA hpp) hl q hq
            · cases h
theorem bare_check {ts : List Tb} {e : Ep} {agg : Bool} {p : Ep × Int} (h : checkE ts e agg = .ok p) : bareF (cols ts) p.1 = true := by
  unfold checkE at h
  split at h
  · cases h
  · split at h
    · cases h
    · rename_i h1
      exact bare_law (walkF_gd 12 e 0 (by simpa using h1)) h
/-- less deep, and fewer before: it may be, too -/
theorem walkF_mono : ∀ (k : Nat) (e : Ep) (c k' c' : Nat), (walkF k e c).1 = 0 → k ≤ k' → c' ≤ c → (walkF k' e c').1 = 0 ∧ (walkF k' e c').2 + c ≤ (walkF k e c).2 + c'
  | 0, e, c, k', c', h, _, _ => by simp only [walkF] at h; exact absurd h (by decide)
  | k + 1, e, c, k', c', h, hk, hc => by
    obtain ⟨m, rfl⟩ : ∃ m, k' = m + 1 := ⟨k' - 1, by omega⟩
    simp only [walkF] at h ⊢
    split at h
    · simp at h
    · rename_i h1
      split at h
      · simp at h
      · rename_i h2
        rw [if_neg h1, if_neg h2, if_neg (by omega), if_neg h2]
        have : ∀ (l : List Ep) (c c' : Nat), (goOver (walkF k) l c).1 = 0 → c' ≤ c → (goOver (walkF m) l c').1 = 0 ∧ (goOver (walkF m) l c').2 + c ≤ (goOver (walkF k) l c).2 + c' := by
          intro l
          induction l with
          | nil => intro c c' _ hc; simp only [goOver]; exact ⟨trivial, by omega⟩
          | cons a l ih =>
            intro c c' h hc
            simp only [goOver] at h ⊢
            split at h
            · rename_i h0
              obtain ⟨g1, g2⟩ := walkF_mono k a c m c' h0 (by omega) hc
              rw [if_pos h0, if_pos g1]
              have hle : (walkF m a c').2 ≤ (walkF k a c).2 := by omega
              obtain ⟨g3, g4⟩ := ih _ _ h hle
              exact ⟨g3, by omega⟩
            · rename_i h0; exact absurd h h0
        obtain ⟨g1, g2⟩ := this e.args (c + 1) (c' + 1) h (by omega)
        exact ⟨g1, by omega⟩
/-- of what may be by itself, only too deep or too many are faults -/
theorem walkF_kind {e : Ep} (hg : Gd e) : ∀ (k c : Nat), (walkF k e c).1 = 0 ∨ (walkF k e c).1 = 3 ∨ (walkF k e c).1 = 10 := by
  induction hg with
  | mk e hp ha ih =>
    intro k c
    cases k with
    | zero => simp [walkF]
    | succ k =>
      simp only [walkF]
      split
      · simp
      · rw [if_neg (by simp [hp])]
        have : ∀ (l : List Ep), (∀ a ∈ l, ∀ k c, (walkF k a c).1 = 0 ∨ (walkF k a c).1 = 3 ∨ (walkF k a c).1 = 10) → ∀ c, (goOver (walkF k) l c).1 = 0 ∨ (goOver (walkF k) l c).1 = 3 ∨ (goOver (walkF k) l c).1 = 10 := by
          intro l
          induction l with
          | nil => intro _ c; simp [goOver]
          | cons a l ihl =>
            intro hl c
            simp only [goOver]
            split
            · exact ihl (fun a ha => hl a (List.mem_cons_of_mem _ ha)) _
            · exact hl a (List.mem_cons_self ..) _ _
        exact this e.args ih _
/-- an expression under another op -/
def under (op : Int) (x : Ep) : Ep := .mk op 0 0 [] [] [] [x]
theorem under_part {op : Int} (h : op = 2 ∨ op = 3) (x : Ep) : partOk (under op x) = true := by
  rcases h with rfl | rfl <;> rfl
theorem under_walk {op : Int} (h : op = 2 ∨ op = 3) (x : Ep) : (walkF 12 (under op x) 0).1 = (walkF 11 x 1).1 := by
  rw [walkF, if_neg (by decide), if_neg (by simp [under_part h])]
  show (goOver (walkF 11) [x] (0 + 1)).1 = _
  simp only [goOver]
  split
  · rename_i h; exact h.symm
  · rfl
/-- what check.Expr tells of an expression under not or under neg -/
theorem under_is {op : Int} (h : op = 2 ∨ op = 3) (ts : List Tb) (x : Ep) : checkE ts (under op x) false =
    if ts.length < 1 ∨ 2 < ts.length then .error 3 else if (walkF 11 x 1).1 ≠ 0 then .error (walkF 11 x 1).1 else match exprF ts x false with
      | .error y => .error y
      | .ok p => if fitOk (if op = 2 then 1 else 2) p.2 = true then .ok (.mk op 0 0 [] [] [] [p.1], if op = 2 then 1 else 2) else .error 81 := by
  unfold checkE
  rw [under_walk h]
  split
  · rfl
  · split
    · rfl
    · rw [exprF_eq]
      rcases h with rfl | rfl
      all_goals
        show (match exprL ts [x] (false && _) with | .error x => _ | .ok l => _) = _
        simp only [exprL, Bool.false_and]
        cases exprF ts x false with
        | error y => rfl
        | ok p =>
          simp only [List.map_cons, List.map_nil, kindE, under, Ep.op]
          first | (cases hf : fitOk 1 p.2 <;> simp [hf]; done) | (cases hf : fitOk 2 p.2 <;> simp [hf]; done)
end Go.Proofs.Ytlhnncmflnjinaa
