/- Packed by a program of this repo: Qk. -/
import Derived.Test.YtlhnncmflnjinaaKCQi
set_option linter.unusedSimpArgs false
set_option linter.unusedVariables false
set_option maxRecDepth 100000
namespace Go.Proofs.Ytlhnncmflnjinaa
open Go Go.RowKit Am
theorem nameL_nil : nameL [] = false := rfl
/-! what the program makes of catalogs -/
def twG (cs : List Cl) : Nat → List Cl → Bool
  | _, [] => false
  | i, c :: r => if (colF cs c.name).1 ≠ (i : Int) then true else twG cs (i + 1) r
def notNullAt (cs : List Cl) (k : Int) : List Cl := match cs[k.toNat]? with
  | some c => cs.set k.toNat { c with notNull := true }
  | none => cs
def createF (ts : List Tb) (x : Sm) : List Tb × Int :=
  if catCheckF ts ≠ 0 then ([], catCheckF ts)
  else if x.kind ≠ 1 ∨ checkF x ≠ 0 then ([], 1)
  else if tis_ ts x.table = true then ([], 6)
  else if twG x.columns 0 x.columns = true then ([], 6)
  else if (colF x.columns x.key).2 ≠ 0 then ([], (colF x.columns x.key).2)
  else if (ts.length : Int) = 8 then ([], 51)
  else (ts.take (tpl_ ts x.table) ++ [⟨x.table, notNullAt x.columns (colF x.columns x.key).1, (colF x.columns x.key).1, []⟩] ++ ts.drop (tpl_ ts x.table), 0)
def anyIx (ts : List Tb) (x : Tx) : Bool := ts.any fun t => t.indexes.any fun y => decide (y.name = x)
def addF (ts : List Tb) (x : Sm) : List Tb × Int :=
  if catCheckF ts ≠ 0 then ([], catCheckF ts)
  else if x.kind ≠ 2 ∨ checkF x ≠ 0 then ([], 1)
  else if tis_ ts x.table = false then ([], 93)
  else if (colF (ts.getD (tpl_ ts x.table) tb0).columns x.key).2 ≠ 0 then ([], (colF (ts.getD (tpl_ ts x.table) tb0).columns x.key).2)
  else if anyIx ts x.index = true then ([], 6)
  else if ((ts.getD (tpl_ ts x.table) tb0).indexes.length : Int) = 4 then ([], 51)
  else (ts.set (tpl_ ts x.table) { ts.getD (tpl_ ts x.table) tb0 with indexes := (ts.getD (tpl_ ts x.table) tb0).indexes ++ [⟨x.index, (colF (ts.getD (tpl_ ts x.table) tb0).columns x.key).1⟩] }, 0)
def dropF (ts : List Tb) (x : Tx) : List Tb × Int :=
  if (findF ts x).2 ≠ 0 then ([], (findF ts x).2) else (ts.take (findF ts x).1.toNat ++ ts.drop ((findF ts x).1.toNat + 1), 0)
/-! laws -/
theorem Tx_total {a b : Tx} (h1 : ¬ a < b) (h2 : a ≠ b) : b < a := by
  have h5 : b ≤ a := List.not_lt.1 h1
  rcases List.le_iff_lt_or_eq.1 h5 with h | h
  · exact h
  · exact absurd h.symm h2
theorem leS_false {a b : Tx} : leS a b = false ↔ b < a := by
  unfold leS
  rw [bytesLess_eq, Bool.or_eq_false_iff, decide_eq_false_iff_not, beq_eq_false_iff_ne]
  constructor
  · exact fun ⟨h1, h2⟩ => Tx_total h1 h2
  · exact fun h => ⟨fun h2 => List.lt_irrefl _ (List.lt_trans h h2), fun e => by subst e; exact List.lt_irrefl _ h⟩
theorem ixNew_some : ∀ {xs : List Ix} {seen s : List Tx}, ixNew seen xs = some s → seen.Nodup → s = seen ++ xs.map (·.name) ∧ s.Nodup
  | [], seen, s, h, hn => by
    rw [ixNew] at h; cases h; exact ⟨by simp, hn⟩
  | x :: xs, seen, s, h, hn => by
    rw [ixNew] at h
    split at h
    · cases h
    · rename_i hx
      have hn2 : (seen ++ [x.name]).Nodup := List.nodup_append.2 ⟨hn, by simp, fun a ha b hb => by simp at hb; subst hb; exact fun e => hx (e ▸ ha)⟩
      obtain ⟨g1, g2⟩ := ixNew_some h hn2
      exact ⟨by rw [g1]; simp, g2⟩
theorem ixNew_of : ∀ {xs : List Ix} {seen : List Tx}, (seen ++ xs.map (·.name)).Nodup → ixNew seen xs = some (seen ++ xs.map (·.name))
  | [], seen, h => by simp [ixNew]
  | x :: xs, seen, h => by
    rw [List.map_cons] at h
    have hx : x.name ∉ seen := fun hm => (List.nodup_append.1 h).2.2 _ hm _ (by simp) rfl
    rw [ixNew, if_neg hx, ixNew_of (by simpa using h)]
    simp
def ixn (ts : List Tb) : List Tx := ts.flatMap fun t => t.indexes.map (·.name)
theorem catF_zero : ∀ {ts : List Tb} {seen : List Tx} {last : Tx}, seen.Nodup → (catF seen last ts = 0 ↔ (∀ t ∈ ts, mayF t = true) ∧ (∀ t ∈ ts, last < t.name) ∧ ts.Pairwise (fun a b => a.name < b.name) ∧ (seen ++ ixn ts).Nodup)
  | [], seen, last, hn => by simp [catF, ixn, hn]
  | t :: ts, seen, last, hn => by
    rw [catF]
    by_cases h1 : mayF t = true
    · by_cases h2 : last < t.name
      · rw [if_neg (by simp [h1, leS_false.2 h2])]
        have e : seen ++ ixn (t :: ts) = (seen ++ t.indexes.map (·.name)) ++ ixn ts := by simp [ixn]
        rw [e]
        by_cases h3 : (seen ++ t.indexes.map (·.name)).Nodup
        · rw [ixNew_of h3]
          simp only
          rw [catF_zero h3]
          constructor
          · rintro ⟨a, b, c, d⟩
            refine ⟨fun u hu => ?_, fun u hu => ?_, List.pairwise_cons.2 ⟨b, c⟩, d⟩
            · rcases List.mem_cons.1 hu with rfl | hu
              · exact h1
              · exact a u hu
            · rcases List.mem_cons.1 hu with rfl | hu
              · exact h2
              · exact List.lt_trans h2 (b u hu)
          · rintro ⟨a, b, c, d⟩
            exact ⟨fun u hu => a u (List.mem_cons_of_mem _ hu), (List.pairwise_cons.1 c).1, (List.pairwise_cons.1 c).2, d⟩
        · constructor
          · intro h
            cases hx : ixNew seen t.indexes with
            | none => rw [hx] at h; simp at h
            | some s =>
              obtain ⟨g1, g2⟩ := ixNew_some hx hn
              exact absurd (g1 ▸ g2) h3
          · rintro ⟨_, _, _, d⟩
            exact absurd (List.nodup_append.1 d).1 h3
      · rw [if_pos (.inr (by cases h : leS t.name last; exact absurd (leS_false.1 h) h2; rfl))]
        constructor
        · intro h; omega
        · rintro ⟨_, b, _⟩; exact absurd (b t (by simp)) h2
    · rw [if_pos (.inl (by simpa using h1))]
      constructor
      · intro h; omega
      · rintro ⟨a, _⟩; exact absurd (a t (by simp)) h1
/-- a catalog that may be -/
structure CatOk (ts : List Tb) : Prop where
  len : ts.length ≤ 8
  may : ∀ t ∈ ts, mayF t = true
  rise : ts.Pairwise (fun a b => a.name < b.name)
  ixs : (ixn ts).Nodup
theorem may_name {t : Tb} (h : mayF t = true) : nameL t.name = true := by
  unfold mayF at h
  split at h
  · cases h
  · rename_i h1; simp at h1; exact h1.1
theorem catCheck_zero {ts : List Tb} : catCheckF ts = 0 ↔ CatOk ts := by
  unfold catCheckF
  constructor
  · intro h
    split at h
    · omega
    · rename_i h1
      obtain ⟨a, b, c, d⟩ := (catF_zero (by simp)).1 h
      exact ⟨by omega, a, c, by simpa using d⟩
  · rintro ⟨a, b, c, d⟩
    rw [if_neg (by omega)]
    refine (catF_zero (by simp)).2 ⟨b, fun t ht => ?_, c, by simpa using d⟩
    have := may_name (b t ht)
    cases hn : t.name with
    | nil => rw [hn, nameL_nil] at this; cases this
    | cons a l => exact List.nil_lt_cons a l
theorem may_ixs {t : Tb} (h : mayF t = true) : t.indexes.length ≤ 4 := by
  unfold mayF at h
  split at h
  · cases h
  · rename_i h1; simp only [not_or] at h1; omega
/-- where a table stands -/
theorem tpl_split {l1 l2 : List Tb} {x : Tx} (h1 : ∀ t ∈ l1, t.name < x) (h2 : ∀ t ∈ l2, ¬ t.name < x) : tpl_ (l1 ++ l2) x = l1.length := by
  have key : ∀ less : Nat → Bool, (∀ t, t < l1.length → less t = true) → (∀ t, l1.length ≤ t → t < (l1 ++ l2).length → less t = false) → bsL less (l1 ++ l2).length 0 (l1 ++ l2).length = l1.length := by
    intro less a1 a2
    have : ∀ (f lo hi : Nat), hi - lo ≤ f → lo ≤ l1.length → l1.length ≤ hi → hi ≤ (l1 ++ l2).length → bsL less f lo hi = l1.length := by
      intro f
      induction f with
      | zero => intro lo hi _ _ _ _; simp only [bsL]; omega
      | succ f ih =>
        intro lo hi hf a b c
        unfold bsL
        by_cases h : lo < hi
        · rw [if_pos h]
          by_cases hm : (lo + hi) / 2 < l1.length
          · rw [a1 _ hm, if_pos rfl]; exact ih _ _ (by omega) (by omega) b c
          · rw [a2 _ (by omega) (by omega), if_neg (by simp)]; exact ih _ _ (by omega) a (by omega) (by omega)
        · rw [if_neg h]; omega
    exact this _ _ _ (by omega) (Nat.zero_le _) (by simp) (Nat.le_refl _)
  refine key _ (fun t ht => ?_) (fun t ht ht2 => ?_)
  · have hg : (l1 ++ l2).getD t tb0 = l1[t] := by
      rw [List.getD_eq_getElem?_getD, List.getElem?_append_left ht, List.getElem?_eq_getElem ht]; rfl
    simp only [hg, decide_eq_true_eq]
    exact cmpS_neg.2 (h1 _ (List.getElem_mem _))
  · have hlt : t - l1.length < l2.length := by simp at ht2; omega
    have hg : (l1 ++ l2).getD t tb0 = l2[t - l1.length] := by
      rw [List.getD_eq_getElem?_getD, List.getElem?_append_right ht, List.getElem?_eq_getElem hlt]; rfl
    simp only [hg, decide_eq_false_iff_not]
    exact fun h => h2 _ (List.getElem_mem _) (cmpS_neg.1 h)
theorem tb_split : ∀ {l : List Tb} (_ : l.Pairwise (fun a b => a.name < b.name)) (x : Tx), ∃ l1 l2, l = l1 ++ l2 ∧ (∀ t ∈ l1, t.name < x) ∧ (∀ t ∈ l2, ¬ t.name < x) ∧ (∀ t ∈ l2.drop 1, x < t.name)
  | [], _, x => ⟨[], [], rfl, by simp, by simp, by simp⟩
  | a :: l, h, x => by
    obtain ⟨ha, hl⟩ := List.pairwise_cons.1 h
    by_cases e : a.name < x
    · obtain ⟨l1, l2, rfl, b1, b2, b3⟩ := tb_split hl x
      exact ⟨a :: l1, l2, rfl, fun r hr => (List.mem_cons.1 hr).elim (fun h => h ▸ e) (b1 r), b2, b3⟩
    · have hb : ∀ r ∈ l, x < r.name := by
        intro r hr
        by_cases e2 : a.name = x
        · rw [← e2]; exact ha r hr
        · exact List.lt_trans (Tx_total e e2) (ha r hr)
      refine ⟨[], a :: l, rfl, by simp, fun r hr => ?_, by simpa using hb⟩
      rcases List.mem_cons.1 hr with rfl | hr
      · exact e
      · exact fun h2 => List.lt_irrefl _ (List.lt_trans h2 (hb r hr))
theorem tis_split {ts : List Tb} (h : ts.Pairwise (fun a b => a.name < b.name)) (x : Tx) : ∃ l1 l2, ts = l1 ++ l2 ∧ tpl_ ts x = l1.length ∧ (∀ t ∈ l1, t.name < x) ∧
    ((tis_ ts x = true ∧ ∃ t l3, l2 = t :: l3 ∧ t.name = x ∧ ∀ u ∈ l3, x < u.name) ∨ (tis_ ts x = false ∧ ∀ u ∈ l2, x < u.name)) := by
  obtain ⟨l1, l2, rfl, h1, h2, h3⟩ := tb_split h x
  have hat := tpl_split h1 h2
  refine ⟨l1, l2, rfl, hat, h1, ?_⟩
  unfold tis_
  rw [hat]
  cases l2 with
  | nil => exact .inr ⟨by simp, by simp⟩
  | cons t l3 =>
    have hg : (l1 ++ t :: l3).getD l1.length tb0 = t := by
      rw [List.getD_eq_getElem?_getD, List.getElem?_append_right (Nat.le_refl _), Nat.sub_self]; rfl
    rw [hg]
    by_cases e : t.name = x
    · exact .inl ⟨by simp [cmpS_zero.2 e], t, l3, rfl, e, by simpa using h3⟩
    · have hn : ¬ cmpS t.name x = 0 := fun h => e (cmpS_zero.1 h)
      refine .inr ⟨by simp [hn], fun u hu => ?_⟩
      rcases List.mem_cons.1 hu with rfl | hu
      · exact Tx_total (h2 _ (by simp)) e
      · exact h3 u (by simpa using hu)
/-- a table that is there -/
theorem tis_there {l1 l2 : List Tb} {t : Tb} (h : (l1 ++ t :: l2).Pairwise (fun a b => a.name < b.name)) : tis_ (l1 ++ t :: l2) t.name = true ∧ tpl_ (l1 ++ t :: l2) t.name = l1.length := by
  obtain ⟨p1, p2, p3⟩ := List.pairwise_append.1 h
  have hat := tpl_split (l1 := l1) (l2 := t :: l2) (x := t.name) (fun a ha => p3 a ha t (by simp)) (fun a ha => by
    rcases List.mem_cons.1 ha with rfl | ha
    · exact List.lt_irrefl _
    · exact fun h2 => List.lt_irrefl _ (List.lt_trans h2 ((List.pairwise_cons.1 p2).1 a ha)))
  refine ⟨?_, hat⟩
  unfold tis_
  have hg : (l1 ++ t :: l2).getD l1.length tb0 = t := by
    rw [List.getD_eq_getElem?_getD, List.getElem?_append_right (Nat.le_refl _), Nat.sub_self]; rfl
  rw [hat, hg]
  simp [cmpS_zero.2 (rfl : t.name = t.name)]
/-! columns -/
theorem colsF_of : ∀ {cs : List Cl} {seen : List Tx}, (∀ c ∈ cs, colBad c = false) → (seen ++ cs.map (·.name)).Nodup → colsF seen cs = true
  | [], seen, _, _ => rfl
  | c :: cs, seen, h, hn => by
    rw [List.map_cons] at hn
    have hx : c.name ∉ seen := fun hm => (List.nodup_append.1 hn).2.2 _ hm _ (by simp) rfl
    have hb := h c (by simp)
    simp only [colBad, Bool.or_eq_false_iff, Bool.not_eq_false', decide_eq_false_iff_not] at hb
    rw [colsF, if_neg (by simp only [hx, hb.1.1, false_or, Bool.true_eq_false]; omega), colsF_of (fun d hd => h d (List.mem_cons_of_mem _ hd)) (by simpa using hn)]
theorem colF_find {cs : List Cl} {x : Tx} (h : (colF cs x).2 = 0) : ∃ c, cs[(colF cs x).1.toNat]? = some c ∧ c.name = x ∧ 0 ≤ (colF cs x).1 ∧ (colF cs x).1 < cs.length := by
  unfold colF at h ⊢
  split at h
  · simp at h
  · rename_i h1
    rw [if_neg h1]
    simp only
    unfold ixL at h1 ⊢
    by_cases ha : cs.any (fun c => decide (c.name = x)) = true
    · rw [if_pos ha]
      obtain ⟨c, hc, hq⟩ := List.any_eq_true.1 ha
      have hlt := List.findIdx_lt_length_of_exists (xs := cs) (p := fun c => decide (c.name = x)) ⟨c, hc, hq⟩
      refine ⟨cs[cs.findIdx (fun c => decide (c.name = x))], by simp [hlt], ?_, by omega, by omega⟩
      have := List.findIdx_getElem (xs := cs) (p := fun c => decide (c.name = x)) (w := hlt)
      simpa using this
    · rw [if_neg ha] at h1; omega
theorem twG_nodup {cs : List Cl} : ∀ {r : List Cl} {i : Nat}, twG cs i r = false → ∀ (j : Nat) (c : Cl), r[j]? = some c → (colF cs c.name).1 = ((i + j : Nat) : Int)
  | [], i, h, j, c, hc => by simp at hc
  | d :: r, i, h, j, c, hc => by
    rw [twG] at h
    split at h
    · cases h
    · rename_i h1
      cases j with
      | zero => simp at hc; subst hc; simpa using h1
      | succ j =>
        simp only [List.getElem?_cons_succ] at hc
        have := twG_nodup h j c hc
        rw [this]; omega
theorem cols_nodup {cs : List Cl} (h : twG cs 0 cs = false) : (cs.map (·.name)).Nodup := by
  rw [List.nodup_iff_pairwise_ne, List.pairwise_iff_getElem]
  intro i j hi hj hij e
  simp only [List.length_map] at hi hj
  simp only [List.getElem_map] at e
  have h1 := twG_nodup h i cs[i] (List.getElem?_eq_getElem hi)
  have h2 := twG_nodup h j cs[j] (List.getElem?_eq_getElem hj)
  rw [e] at h1
  omega
theorem notNull_names (cs : List Cl) (k : Int) : (notNullAt cs k).map (·.name) = cs.map (·.name) := by
  unfold notNullAt
  split
  · rename_i c hc
    obtain ⟨hk, rfl⟩ := List.getElem?_eq_some_iff.1 hc
    rw [List.map_set]
    refine List.ext_getElem (by simp) fun i h1 h2 => ?_
    rw [List.getElem_set]
    split
    · rename_i e; subst e; simp
    · rfl
  · rfl
theorem notNull_len (cs : List Cl) (k : Int) : (notNullAt cs k).length = cs.length := by
  have := congrArg List.length (notNull_names cs k)
  simpa using this
theorem notNull_good {cs : List Cl} {k : Int} (h : ∀ c ∈ cs, colBad c = false) : ∀ c ∈ notNullAt cs k, colBad c = false := by
  unfold notNullAt
  split
  · rename_i c hc
    intro d hd
    rcases List.mem_or_eq_of_mem_set hd with hd | rfl
    · exact h d hd
    · exact h c (List.mem_of_getElem? hc)
  · exact h
theorem notNull_at {cs : List Cl} {k : Int} {c : Cl} (h : cs[k.toNat]? = some c) : (notNullAt cs k)[k.toNat]?.map (·.notNull) = some true := by
  unfold notNullAt
  rw [h]
  simp only
  obtain ⟨hk, _⟩ := List.getElem?_eq_some_iff.1 h
  simp [hk]
/-- what a statement that may be says of the table that it makes -/
structure MkOk (x : Sm) : Prop where
  name : nameL x.table = true
  one : 1 ≤ x.columns.length
  few : x.columns.length ≤ 8
  cols : ∀ c ∈ x.columns, colBad c = false
theorem may_new {x : Sm} (h : MkOk x) (h1 : twG x.columns 0 x.columns = false) (h2 : (colF x.columns x.key).2 = 0) : mayF ⟨x.table, notNullAt x.columns (colF x.columns x.key).1, (colF x.columns x.key).1, []⟩ = true := by
  obtain ⟨c, hc, _, h3, h4⟩ := colF_find h2
  have h5 := notNull_at hc
  have := h.one
  have := h.few
  unfold mayF
  rw [if_neg]
  · simp only [ixsF, Bool.and_true]
    exact colsF_of (notNull_good h.cols) (by rw [notNull_names]; simpa using cols_nodup h1)
  · simp only [h.name, h5, notNull_len, List.length_nil]
    simp only [Bool.true_eq_false, ne_eq, not_true_eq_false, or_false, false_or]
    omega
/-- what making a table makes -/
theorem create_law {ts : List Tb} {x : Sm} (hm : x.kind = 1 → checkF x = 0 → MkOk x) : ((createF ts x).2 ≠ 0 → (createF ts x).1 = []) ∧ ((createF ts x).2 = 0 → ∃ l1 l2 t, ts = l1 ++ l2 ∧ (createF ts x).1 = l1 ++ t :: l2 ∧ t.name = x.table ∧ CatOk (l1 ++ t :: l2) ∧ CatOk ts ∧ tis_ ts x.table = false ∧ 1 ≤ x.columns.length ∧
    t = ⟨x.table, notNullAt x.columns (colF x.columns x.key).1, (colF x.columns x.key).1, []⟩ ∧ (colF x.columns x.key).2 = 0) := by
  unfold createF
  split
  · exact ⟨fun _ => rfl, fun h => absurd h ‹_›⟩
  · rename_i g1
    split
    · exact ⟨fun _ => rfl, fun h => by simp at h⟩
    · rename_i g2
      split
      · exact ⟨fun _ => rfl, fun h => by simp at h⟩
      · rename_i g3
        split
        · exact ⟨fun _ => rfl, fun h => by simp at h⟩
        · rename_i g4
          split
          · rename_i g5
            exact ⟨fun _ => rfl, fun h => absurd h g5⟩
          · rename_i g5
            split
            · exact ⟨fun _ => rfl, fun h => by simp at h⟩
            · rename_i g6
              refine ⟨fun h => absurd rfl h, fun _ => ?_⟩
              have hok := catCheck_zero.1 (Classical.not_not.1 g1)
              have hk : x.kind = 1 := Classical.not_not.1 fun h => g2 (.inl h)
              have hc : checkF x = 0 := Classical.not_not.1 fun h => g2 (.inr h)
              have g4' : twG x.columns 0 x.columns = false := by simpa using g4
              have g5' : (colF x.columns x.key).2 = 0 := Classical.not_not.1 g5
              have hnew := may_new (hm hk hc) g4' g5'
              obtain ⟨l1, l2, e, hat, a1, h2⟩ := tis_split hok.rise x.table
              rcases h2 with ⟨h2, _⟩ | ⟨h2, a2⟩
              · exact absurd h2 g3
              · refine ⟨l1, l2, _, e, ?_, rfl, ?_, hok, h2, (hm hk hc).one, rfl, g5'⟩
                · simp only
                  rw [hat, e, List.take_left, List.drop_left, List.append_assoc]; rfl
                · obtain ⟨b1, b2, b3, b4⟩ := hok
                  subst e
                  refine ⟨?_, ?_, ?_, ?_⟩
                  · simp at b1 g6 ⊢; omega
                  · intro t ht
                    rcases List.mem_append.1 ht with ht | ht
                    · exact b2 t (by simp [ht])
                    · rcases List.mem_cons.1 ht with rfl | ht
                      · exact hnew
                      · exact b2 t (by simp [ht])
                  · obtain ⟨p1, p2, p3⟩ := List.pairwise_append.1 b3
                    refine List.pairwise_append.2 ⟨p1, List.pairwise_cons.2 ⟨a2, p2⟩, fun a ha b hb => ?_⟩
                    rcases List.mem_cons.1 hb with rfl | hb
                    · exact a1 a ha
                    · exact p3 a ha b hb
                  · simpa [ixn] using b4
theorem drop_law {l1 l2 : List Tb} {t : Tb} (h : CatOk (l1 ++ t :: l2)) : findF (l1 ++ t :: l2) t.name = (((l1.length : Nat) : Int), 0) ∧ dropF (l1 ++ t :: l2) t.name = (l1 ++ l2, 0) := by
  obtain ⟨h1, h2⟩ := tis_there h.rise
  have hf : findF (l1 ++ t :: l2) t.name = (((l1.length : Nat) : Int), 0) := by
    unfold findF
    rw [if_neg (by simp [catCheck_zero.2 h]), if_neg (by simp [h1]), h2]
  refine ⟨hf, ?_⟩
  unfold dropF
  rw [hf]
  simp only [ne_eq, not_true_eq_false, if_false, Int.toNat_natCast, List.take_left]
  rw [show l1 ++ t :: l2 = (l1 ++ [t]) ++ l2 by simp, List.drop_left' (by simp)]
theorem find_none {ts : List Tb} {x : Tx} (h : CatOk ts) (h2 : tis_ ts x = false) : findF ts x = (0, 93) := by
  unfold findF
  rw [if_neg (by simp [catCheck_zero.2 h]), if_pos h2]
theorem ixsF_of {n : Int} : ∀ {xs : List Ix} {seen : List Tx} {y : Ix}, ixsF n seen xs = true → y.name ∉ seen → y.name ∉ xs.map (·.name) → nameL y.name = true → 0 ≤ y.at_ → y.at_ < n → ixsF n seen (xs ++ [y]) = true
  | [], seen, y, _, h1, _, h3, h4, h5 => by
    simp only [List.nil_append, ixsF]
    rw [if_neg (by simp [h1, h3]; omega)]
  | x :: xs, seen, y, h, h1, h2, h3, h4, h5 => by
    rw [List.cons_append]
    rw [ixsF] at h ⊢
    split at h
    · cases h
    · rename_i hc
      rw [if_neg hc]
      simp only [List.map_cons, List.mem_cons, not_or] at h2
      exact ixsF_of h (by simp [h1, h2.1]) h2.2 h3 h4 h5
theorem may_add {t : Tb} {y : Ix} (h : mayF t = true) (h1 : y.name ∉ t.indexes.map (·.name)) (h2 : nameL y.name = true) (h3 : 0 ≤ y.at_) (h4 : y.at_ < t.columns.length) (h5 : (t.indexes.length : Int) ≠ 4) : mayF { t with indexes := t.indexes ++ [y] } = true := by
  unfold mayF at h ⊢
  split at h
  · cases h
  · rename_i hc
    rw [Bool.and_eq_true] at h
    have hc' : ¬ (nameL t.name = false ∨ (t.columns.length : Int) < 1 ∨ 8 < (t.columns.length : Int) ∨ 4 < ((t.indexes ++ [y]).length : Int) ∨ ¬ (0 ≤ t.key ∧ t.key < t.columns.length) ∨ ((t.columns[t.key.toNat]?).map (·.notNull)) ≠ some true) := by
      simp only [not_or] at hc ⊢
      obtain ⟨c1, c2, c3, c4, c5⟩ := hc
      exact ⟨c1, c2, c3, by simp; omega, c5⟩
    rw [if_neg hc', Bool.and_eq_true]
    exact ⟨h.1, ixsF_of h.2 (by simp) h1 h2 h3 h4⟩
/-- what an index more makes -/
theorem add_law {ts : List Tb} {x : Sm} (hm : x.kind = 2 → checkF x = 0 → nameL x.index = true) : ((addF ts x).2 ≠ 0 → (addF ts x).1 = []) ∧ ((addF ts x).2 = 0 → CatOk (addF ts x).1 ∧ anyIx (addF ts x).1 x.index = true ∧ x.kind = 2) := by
  unfold addF
  split
  · exact ⟨fun _ => rfl, fun h => absurd h ‹_›⟩
  · rename_i g1
    split
    · exact ⟨fun _ => rfl, fun h => by simp at h⟩
    · rename_i g2
      split
      · exact ⟨fun _ => rfl, fun h => by simp at h⟩
      · rename_i g3
        split
        · rename_i g4
          exact ⟨fun _ => rfl, fun h => absurd h g4⟩
        · rename_i g4
          split
          · exact ⟨fun _ => rfl, fun h => by simp at h⟩
          · rename_i g5
            split
            · exact ⟨fun _ => rfl, fun h => by simp at h⟩
            · rename_i g6
              refine ⟨fun h => absurd rfl h, fun _ => ?_⟩
              have hok := catCheck_zero.1 (Classical.not_not.1 g1)
              have hk : x.kind = 2 := Classical.not_not.1 fun h => g2 (.inl h)
              have hc : checkF x = 0 := Classical.not_not.1 fun h => g2 (.inr h)
              obtain ⟨l1, l2, e, hat, a1, h2⟩ := tis_split hok.rise x.table
              rcases h2 with ⟨h2, t, l3, rfl, h3, a2⟩ | ⟨h2, a2⟩
              · subst e
                have hg : (l1 ++ t :: l3).getD l1.length tb0 = t := by
                  rw [List.getD_eq_getElem?_getD, List.getElem?_append_right (Nat.le_refl _), Nat.sub_self]; rfl
                rw [hat, hg] at g4 g6 ⊢
                have hs : ∀ u, (l1 ++ t :: l3).set l1.length u = l1 ++ u :: l3 := by
                  intro u
                  rw [List.set_append_right _ _ (Nat.le_refl _), Nat.sub_self]; rfl
                simp only [hs]
                obtain ⟨c, _, _, c1, c2⟩ := colF_find (Classical.not_not.1 g4)
                have hany : ∀ u ∈ l1 ++ t :: l3, ∀ y ∈ u.indexes, y.name ≠ x.index := by
                  intro u hu y hy e
                  exact g5 (List.any_eq_true.2 ⟨u, hu, List.any_eq_true.2 ⟨y, hy, by simpa using e⟩⟩)
                have hnot : x.index ∉ ixn (l1 ++ t :: l3) := by
                  intro h
                  obtain ⟨u, hu, h⟩ := List.mem_flatMap.1 h
                  obtain ⟨y, hy, h⟩ := List.mem_map.1 h
                  exact hany u hu y hy h
                have hmay := may_add (y := ⟨x.index, (colF t.columns x.key).1⟩) (hok.may t (by simp)) (fun h => by
                  obtain ⟨y, hy, h⟩ := List.mem_map.1 h
                  exact hany t (by simp) y hy h) (hm hk hc) c1 c2 g6
                obtain ⟨b1, b2, b3, b4⟩ := hok
                refine ⟨⟨?_, ?_, ?_, ?_⟩, ?_, hk⟩
                · simp at b1 ⊢; omega
                · intro u hu
                  rcases List.mem_append.1 hu with hu | hu
                  · exact b2 u (by simp [hu])
                  · rcases List.mem_cons.1 hu with rfl | hu
                    · exact hmay
                    · exact b2 u (by simp [hu])
                · obtain ⟨p1, p2, p3⟩ := List.pairwise_append.1 b3
                  obtain ⟨p4, p5⟩ := List.pairwise_cons.1 p2
                  refine List.pairwise_append.2 ⟨p1, List.pairwise_cons.2 ⟨p4, p5⟩, fun a ha b hb => ?_⟩
                  rcases List.mem_cons.1 hb with rfl | hb
                  · exact p3 a ha t (by simp)
                  · exact p3 a ha b (by simp [hb])
                · have e1 : ixn (l1 ++ { t with indexes := t.indexes ++ [⟨x.index, (colF t.columns x.key).1⟩] } :: l3) = (ixn l1 ++ t.indexes.map (·.name)) ++ x.index :: ixn l3 := by simp [ixn]
                  have e2 : ixn (l1 ++ t :: l3) = (ixn l1 ++ t.indexes.map (·.name)) ++ ixn l3 := by simp [ixn]
                  rw [e2] at b4 hnot
                  rw [e1]
                  obtain ⟨q1, q2, q3⟩ := List.nodup_append.1 b4
                  simp only [List.mem_append, not_or] at hnot
                  refine List.nodup_append.2 ⟨q1, List.nodup_cons.2 ⟨hnot.2, q2⟩, fun a ha b hb => ?_⟩
                  rcases List.mem_cons.1 hb with rfl | hb
                  · intro e; subst e
                    rcases List.mem_append.1 ha with ha | ha
                    · exact hnot.1.1 ha
                    · exact hnot.1.2 ha
                  · exact q3 a ha b hb
                · unfold anyIx
                  simp
              · rw [h2] at g3; exact absurd rfl g3
/-! what a statement that may be says -/
theorem shape_of {x : Sm} (hc : checkF x = 0) : shapeF x = true := by
  unfold checkF at hc
  split at hc
  · omega
  · split at hc
    · omega
    · rename_i h; simpa using h
theorem mk_ok {x : Sm} (hk : x.kind = 1) (hc : checkF x = 0) : MkOk x := by
  have h := shape_of hc
  simp only [shapeF, Bool.and_eq_true] at h
  obtain ⟨⟨⟨⟨⟨⟨⟨⟨⟨⟨⟨⟨⟨⟨⟨⟨c1, c2⟩, c3⟩, c4⟩, c5⟩, c6⟩, c7⟩, c8⟩, c9⟩, c10⟩, c11⟩, c12⟩, c13⟩, c14⟩, c15⟩, c16⟩, c17⟩ := h
  simp only [hk, namedF, countF] at c1 c5
  refine ⟨by simpa using c1, ?_, ?_, ?_⟩
  · simp at c5; omega
  · simp at c5; omega
  · simpa only [Bool.not_eq_true', List.any_eq_false, Bool.not_eq_true] using c14
theorem ix_ok {x : Sm} (hk : x.kind = 2) (hc : checkF x = 0) : nameL x.index = true := by
  have h := shape_of hc
  simp only [shapeF, Bool.and_eq_true] at h
  obtain ⟨⟨⟨⟨⟨⟨⟨⟨⟨⟨⟨⟨⟨⟨⟨⟨c1, c2⟩, c3⟩, c4⟩, c5⟩, c6⟩, c7⟩, c8⟩, c9⟩, c10⟩, c11⟩, c12⟩, c13⟩, c14⟩, c15⟩, c16⟩, c17⟩ := h
  simp only [hk, namedF] at c3
  simpa using c3

/-! how large -/
theorem colF_rng {cs : List Cl} (h : cs.length ≤ 1048576) (x : Tx) : rng (colF cs x).1 := by
  unfold rng
  by_cases h2 : (colF cs x).2 = 0
  · obtain ⟨_, _, _, a, b⟩ := colF_find h2
    omega
  · unfold colF at h2 ⊢
    split
    · simp
    · rename_i h3; rw [if_neg h3] at h2; exact absurd rfl h2
theorem create_bd {ts : List Tb} {x : Sm} (ht : CBd ts) (hx : SBd x) (h : (createF ts x).2 = 0) : CBd (createF ts x).1 := by
  obtain ⟨l1, l2, t, e, h1, _, h2, _, _, _, h3, _⟩ := (create_law (x := x) (ts := ts) mk_ok).2 h
  rw [h1]
  have := h2.len
  refine ⟨by simp at this ⊢; omega, fun u hu => ?_⟩
  have hn : ∀ c ∈ notNullAt x.columns (colF x.columns x.key).1, c.name.length ≤ 1048576 := by
    unfold notNullAt
    split
    · rename_i c hc
      intro d hd
      rcases List.mem_or_eq_of_mem_set hd with hd | rfl
      · exact hx.col d hd
      · exact hx.col c (List.mem_of_getElem? hc)
    · exact hx.col
  rcases List.mem_append.1 hu with hu | hu
  · exact ht.rg u (by rw [e]; simp [hu])
  · rcases List.mem_cons.1 hu with rfl | hu
    · rw [h3]
      refine ⟨⟨hx.table, ⟨by simp only [notNull_len]; exact hx.cols, hn⟩, ⟨by simp, by simp⟩⟩, ?_, by simp⟩
      exact colF_rng hx.cols _
    · exact ht.rg u (by rw [e]; simp [hu])
theorem add_bd {ts : List Tb} {x : Sm} (ht : CBd ts) (hx : SBd x) (h : (addF ts x).2 = 0) : CBd (addF ts x).1 := by
  have hl := (add_law (x := x) (ts := ts) ix_ok).2 h
  have key : (addF ts x).1 = ts.set (tpl_ ts x.table) { ts.getD (tpl_ ts x.table) tb0 with indexes := (ts.getD (tpl_ ts x.table) tb0).indexes ++ [⟨x.index, (colF (ts.getD (tpl_ ts x.table) tb0).columns x.key).1⟩] } ∧ catCheckF ts = 0 ∧ tis_ ts x.table = true := by
    unfold addF at h ⊢
    split at h
    · rename_i g; exact absurd h g
    · rename_i g1
      rw [if_neg g1]
      split at h
      · simp at h
      · rename_i g2
        rw [if_neg g2]
        split at h
        · simp at h
        · rename_i g3
          rw [if_neg g3]
          split at h
          · rename_i g; exact absurd h g
          · rename_i g4
            rw [if_neg g4]
            split at h
            · simp at h
            · rename_i g5
              rw [if_neg g5]
              split at h
              · simp at h
              · rename_i g6
                rw [if_neg g6]
                exact ⟨rfl, Classical.not_not.1 g1, by simpa using g3⟩
  obtain ⟨k1, k2, k3⟩ := key
  have hok := catCheck_zero.1 k2
  have hlt : tpl_ ts x.table < ts.length := by
    unfold tis_ at k3
    simp only [Bool.and_eq_true, decide_eq_true_eq] at k3
    exact k3.1
  have hmem : ts.getD (tpl_ ts x.table) tb0 ∈ ts := by
    rw [List.getD_eq_getElem?_getD, List.getElem?_eq_getElem hlt]; exact List.getElem_mem _
  have hr := ht.rg _ hmem
  have h4 := may_ixs (hok.may _ hmem)
  rw [k1]
  refine ⟨by simpa using ht.len, fun u hu => ?_⟩
  rcases List.mem_or_eq_of_mem_set hu with hu | rfl
  · exact ht.rg u hu
  · refine ⟨⟨hr.bd.name, hr.bd.col, ⟨by rw [List.length_append]; simp only [List.length_cons, List.length_nil]; omega, fun c hc => ?_⟩⟩, hr.key, fun c hc => ?_⟩
    · rcases List.mem_append.1 hc with hc | hc
      · exact hr.bd.ind.2 c hc
      · simp at hc; subst hc; exact hx.index
    · rcases List.mem_append.1 hc with hc | hc
      · exact hr.ind c hc
      · simp at hc; subst hc; exact colF_rng hr.bd.col.1 _
end Go.Proofs.Ytlhnncmflnjinaa
