/- Rows in order: the plain laws of inserting and removing. No program here. -/
import Derived.Test.YtlhnncmflnjinaaFb
import Derived.Sort.Walk0
set_option linter.unusedSimpArgs false
set_option linter.unusedVariables false
set_option maxRecDepth 100000
namespace Go.Proofs.Ytlhnncmflnjinaa
open Go Go.RowKit Am

/-! values in order -/
theorem cmpI_neg {a b : Int} : cmpI a b < 0 ↔ a < b := by unfold cmpI; split <;> (try split) <;> omega
theorem cmpI_zero {a b : Int} : cmpI a b = 0 ↔ a = b := by unfold cmpI; split <;> (try split) <;> omega
theorem cmpS_neg {a b : Tx} : cmpS a b < 0 ↔ a < b := by
  unfold cmpS; rw [bytesLess_eq]
  by_cases h : a < b
  · simp [h]
  · by_cases e : a = b
    · subst e; simp [h]
    · simp [h, e]
theorem cmpS_zero {a b : Tx} : cmpS a b = 0 ↔ a = b := by
  unfold cmpS; rw [bytesLess_eq]
  by_cases h : a < b
  · have : a ≠ b := fun e => by subst e; exact List.lt_irrefl _ h
    simp [h, this]
  · by_cases e : a = b <;> simp [h, e]
/-- what counts of a value -/
def okey (v : Vl) : Int × Int × Tx := (v.kind, (if v.kind = 1 ∨ v.kind = 2 then v.n else 0), (if v.kind = 3 then v.text else []))
def klt (a b : Int × Int × Tx) : Prop := a.1 < b.1 ∨ a.1 = b.1 ∧ (a.2.1 < b.2.1 ∨ a.2.1 = b.2.1 ∧ a.2.2 < b.2.2)
theorem klt_irrefl (a : Int × Int × Tx) : ¬ klt a a := by
  rintro (h | ⟨_, h | ⟨_, h⟩⟩)
  · omega
  · omega
  · exact List.lt_irrefl _ h
theorem klt_trans {a b c : Int × Int × Tx} (h1 : klt a b) (h2 : klt b c) : klt a c := by
  rcases h1 with h1 | ⟨e1, h1 | ⟨f1, h1⟩⟩ <;> rcases h2 with h2 | ⟨e2, h2 | ⟨f2, h2⟩⟩
  · exact .inl (by omega)
  · exact .inl (by omega)
  · exact .inl (by omega)
  · exact .inl (by omega)
  · exact .inr ⟨by omega, .inl (by omega)⟩
  · exact .inr ⟨by omega, .inl (by omega)⟩
  · exact .inl (by omega)
  · exact .inr ⟨by omega, .inl (by omega)⟩
  · exact .inr ⟨by omega, .inr ⟨by omega, List.lt_trans h1 h2⟩⟩
theorem klt_total {a b : Int × Int × Tx} (h1 : ¬ klt a b) (h2 : a ≠ b) : klt b a := by
  obtain ⟨a1, a2, a3⟩ := a
  obtain ⟨b1, b2, b3⟩ := b
  by_cases e1 : a1 = b1
  · by_cases e2 : a2 = b2
    · refine .inr ⟨e1.symm, .inr ⟨e2.symm, ?_⟩⟩
      have h3 : ¬ a3 < b3 := fun h => h1 (.inr ⟨e1, .inr ⟨e2, h⟩⟩)
      have h4 : a3 ≠ b3 := fun h => h2 (by rw [e1, e2, h])
      have h5 : b3 ≤ a3 := List.not_lt.1 h3
      rcases List.le_iff_lt_or_eq.1 h5 with h | h
      · exact h
      · exact absurd h.symm h4
    · have : ¬ a2 < b2 := fun h => h1 (.inr ⟨e1, .inl h⟩)
      exact .inr ⟨e1.symm, .inl (show b2 < a2 by omega)⟩
  · have : ¬ a1 < b1 := fun h => h1 (.inl h)
    exact .inl (show b1 < a1 by omega)
theorem order_neg {a b : Vl} : orderF a b < 0 ↔ klt (okey a) (okey b) := by
  have hk := @cmpI_neg a.kind b.kind
  have hz := @cmpI_zero a.kind b.kind
  unfold orderF
  by_cases h0 : cmpI a.kind b.kind = 0
  · have e := hz.1 h0
    rw [if_neg (by simp [h0])]
    simp only [klt, okey, ← e]
    by_cases h1 : a.kind = 1 ∨ a.kind = 2
    · have : a.kind ≠ 3 := by omega
      simp only [if_pos h1, if_neg this, cmpI_neg]
      constructor
      · exact fun h => .inr ⟨trivial, .inl h⟩
      · rintro (h | ⟨_, h | ⟨_, h⟩⟩)
        · omega
        · exact h
        · exact absurd h (List.lt_irrefl _)
    · simp only [if_neg h1]
      by_cases h3 : a.kind = 3
      · simp only [if_pos h3, cmpS_neg]
        constructor
        · exact fun h => .inr ⟨trivial, .inr ⟨trivial, h⟩⟩
        · rintro (h | ⟨_, h | ⟨_, h⟩⟩)
          · omega
          · omega
          · exact h
      · simp only [if_neg h3]
        constructor
        · intro h; omega
        · rintro (h | ⟨_, h | ⟨_, h⟩⟩)
          · omega
          · omega
          · exact absurd h (List.lt_irrefl _)
  · rw [if_pos h0, hk]
    simp only [klt, okey]
    constructor
    · exact .inl
    · rintro (h | ⟨h, _⟩)
      · exact h
      · exact absurd (hz.2 h) h0
theorem order_zero {a b : Vl} : orderF a b = 0 ↔ okey a = okey b := by
  have hz := @cmpI_zero a.kind b.kind
  unfold orderF
  by_cases h0 : cmpI a.kind b.kind = 0
  · have e := hz.1 h0
    rw [if_neg (by simp [h0])]
    simp only [okey, ← e, Prod.mk.injEq, true_and]
    by_cases h1 : a.kind = 1 ∨ a.kind = 2
    · have : a.kind ≠ 3 := by omega
      simp only [if_pos h1, if_neg this, cmpI_zero, and_true]
    · simp only [if_neg h1, true_and]
      by_cases h3 : a.kind = 3
      · simp only [if_pos h3, cmpS_zero]
      · simp only [if_neg h3]
  · rw [if_pos h0]
    simp only [okey, Prod.mk.injEq]
    constructor
    · exact fun h => absurd h h0
    · exact fun h => absurd (hz.2 h.1) h0

/-! the halving -/
def bsL (less : Nat → Bool) : Nat → Nat → Nat → Nat
  | 0, lo, _ => lo
  | f + 1, lo, hi => if lo < hi then (if less ((lo + hi) / 2) = true then bsL less f ((lo + hi) / 2 + 1) hi else bsL less f lo ((lo + hi) / 2)) else lo
theorem bsL_spec (less : Nat → Bool) (k : Nat) (h1 : ∀ t, t < k → less t = true) (h2 : ∀ t, k ≤ t → less t = false) : ∀ (f lo hi : Nat), hi - lo ≤ f → lo ≤ k → k ≤ hi → bsL less f lo hi = k
  | 0, lo, hi, hf, a, b => by simp only [bsL]; omega
  | f + 1, lo, hi, hf, a, b => by
    unfold bsL
    by_cases h : lo < hi
    · rw [if_pos h]
      by_cases hm : (lo + hi) / 2 < k
      · rw [h1 _ hm, if_pos rfl]; exact bsL_spec less k h1 h2 f _ _ (by omega) (by omega) b
      · rw [h2 _ (by omega), if_neg (by simp)]; exact bsL_spec less k h1 h2 f _ _ (by omega) a (by omega)
    · rw [if_neg h]; omega
theorem bsL_le (less : Nat → Bool) : ∀ (f lo hi : Nat), lo ≤ hi → bsL less f lo hi ≤ hi
  | 0, lo, hi, h => h
  | f + 1, lo, hi, h => by
    unfold bsL
    split
    · split
      · exact bsL_le less f _ _ (by omega)
      · exact Nat.le_trans (bsL_le less f _ _ (by omega)) (by omega)
    · exact h

/-! rows -/
abbrev Rw := List Vl
instance : Inhabited Vl := ⟨⟨0, 0, []⟩⟩
def kv (k : Nat) (r : Rw) : Vl := r.getD k default
/-- where a key stands, or would -/
def at_ (k : Nat) (l : List Rw) (x : Vl) : Nat := bsL (fun t => decide (orderF (kv k (l.getD t [])) x < 0)) l.length 0 l.length
def is_ (k : Nat) (l : List Rw) (x : Vl) : Bool := decide (at_ k l x < l.length) && decide (orderF (kv k (l.getD (at_ k l x) [])) x = 0)
theorem at_le (k : Nat) (l : List Rw) (x : Vl) : at_ k l x ≤ l.length := bsL_le _ _ _ _ (Nat.zero_le _)
/-- the keys rise -/
def Rise (k : Nat) (l : List Rw) : Prop := l.Pairwise fun a b => klt (okey (kv k a)) (okey (kv k b))
theorem at_split {k : Nat} {l1 l2 : List Rw} {x : Vl} (h1 : ∀ r ∈ l1, klt (okey (kv k r)) (okey x)) (h2 : ∀ r ∈ l2, ¬ klt (okey (kv k r)) (okey x)) (hx : ¬ klt (okey (kv k [])) (okey x) ∨ True) : at_ k (l1 ++ l2) x = l1.length := by
  have key : ∀ less : Nat → Bool, (∀ t, t < l1.length → less t = true) → (∀ t, l1.length ≤ t → t < (l1 ++ l2).length → less t = false) → bsL less (l1 ++ l2).length 0 (l1 ++ l2).length = l1.length := by
    intro less a1 a2
    have : ∀ (f lo hi : Nat), hi - lo ≤ f → lo ≤ l1.length → l1.length ≤ hi → hi ≤ (l1 ++ l2).length → bsL less f lo hi = l1.length := by
      intro f
      induction f with
      | zero => intro lo hi _ _ _ _; simp only [bsL]; omega
      | succ f ih =>
        intro lo hi hf a b c
        unfold bsL
        by_cases h : lo < hi
        · rw [if_pos h]
          by_cases hm : (lo + hi) / 2 < l1.length
          · rw [a1 _ hm, if_pos rfl]; exact ih _ _ (by omega) (by omega) b c
          · rw [a2 _ (by omega) (by omega), if_neg (by simp)]; exact ih _ _ (by omega) a (by omega) (by omega)
        · rw [if_neg h]; omega
    exact this _ _ _ (by omega) (Nat.zero_le _) (by simp) (Nat.le_refl _)
  refine key _ (fun t ht => ?_) (fun t ht ht2 => ?_)
  · have hg : (l1 ++ l2).getD t [] = l1[t] := by
      rw [List.getD_eq_getElem?_getD, List.getElem?_append_left ht, List.getElem?_eq_getElem ht]; rfl
    simp only [hg, decide_eq_true_eq]
    exact order_neg.2 (h1 _ (List.getElem_mem _))
  · have hlt : t - l1.length < l2.length := by simp at ht2; omega
    have hg : (l1 ++ l2).getD t [] = l2[t - l1.length] := by
      rw [List.getD_eq_getElem?_getD, List.getElem?_append_right ht, List.getElem?_eq_getElem hlt]; rfl
    simp only [hg, decide_eq_false_iff_not]
    exact fun h => h2 _ (List.getElem_mem _) (order_neg.1 h)
/-- of rows that rise: what is ahead of a key, the row that has it, or none, and what is behind -/
theorem rise_split {k : Nat} : ∀ {l : List Rw} (_ : Rise k l) (x : Vl), ∃ l1 l2, l = l1 ++ l2 ∧ (∀ r ∈ l1, klt (okey (kv k r)) (okey x)) ∧ (∀ r ∈ l2, ¬ klt (okey (kv k r)) (okey x)) ∧ (∀ r ∈ l2.drop 1, klt (okey x) (okey (kv k r)))
  | [], _, x => ⟨[], [], rfl, by simp, by simp, by simp⟩
  | a :: l, h, x => by
    obtain ⟨ha, hl⟩ := List.pairwise_cons.1 h
    by_cases e : klt (okey (kv k a)) (okey x)
    · obtain ⟨l1, l2, rfl, b1, b2, b3⟩ := rise_split hl x
      exact ⟨a :: l1, l2, rfl, fun r hr => (List.mem_cons.1 hr).elim (fun h => h ▸ e) (b1 r), b2, b3⟩
    · have hb : ∀ r ∈ l, klt (okey x) (okey (kv k r)) := by
        intro r hr
        by_cases e2 : okey (kv k a) = okey x
        · rw [← e2]; exact ha r hr
        · exact klt_trans (klt_total e e2) (ha r hr)
      refine ⟨[], a :: l, rfl, by simp, fun r hr => ?_, by simpa using hb⟩
      rcases List.mem_cons.1 hr with rfl | hr
      · exact e
      · exact fun h2 => klt_irrefl _ (klt_trans h2 (hb r hr))
/-- what the halving tells of rows that rise -/
theorem is_split {k : Nat} {l : List Rw} (h : Rise k l) (x : Vl) : ∃ l1 l2, l = l1 ++ l2 ∧ at_ k l x = l1.length ∧ (∀ r ∈ l1, klt (okey (kv k r)) (okey x)) ∧
    ((is_ k l x = true ∧ ∃ r l3, l2 = r :: l3 ∧ okey (kv k r) = okey x ∧ ∀ r ∈ l3, klt (okey x) (okey (kv k r))) ∨ (is_ k l x = false ∧ ∀ r ∈ l2, klt (okey x) (okey (kv k r)))) := by
  obtain ⟨l1, l2, rfl, h1, h2, h3⟩ := rise_split h x
  have hat := at_split h1 h2 (.inr trivial)
  refine ⟨l1, l2, rfl, hat, h1, ?_⟩
  unfold is_
  rw [hat]
  cases l2 with
  | nil => exact .inr ⟨by simp, by simp⟩
  | cons r l3 =>
    have hg : (l1 ++ r :: l3).getD l1.length [] = r := by
      rw [List.getD_eq_getElem?_getD, List.getElem?_append_right (Nat.le_refl _), Nat.sub_self]; rfl
    rw [hg]
    by_cases e : okey (kv k r) = okey x
    · refine .inl ⟨by simp [order_zero.2 e], r, l3, rfl, e, by simpa using h3⟩
    · have hn : ¬ orderF (kv k r) x = 0 := fun h => e (order_zero.1 h)
      refine .inr ⟨by simp [hn], fun r' hr' => ?_⟩
      rcases List.mem_cons.1 hr' with rfl | hr'
      · exact klt_total (h2 _ (by simp)) e
      · exact h3 r' (by simpa using hr')
theorem rise_mid {k : Nat} {l1 l2 : List Rw} {r : Rw} (h : Rise k (l1 ++ l2)) (h1 : ∀ a ∈ l1, klt (okey (kv k a)) (okey (kv k r))) (h2 : ∀ a ∈ l2, klt (okey (kv k r)) (okey (kv k a))) : Rise k (l1 ++ r :: l2) := by
  obtain ⟨p1, p2, p3⟩ := List.pairwise_append.1 h
  refine List.pairwise_append.2 ⟨p1, List.pairwise_cons.2 ⟨h2, p2⟩, fun a ha b hb => ?_⟩
  rcases List.mem_cons.1 hb with rfl | hb
  · exact h1 a ha
  · exact p3 a ha b hb
theorem rise_cut {k : Nat} {l1 l2 : List Rw} {r : Rw} (h : Rise k (l1 ++ r :: l2)) : Rise k (l1 ++ l2) := by
  obtain ⟨p1, p2, p3⟩ := List.pairwise_append.1 h
  exact List.pairwise_append.2 ⟨p1, (List.pairwise_cons.1 p2).2, fun a ha b hb => p3 a ha b (List.mem_cons_of_mem _ hb)⟩

/-! what the program makes of rows -/
/-- rows more: what they are, and an error's number -/
def insF (cs : List Cl) (k : Nat) : List Rw → List Rw → List Rw × Int
  | acc, [] => (acc, 0)
  | acc, r :: rs => if fitsF cs r ≠ 0 then (acc, fitsF cs r) else if is_ k acc (kv k r) = true then (acc, 87) else if acc.length = 256 then (acc, 51)
      else insF cs k (acc.take (at_ k acc (kv k r)) ++ [r] ++ acc.drop (at_ k acc (kv k r))) rs
/-- rows less -/
def remF (k : Nat) : List Rw → List Vl → List Rw × Int
  | acc, [] => (acc, 0)
  | acc, x :: xs => if is_ k acc x = false then (acc, 71) else remF k (acc.take (at_ k acc x) ++ acc.drop (at_ k acc x + 1)) xs
/-- do the keys rise? -/
def adjF (k : Nat) : List Rw → Bool
  | a :: b :: l => decide (orderF (kv k a) (kv k b) < 0) && adjF k (b :: l)
  | _ => true
def fitsAll (cs : List Cl) : List Rw → Int
  | [] => 0
  | r :: l => if fitsF cs r ≠ 0 then fitsF cs r else fitsAll cs l
def rowsF (t : Tb) (l : List Rw) : Int := if 256 < l.length then 3 else if mayF t = false then 9 else if fitsAll t.columns l ≠ 0 then fitsAll t.columns l else if adjF t.key.toNat l = false then 9 else 0
def changeF (t : Tb) (l : List Rw) (d : List Rw → List Rw × Int) : List Rw × Int := if rowsF t l ≠ 0 then ([], rowsF t l) else if (d l).2 ≠ 0 then ([], (d l).2) else ((d l).1, 0)
def insertF (t : Tb) (l rows : List Rw) : List Rw × Int := changeF t l fun a => insF t.columns t.key.toNat a rows
def deleteF (t : Tb) (l : List Rw) (keys : List Vl) : List Rw × Int := changeF t l fun a => remF t.key.toNat a keys
def updateF (t : Tb) (l : List Rw) (keys : List Vl) (rows : List Rw) : List Rw × Int := changeF t l fun a => if keys.length ≠ rows.length then (a, 3) else if (remF t.key.toNat a keys).2 ≠ 0 then remF t.key.toNat a keys else insF t.columns t.key.toNat (remF t.key.toNat a keys).1 rows
theorem adj_rise {k : Nat} : ∀ {l : List Rw}, adjF k l = true ↔ Rise k l
  | [] => by simp [adjF, Rise]
  | [a] => by simp [adjF, Rise]
  | a :: b :: l => by
    rw [adjF, Bool.and_eq_true, decide_eq_true_eq, order_neg, adj_rise (l := b :: l)]
    unfold Rise
    rw [List.pairwise_cons (a := a)]
    constructor
    · rintro ⟨h1, h2⟩
      refine ⟨fun c hc => ?_, h2⟩
      rcases List.mem_cons.1 hc with rfl | hc
      · exact h1
      · exact klt_trans h1 ((List.pairwise_cons.1 h2).1 c hc)
    · exact fun ⟨h1, h2⟩ => ⟨h1 b (by simp), h2⟩
theorem fitsAll_zero {cs : List Cl} : ∀ {l : List Rw}, fitsAll cs l = 0 ↔ ∀ r ∈ l, fitsF cs r = 0
  | [] => by simp [fitsAll]
  | a :: l => by
    rw [fitsAll]
    by_cases h : fitsF cs a = 0
    · rw [if_neg (by simp [h]), fitsAll_zero (l := l)]; simp [h]
    · rw [if_pos h]; simp [h]
/-- rows that may be -/
structure Okr (t : Tb) (l : List Rw) : Prop where
  len : l.length ≤ 256
  may : mayF t = true
  fit : ∀ r ∈ l, fitsF t.columns r = 0
  rise : Rise t.key.toNat l
theorem rowsF_zero {t : Tb} {l : List Rw} : rowsF t l = 0 ↔ Okr t l := by
  unfold rowsF
  constructor
  · intro h
    split at h
    · omega
    · rename_i h1
      split at h
      · omega
      · rename_i h2
        split at h
        · rename_i h3; exact absurd h h3
        · rename_i h3
          split at h
          · omega
          · rename_i h4
            exact ⟨by omega, by simpa using h2, fitsAll_zero.1 (by simpa using h3), adj_rise.1 (by simpa using h4)⟩
  · rintro ⟨h1, h2, h3, h4⟩
    rw [if_neg (by omega), if_neg (by simp [h2]), if_neg (by simp [fitsAll_zero.2 h3]), if_neg (by simp [adj_rise.2 h4])]
/-- a row more, of rows that may be -/
theorem ins_one {t : Tb} {l : List Rw} {r : Rw} {rs : List Rw} (h : Okr t l) : (∃ e, e ≠ 0 ∧ ∀ rs, insF t.columns t.key.toNat l (r :: rs) = (l, e)) ∨
    ∃ l1 l2, l = l1 ++ l2 ∧ Okr t (l1 ++ r :: l2) ∧ fitsF t.columns r = 0 ∧ ∀ rs, insF t.columns t.key.toNat l (r :: rs) = insF t.columns t.key.toNat (l1 ++ r :: l2) rs := by
  by_cases h1 : fitsF t.columns r = 0
  · obtain ⟨l1, l2, e, hat, a1, h2⟩ := is_split h.rise (kv t.key.toNat r)
    rcases h2 with ⟨h2, _⟩ | ⟨h2, a2⟩
    · exact .inl ⟨87, by omega, fun rs => by rw [insF, if_neg (by simp [h1]), if_pos h2]⟩
    · by_cases h3 : l.length = 256
      · exact .inl ⟨51, by omega, fun rs => by rw [insF, if_neg (by simp [h1]), if_neg (by simp [h2]), if_pos h3]⟩
      · refine .inr ⟨l1, l2, e, ⟨?_, h.may, ?_, ?_⟩, h1, fun rs => ?_⟩
        · have := h.len; rw [e] at this h3; simp at this h3 ⊢; omega
        · intro r' hr'
          rcases List.mem_append.1 hr' with hr' | hr'
          · exact h.fit r' (by rw [e]; simp [hr'])
          · rcases List.mem_cons.1 hr' with rfl | hr'
            · exact h1
            · exact h.fit r' (by rw [e]; simp [hr'])
        · exact rise_mid (e ▸ h.rise) a1 a2
        · rw [insF, if_neg (by simp [h1]), if_neg (by simp [h2]), if_neg h3, hat, e, List.take_left, List.drop_left, List.append_assoc]; rfl
  · exact .inl ⟨_, h1, fun rs => by rw [insF, if_pos h1]⟩
/-- a row that is there -/
theorem is_there {k : Nat} {l1 l2 : List Rw} {r : Rw} {x : Vl} (h : Rise k (l1 ++ r :: l2)) (hx : okey (kv k r) = okey x) : is_ k (l1 ++ r :: l2) x = true ∧ at_ k (l1 ++ r :: l2) x = l1.length := by
  obtain ⟨p1, p2, p3⟩ := List.pairwise_append.1 h
  have a1 : ∀ a ∈ l1, klt (okey (kv k a)) (okey x) := fun a ha => hx ▸ p3 a ha r (by simp)
  have a2 : ∀ a ∈ r :: l2, ¬ klt (okey (kv k a)) (okey x) := fun a ha => by
    rcases List.mem_cons.1 ha with rfl | ha
    · rw [hx]; exact klt_irrefl _
    · exact fun h2 => klt_irrefl _ (klt_trans h2 (hx ▸ (List.pairwise_cons.1 p2).1 a ha))
  have hat := at_split a1 a2 (.inr trivial)
  refine ⟨?_, hat⟩
  unfold is_
  have hg : (l1 ++ r :: l2).getD l1.length [] = r := by
    rw [List.getD_eq_getElem?_getD, List.getElem?_append_right (Nat.le_refl _), Nat.sub_self]; rfl
  rw [hat, hg]
  simp [order_zero.2 hx]
/-- P9.2: a row whose key is there is refused; so are two of one key -/
theorem twice_law (t : Tb) (l : List Rw) (r : Rw) :
    ((insertF t l [r]).2 ≠ 0 → insertF t l [r, r] = ([], (insertF t l [r]).2)) ∧
    ((insertF t l [r]).2 = 0 → insertF t l [r, r] = ([], 87) ∧ insertF t (insertF t l [r]).1 [r] = ([], 87)) := by
  unfold insertF changeF
  by_cases h0 : rowsF t l = 0
  · have hO := rowsF_zero.1 h0
    simp only [h0, ne_eq, not_true_eq_false, if_false]
    rcases ins_one (r := r) (rs := []) hO with ⟨e, he, h1⟩ | ⟨l1, l2, hl, hO2, hf, h1⟩
    · rw [h1, h1]; simp [he]
    · have hz : insF t.columns t.key.toNat (l1 ++ r :: l2) [] = (l1 ++ r :: l2, 0) := rfl
      have his := (is_there hO2.rise (x := kv t.key.toNat r) rfl).1
      have h87 : ∀ rs, insF t.columns t.key.toNat (l1 ++ r :: l2) (r :: rs) = (l1 ++ r :: l2, 87) := fun rs => by
        rw [insF, if_neg (by simp [hf]), if_pos his]
      rw [h1, h1, hz, h87]
      simp only [not_true_eq_false, if_false, false_implies, true_and, true_implies]
      have h2 := rowsF_zero.2 hO2
      simp [h2, h87]
  · simp only [ne_eq, h0, not_false_eq_true, if_true, not_true_eq_false, false_implies, and_true, true_implies, implies_true]
/-- all rows more -/
theorem ins_all {t : Tb} : ∀ {rs l : List Rw}, Okr t l → (insF t.columns t.key.toNat l rs).2 = 0 → Okr t (insF t.columns t.key.toNat l rs).1 ∧ (insF t.columns t.key.toNat l rs).1.Perm (rs ++ l)
  | [], l, h, _ => ⟨h, .refl _⟩
  | r :: rs, l, h, h0 => by
    rcases ins_one (r := r) (rs := rs) h with ⟨e, he, h1⟩ | ⟨l1, l2, hl, hO2, hf, h1⟩
    · rw [h1] at h0; exact absurd h0 he
    · rw [h1] at h0 ⊢
      obtain ⟨g1, g2⟩ := ins_all hO2 h0
      refine ⟨g1, g2.trans ?_⟩
      rw [hl]
      have : (l1 ++ r :: l2).Perm (r :: (l1 ++ l2)) := List.perm_middle
      exact (this.append_left rs).trans (List.perm_middle.trans (.refl _))
theorem rise_key {k : Nat} : ∀ {l : List Rw} (_ : Rise k l) {a b : Rw}, a ∈ l → b ∈ l → okey (kv k a) = okey (kv k b) → a = b
  | c :: l, h, a, b, ha, hb, e => by
    obtain ⟨h1, h2⟩ := List.pairwise_cons.1 h
    rcases List.mem_cons.1 ha with ea | ha'
    · rcases List.mem_cons.1 hb with eb | hb'
      · rw [ea, eb]
      · subst ea; exact absurd (e ▸ h1 b hb') (klt_irrefl _)
    · rcases List.mem_cons.1 hb with eb | hb'
      · subst eb; exact absurd (e ▸ h1 a ha') (klt_irrefl _)
      · exact rise_key h2 ha' hb' e
theorem rise_perm {k : Nat} : ∀ {l m : List Rw}, Rise k l → Rise k m → l.Perm m → l = m
  | [], m, _, _, hp => (List.perm_nil.1 hp.symm).symm
  | a :: l, [], _, _, hp => absurd hp.length_eq (by simp)
  | a :: l, b :: m, h1, h2, hp => by
    have hab : a = b := by
      obtain ⟨p1, _⟩ := List.pairwise_cons.1 h1
      obtain ⟨p2, _⟩ := List.pairwise_cons.1 h2
      rcases List.mem_cons.1 (hp.mem_iff.1 (List.mem_cons_self (a := a) (l := l))) with e | e
      · exact e
      · rcases List.mem_cons.1 (hp.mem_iff.2 (List.mem_cons_self (a := b) (l := m))) with e' | e'
        · exact e'.symm
        · exact absurd (klt_trans (p2 a e) (p1 b e')) (klt_irrefl _)
    subst hab
    rw [rise_perm (List.pairwise_cons.1 h1).2 (List.pairwise_cons.1 h2).2 (List.Perm.cons_inv hp)]
/-- rows that are there, less -/
theorem rem_all {k : Nat} : ∀ {rs l a : List Rw}, Rise k a → a.Perm (rs ++ l) → Rise k l → remF k a (rs.map (kv k)) = (l, 0)
  | [], l, a, h1, h2, h3 => by
    rw [rise_perm h1 h3 h2]; rfl
  | r :: rs, l, a, h1, h2, h3 => by
    have hr : r ∈ a := h2.mem_iff.2 (by simp)
    obtain ⟨l1, l2, rfl⟩ := List.append_of_mem hr
    obtain ⟨g1, g2⟩ := is_there h1 (x := kv k r) rfl
    have hp : (l1 ++ l2).Perm (rs ++ l) := List.Perm.cons_inv (a := r) (List.perm_middle.symm.trans h2)
    rw [List.map_cons, remF, if_neg (by simp [g1]), g2, List.take_left, show (l1 ++ r :: l2).drop (l1.length + 1) = l2 by rw [List.drop_append]; simp]
    exact rem_all (rise_cut h1) hp h3
/-- P9.3, P9.4 -/
theorem may_law (t : Tb) (l more : List Rw) (h : (insertF t l more).2 = 0) : rowsF t (insertF t l more).1 = 0 ∧ (insertF t l more).1.length = l.length + more.length ∧
    (∀ r ∈ more, is_ t.key.toNat (insertF t l more).1 (kv t.key.toNat r) = true ∧ (insertF t l more).1[at_ t.key.toNat (insertF t l more).1 (kv t.key.toNat r)]? = some r) ∧
    (∀ r ∈ more, fitsF t.columns r = 0) ∧ deleteF t (insertF t l more).1 (more.map (kv t.key.toNat)) = (l, 0) := by
  have hO : Okr t l := by
    by_cases h0 : rowsF t l = 0
    · exact rowsF_zero.1 h0
    · unfold insertF changeF at h; rw [if_pos h0] at h; exact absurd h h0
  have h0 := rowsF_zero.2 hO
  have he : (insF t.columns t.key.toNat l more).2 = 0 := by
    unfold insertF changeF at h
    rw [if_neg (by simp [h0])] at h
    by_cases e : (insF t.columns t.key.toNat l more).2 = 0
    · exact e
    · rw [if_pos e] at h; exact h
  have hi : insertF t l more = ((insF t.columns t.key.toNat l more).1, 0) := by
    unfold insertF changeF
    rw [if_neg (by simp [h0]), if_neg (by simp [he])]
  obtain ⟨g1, g2⟩ := ins_all hO he
  rw [hi]
  generalize (insF t.columns t.key.toNat l more).1 = a at g1 g2
  have g0 := rowsF_zero.2 g1
  refine ⟨g0, by rw [g2.length_eq]; simp; omega, fun r hr => ?_, fun r hr => g1.fit r (g2.mem_iff.2 (by simp [hr])), ?_⟩
  · have hra : r ∈ a := g2.mem_iff.2 (by simp [hr])
    obtain ⟨l1, l2, rfl⟩ := List.append_of_mem hra
    obtain ⟨k1, k2⟩ := is_there g1.rise (x := kv t.key.toNat r) rfl
    refine ⟨k1, ?_⟩
    rw [k2, List.getElem?_append_right (Nat.le_refl _), Nat.sub_self]; rfl
  · unfold deleteF changeF
    simp only
    rw [if_neg (by simp [g0]), rem_all g1.rise g2 hO.rise]
    simp
end Go.Proofs.Ytlhnncmflnjinaa
