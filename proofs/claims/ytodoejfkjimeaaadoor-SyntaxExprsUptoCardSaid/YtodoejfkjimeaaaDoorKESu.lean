/- Packed by a program of this repo: Su. -/
import Derived.Test.YtodoejfkjimeaaaDoorKESp
import Derived.Test.YtodoejfkjimeaaaDoorKERg
set_option linter.unusedSimpArgs false
set_option linter.unusedVariables false
set_option maxRecDepth 100000
namespace Go.Proofs.YtodoejfkjimeaaaDoor
open Go Go.RowKit Am
def esc (b : UInt8) : Tx := if b = 39 then [39, 39] else [b]
theorem replaceK_esc : ∀ (s : List UInt8) (k : Nat), k = Lib.count s [39] → Lib.replaceK [39] [39, 39] k s = s.flatMap esc
  | [], k, h => by
    have h0 : Lib.count ([] : List UInt8) [39] = 0 := rfl
    rw [h0] at h; subst h; rfl
  | b :: l, k, h => by
    by_cases hb : b = 39
    · subst hb
      rw [Lib.count_cons_eq, Nat.add_comm] at h
      subst h
      have hix : Lib.index (39 :: l) [39] = ((0 : Nat) : Int) := by rw [Lib.index]; simp [List.isPrefixOf]
      rw [Lib.replaceK_hit _ _ _ _ 0 hix]
      simp only [List.take_zero, List.nil_append, Nat.zero_add, List.length_cons, List.length_nil, List.drop_succ_cons, List.drop_zero]
      rw [replaceK_esc l _ rfl]; rfl
    · rw [Lib.count_cons_ne _ _ _ hb] at h
      have he : (b :: l).flatMap esc = b :: l.flatMap esc := by rw [List.flatMap_cons, esc, if_neg hb]; rfl
      rw [he, ← replaceK_esc l k h]
      cases k with
      | zero => rfl
      | succ k =>
        obtain ⟨i, hi⟩ := Lib.index_of_count (s := l) (old := [39]) (by omega)
        have hp : ([39] : List UInt8).isPrefixOf (b :: l) = false := by simp [List.isPrefixOf, Ne.symm hb]
        have hix : Lib.index (b :: l) [39] = ((i + 1 : Nat) : Int) := by
          rw [Lib.index, hp, hi]
          have : ((i : Int) == -1) = false := by rw [beq_eq_false_iff_ne]; omega
          simp [this]
        rw [Lib.replaceK_hit _ _ _ _ _ hix, Lib.replaceK_hit _ _ _ _ _ hi]
        rfl
theorem replaceAll_esc (s : List UInt8) : Lib.replaceAll s [39] [39, 39] = s.flatMap esc := by
  unfold Lib.replaceAll Lib.replace
  rw [if_neg (by decide)]
  exact replaceK_esc s _ (by simp [Lib.replaceNum])
theorem esc_take {s : List UInt8} {i : Nat} {x : UInt8} (hx : s[i]? = some x) : (s.take (i + 1)).flatMap esc = (s.take i).flatMap esc ++ esc x := by
  rw [List.take_add_one, hx, List.flatMap_append]; simp
theorem esc_len (s : List UInt8) : (s.flatMap esc).length ≤ 2 * s.length := by
  induction s with
  | nil => simp
  | cons b l ih => rw [List.flatMap_cons, List.length_append]; have : (esc b).length ≤ 2 := by unfold esc; split <;> simp
                   simp only [List.length_cons]; omega
def digF : Nat → Int → Tx
  | 0, _ => []
  | k + 1, m => (if m.tdiv 10 ≠ 0 then digF k (m.tdiv 10) else []) ++ [UInt8.ofNat (48 + (m.tmod 10).natAbs)]
theorem tdiv_lt {m : Int} {k : Nat} (h : m.natAbs < 10 ^ (k + 1)) : (m.tdiv 10).natAbs < 10 ^ k := by
  rw [Nat.pow_succ] at h
  rw [Int.natAbs_tdiv]
  exact Nat.div_lt_of_lt_mul (by rw [Nat.mul_comm]; exact h)
theorem dec_dig : ∀ (k : Nat) (n : Int), n.natAbs < 10 ^ (k + 1) → decF (k + 2) n = (if n < 0 then [45] else []) ++ digF (k + 1) n := by
  intro k
  induction k with
  | zero =>
    intro n h
    have hq := tdiv_lt (k := 0) (m := n) (by simpa using h)
    have hq0 : n.tdiv 10 = 0 := Int.natAbs_eq_zero.1 (by rw [Nat.pow_zero] at hq; omega)
    have hqn : (-n).tdiv 10 = 0 := by rw [Int.neg_tdiv, hq0]; rfl
    simp only [decF, digF, hq0, hqn, Int.tmod_neg, Int.neg_tmod, Int.natAbs_neg]
    by_cases hn : n < 0
    · simp [hn, show ¬ (0 < n) by omega]
    · simp [hn]
  | succ k ih =>
    intro n h
    by_cases hq0 : n.tdiv 10 = 0
    · have hqn : (-n).tdiv 10 = 0 := by rw [Int.neg_tdiv, hq0]; rfl
      rw [decF, digF, decF]
      simp only [hq0, hqn, Int.neg_tmod, Int.natAbs_neg]
      by_cases hn : n < 0
      · simp [hn, show ¬ (0 < n) by omega]
      · simp [hn]
    · have hq := tdiv_lt h
      have hs : n.tdiv 10 < 0 ↔ n < 0 := by
        have := Int.mul_tdiv_add_tmod n 10
        constructor
        · intro h1
          rcases Int.lt_or_le n 0 with h2 | h2
          · exact h2
          · have := Int.tdiv_nonneg h2 (show (0 : Int) ≤ 10 by decide); omega
        · intro h1
          have h3 : 0 ≤ (-n).tdiv 10 := Int.tdiv_nonneg (by omega) (by decide)
          rw [Int.neg_tdiv] at h3
          omega
      rw [decF, digF, if_neg (by simp [hq0]), if_pos hq0, if_pos hq0, ih _ hq]
      by_cases hn : n < 0
      · rw [if_pos hn, if_pos (hs.2 hn)]; rfl
      · rw [if_neg hn, if_neg (fun h => hn (hs.1 h))]; rfl
theorem dec40 {n : Int} (h : rng n) : decF 40 n = (if n < 0 then [45] else []) ++ digF 39 n := dec_dig 38 n (by
  unfold rng at h
  have : (10 : Nat) ^ (38 + 1) = 1000000000000000000000000000000000000000 := by decide
  rw [this]; omega)
/-- the digits that stand, and those that are to come -/
def contF (k : Nat) (m : Int) (t : Tx) : Tx := if m = 0 ∧ t ≠ [] then t else digF k m ++ t
theorem cont_step {k : Nat} {m : Int} {t : Tx} (h : ¬ (m = 0 ∧ t ≠ [])) : contF (k + 1) m t = contF k (m.tdiv 10) (UInt8.ofNat (48 + (m.tmod 10).natAbs) :: t) := by
  unfold contF
  rw [if_neg h, digF]
  by_cases hq : m.tdiv 10 = 0
  · simp only [hq, ne_eq, not_true_eq_false, if_false, reduceCtorEq, not_false_eq_true, and_self, if_true, List.nil_append, List.singleton_append]
  · simp only [hq, ne_eq, not_false_eq_true, if_true, false_and, if_false, List.append_assoc, List.singleton_append]
theorem trim_dot {table name : Tx} (h : ∀ b, table.head? = some b → b ≠ 46) : Lib.trimPrefix (table ++ [46] ++ name) [46] = if table = [] then name else table ++ [46] ++ name := by
  unfold Lib.trimPrefix Lib.hasPrefix
  cases table with
  | nil => simp
  | cons b l =>
    have := h b rfl
    simp [List.isPrefixOf, Ne.symm this]
end Go.Proofs.YtodoejfkjimeaaaDoor
