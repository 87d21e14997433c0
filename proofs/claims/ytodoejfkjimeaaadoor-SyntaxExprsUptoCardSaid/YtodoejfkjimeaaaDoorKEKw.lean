/- Packed by a program of this repo: Kw. -/
import Derived.Test.YtodoejfkjimeaaaDoorKELxPlain
import Derived.Lib.IndexAny
set_option linter.unusedSimpArgs false
set_option linter.unusedVariables false
set_option maxRecDepth 100000
namespace Go.Proofs.YtodoejfkjimeaaaDoor
open Go Go.RowKit

def kwWords : List (List UInt8) := [[99, 114, 101, 97, 116, 101], [116, 97, 98, 108, 101], [105, 110, 100, 101, 120], [111, 110], [100, 114, 111, 112], [105, 110, 115, 101, 114, 116], [105, 110, 116, 111], [118, 97, 108, 117, 101, 115], [117, 112, 100, 97, 116, 101], [115, 101, 116], [100, 101, 108, 101, 116, 101], [102, 114, 111, 109], [119, 104, 101, 114, 101], [115, 101, 108, 101, 99, 116], [106, 111, 105, 110], [103, 114, 111, 117, 112], [98, 121], [111, 114, 100, 101, 114], [100, 101, 115, 99], [108, 105, 109, 105, 116], [98, 101, 103, 105, 110], [99, 111, 109, 109, 105, 116], [114, 111, 108, 108, 98, 97, 99, 107], [112, 114, 105, 109, 97, 114, 121], [107, 101, 121], [110, 111, 116], [110, 117, 108, 108], [105, 115], [97, 110, 100], [111, 114], [116, 114, 117, 101], [102, 97, 108, 115, 101], [105, 110, 116], [98, 111, 111, 108], [116, 101, 120, 116], [99, 111, 117, 110, 116], [115, 117, 109], [109, 105, 110], [109, 97, 120]]
theorem kwAll_is : kwAll = 32 :: kwWords.flatMap (fun w => w ++ [32]) := by kernel_rfl
theorem kwWords_free : ∀ w ∈ kwWords, ∀ c ∈ w, c ≠ 32 := by
  have h : (kwWords.all fun w => w.all fun c => c != 32) = true := by kernel_rfl
  intro w hw c hc
  have := List.all_eq_true.1 (List.all_eq_true.1 h w hw) c hc
  simpa using this
theorem contains_step (b : UInt8) (l sub : List UInt8) : Lib.contains (b :: l) sub = (sub.isPrefixOf (b :: l) || Lib.contains l sub) := by
  unfold Lib.contains
  have hg := Lib.index_ge l sub
  rw [Lib.index]
  cases hp : sub.isPrefixOf (b :: l) with
  | true => simp
  | false =>
    simp only [Bool.false_eq_true, if_false, Bool.false_or]
    by_cases h1 : Lib.index l sub = -1
    · rw [h1]; decide
    · have h2 : (Lib.index l sub == -1) = false := by simpa using h1
      rw [h2]
      simp only [Bool.false_eq_true, if_false]
      exact decide_eq_decide.2 (by omega)
theorem word_prefix (rest : List UInt8) : ∀ (a w : List UInt8), (∀ c ∈ a, c ≠ 32) → (∀ c ∈ w, c ≠ 32) → (a ++ [32]).isPrefixOf (w ++ 32 :: rest) = decide (a = w)
  | [], [], _, _ => by simp [List.isPrefixOf]
  | [], c :: w, _, hw => by
    have h := hw c (List.mem_cons_self ..)
    have h2 : ((32 : UInt8) == c) = false := by simpa using fun e => h e.symm
    simp [List.isPrefixOf, h2]
  | x :: a, [], ha, _ => by
    have h := ha x (List.mem_cons_self ..)
    have h2 : (x == (32 : UInt8)) = false := by simpa using h
    simp [List.isPrefixOf, h2]
  | x :: a, c :: w, ha, hw => by
    have ih := word_prefix rest a w (fun y hy => ha y (List.mem_cons_of_mem _ hy)) (fun y hy => hw y (List.mem_cons_of_mem _ hy))
    simp only [List.cons_append, List.isPrefixOf, ih]
    by_cases e : x = c
    · subst e; simp
    · have h2 : (x == c) = false := by simpa using e
      simp [h2, e]
theorem skip_word (a l : List UInt8) : ∀ (w : List UInt8), (∀ c ∈ w, c ≠ 32) → Lib.contains (w ++ l) (32 :: a) = Lib.contains l (32 :: a)
  | [], _ => rfl
  | c :: w, hw => by
    have h := hw c (List.mem_cons_self ..)
    have h2 : ((32 : UInt8) == c) = false := by simpa using fun e => h e.symm
    rw [List.cons_append, contains_step, skip_word a l w (fun y hy => hw y (List.mem_cons_of_mem _ hy))]
    simp [List.isPrefixOf, h2]
theorem words_contain (a : List UInt8) (ha : ∀ c ∈ a, c ≠ 32) : ∀ (ws : List (List UInt8)), (∀ w ∈ ws, ∀ c ∈ w, c ≠ 32) → Lib.contains (32 :: ws.flatMap (fun w => w ++ [32])) (32 :: (a ++ [32])) = decide (a ∈ ws)
  | [], _ => by
    rw [contains_step, List.flatMap_nil]
    have : Lib.contains [] (32 :: (a ++ [32])) = false := by simp [Lib.contains, Lib.index]
    rw [this]
    cases a <;> simp [List.isPrefixOf]
  | w :: ws, hw => by
    have ih := words_contain a ha ws (fun v hv => hw v (List.mem_cons_of_mem _ hv))
    have hw0 := hw w (List.mem_cons_self ..)
    rw [contains_step, List.flatMap_cons, List.append_assoc, skip_word _ _ w hw0, List.singleton_append, ih]
    have hp : (32 :: (a ++ [32])).isPrefixOf (32 :: (w ++ 32 :: ws.flatMap fun w => w ++ [32])) = decide (a = w) := by
      rw [List.isPrefixOf, word_prefix _ a w ha hw0]; simp
    rw [hp]
    by_cases e : a = w <;> simp [e]
theorem kwL_words (l : List UInt8) : kwL l = decide (lowerL l ∈ kwWords) := by
  unfold kwL
  generalize lowerL l = a
  rw [← Lib.contains_iff_indexByte]
  by_cases h32 : (32 : UInt8) ∈ a
  · have h1 : a.contains 32 = true := by simpa using h32
    have h2 : a ∉ kwWords := fun h => kwWords_free a h 32 h32 rfl
    rw [h1, decide_eq_false h2]; simp
  · have h1 : a.contains 32 = false := by simpa using h32
    rw [kwAll_is, words_contain a (fun c hc e => h32 (e ▸ hc)) kwWords kwWords_free, h1]
    by_cases hn : a = []
    · subst hn; decide
    · simp [hn]
end Go.Proofs.YtodoejfkjimeaaaDoor
