/- lex: blanks, a newline and a remark ahead change nothing but the places: in plain words. -/
import Derived.Test.YtamlgkikjajcpaaLxLaws
namespace Go.Proofs.Ytamlgkikjajcpaa
open Go.RowKit Go.Proofs.YtamlgkikjajcpaaW.PrintWords

def shiftT (h : Int) (t : Tok) : Tok := ⟨t.kind, t.text, t.n, t.at_ + h⟩
theorem lexGo_shift (total h : Nat) (n : Nat) : ∀ (l : List UInt8) (acc : List Tok), l.length ≤ n →
    lexGo (total + h) l (acc.map (shiftT h)) = ((lexGo total l acc).1.map (shiftT h), (lexGo total l acc).2.1 + h, (lexGo total l acc).2.2) := by
  induction n with
  | zero => intro l acc hl; obtain rfl := List.eq_nil_of_length_eq_zero (by omega : l.length = 0); rw [lexGo_nil, lexGo_nil]; simp
  | succ n ih =>
    intro l acc hl
    by_cases h0 : l = []
    · subst h0; rw [lexGo_nil, lexGo_nil]; simp
    · cases hT : tokenL l with
      | none => rw [lexGo_none _ _ _ h0 hT, lexGo_none _ _ _ h0 hT]; simp; omega
      | some x =>
        have h1 := tokenL_lt _ _ hT
        have h2 := skipL_le x.2
        by_cases hf : acc.length = 400
        · rw [lexGo_full _ _ _ x h0 hT hf, lexGo_full _ _ _ x h0 hT (by simpa using hf)]; simp; omega
        · rw [lexGo_more _ _ _ x h0 hT hf, lexGo_more _ _ _ x h0 hT (by simpa using hf)]
          rw [← ih _ _ (by omega)]
          congr 1
          simp [shiftT]
          omega
theorem skipL_same (l l' : List UInt8) (h : l.dropWhile (by_ isBlank) = l'.dropWhile (by_ isBlank)) : skipL l = skipL l' := by
  cases hp : Lib.hasPrefix (l.dropWhile (by_ isBlank)) [45, 45] with
  | false => rw [skipL_done _ hp, skipL_done l' (by rw [← h]; exact hp), h]
  | true => rw [skipL_more _ hp, skipL_more l' (by rw [← h]; exact hp), h]
def headL (remark : List UInt8) : List UInt8 := 32 :: 9 :: 45 :: 45 :: (remark ++ [10])
theorem skipL_head (remark s : List UInt8) (hr : ∀ c ∈ remark, c ≠ 10) : skipL (headL remark ++ s) = skipL s := by
  have e1 : (headL remark ++ s).dropWhile (by_ isBlank) = 45 :: 45 :: (remark ++ 10 :: s) := by
    simp [headL, by_, isBlank]
  rw [skipL_more _ (by rw [e1]; simp [Lib.hasPrefix, List.isPrefixOf])]
  rw [e1]
  have e2 : (45 :: 45 :: (remark ++ 10 :: s)).dropWhile (by_ notNl) = 10 :: s := by
    have h45 : by_ notNl 45 = true := by decide
    rw [List.dropWhile_cons, if_pos h45, List.dropWhile_cons, if_pos h45]
    induction remark with
    | nil => simp [by_, notNl]
    | cons a l ih =>
      have ha : by_ notNl a = true := by
        have := hr a (by simp)
        simp only [by_, notNl, bne_iff_ne, ne_eq]
        intro h
        exact this (UInt8.toNat_inj.1 (by simpa using (show a.toNat = 10 by omega)))
      rw [List.cons_append, List.dropWhile_cons, if_pos ha]
      exact ih (fun c hc => hr c (by simp [hc])) (by simp [headL, by_, isBlank])
  rw [e2]
  exact skipL_same _ _ (by simp [by_, isBlank])
theorem lex_blanks (remark s : List UInt8) (hr : ∀ c ∈ remark, c ≠ 10) (hs : s.length ≤ 1500) (h4 : remark.length ≤ 400) :
    lexL (headL remark ++ s) = ((lexL s).1.map (shiftT ((headL remark).length : Nat)), (lexL s).2.1 + ((headL remark).length : Nat), (lexL s).2.2) := by
  have hl : (headL remark).length = remark.length + 5 := by simp [headL]
  unfold lexL
  rw [if_neg (by simp; omega), if_neg (by omega), skipL_head _ _ hr, List.length_append, Nat.add_comm]
  have := lexGo_shift s.length (headL remark).length _ (skipL s) [] (Nat.le_refl _)
  simpa using this
theorem lex_at (s : List UInt8) : ∀ t ∈ (lexL s).1, 0 ≤ t.at_ ∧ t.at_ ≤ s.length := by
  intro t ht
  rcases lex_err s with ⟨h, _⟩ | ⟨_, h, _⟩
  · obtain ⟨k, c, e, hk, _⟩ := (lex_lies s h).1 t ht
    have := (List.getElem?_eq_some_iff.1 hk).1
    omega
  · rw [h] at ht; cases ht
end Go.Proofs.Ytamlgkikjajcpaa
