/- lex, in plain words: texts as lists of bytes. -/
import Derived.Test.YtlhnncmflnjinaaBase
import Derived.Lib.Bytealg
set_option linter.unusedSimpArgs false
set_option linter.unusedVariables false
namespace Go.Proofs.Ytlhnncmflnjinaa

def isBlank (c : Int) : Bool := c == 32 || c == 9 || c == 10
def notNl (c : Int) : Bool := c != 10
def notQuote (c : Int) : Bool := c != 39
def isLetter (c : Int) : Bool := (65 ≤ c && c ≤ 90) || (97 ≤ c && c ≤ 122) || c == 95
def isDigit (c : Int) : Bool := 48 ≤ c && c ≤ 57
def isPart (c : Int) : Bool := isLetter c || isDigit c
def by_ (q : Int → Bool) (c : UInt8) : Bool := q c.toNat

theorem dropWhile_len (p : UInt8 → Bool) (l : List UInt8) : (l.dropWhile p).length ≤ l.length := (List.dropWhile_sublist p).length_le

theorem dashes {r : List UInt8} (h : Lib.hasPrefix r [45, 45] = true) : ∃ t, r = 45 :: 45 :: t := by
  obtain ⟨t, ht⟩ := List.isPrefixOf_iff_prefix.1 h
  exact ⟨t, ht.symm⟩
theorem skip_less (l : List UInt8) (h : Lib.hasPrefix (l.dropWhile (by_ isBlank)) [45, 45] = true) : ((l.dropWhile (by_ isBlank)).dropWhile (by_ notNl)).length < l.length := by
  have h1 := dropWhile_len (by_ isBlank) l
  obtain ⟨t, hr⟩ := dashes h
  rw [hr] at h1 ⊢
  have h2 := dropWhile_len (by_ notNl) t
  have h3 : (by_ notNl 45) = true := by decide
  simp [h3] at h1 ⊢
  omega
/-- what stands between tokens is passed over -/
def skipL (l : List UInt8) : List UInt8 :=
  if _h : Lib.hasPrefix (l.dropWhile (by_ isBlank)) [45, 45] = true then skipL ((l.dropWhile (by_ isBlank)).dropWhile (by_ notNl)) else l.dropWhile (by_ isBlank)
  termination_by l.length
  decreasing_by exact skip_less l _h
theorem skipL_more (l : List UInt8) (h : Lib.hasPrefix (l.dropWhile (by_ isBlank)) [45, 45] = true) : skipL l = skipL ((l.dropWhile (by_ isBlank)).dropWhile (by_ notNl)) := by
  rw [skipL]; simp [h]
theorem skipL_done (l : List UInt8) (h : Lib.hasPrefix (l.dropWhile (by_ isBlank)) [45, 45] = false) : skipL l = l.dropWhile (by_ isBlank) := by
  rw [skipL]; simp [h]
/-- a digit more of a number; false: it is beyond -/
def numF (st : Int × Bool) (c : UInt8) : Int × Bool :=
  if st.2 = true ∧ st.1 ≤ (9223372036854775807 - ((c.toNat : Int) - 48)) / 10 then (10 * st.1 + ((c.toNat : Int) - 48), true) else (st.1, false)
def numL (l : List UInt8) : Int × Bool := l.foldl numF (0, true)
theorem num_snoc (l : List UInt8) (k : Nat) (h : k < l.length) : numL (l.take (k+1)) = numF (numL (l.take k)) l[k] := by
  unfold numL; rw [List.take_succ_eq_append_getElem h, List.foldl_append]; rfl
theorem numF_bd (st : Int × Bool) (c : UInt8) (h0 : 0 ≤ st.1) (h1 : st.1 ≤ 9223372036854775807) (hc : isDigit c.toNat = true) : 0 ≤ (numF st c).1 ∧ (numF st c).1 ≤ 9223372036854775807 := by
  simp [isDigit] at hc
  unfold numF
  split
  · rename_i h; obtain ⟨_, h⟩ := h; simp only; omega
  · exact ⟨h0, h1⟩
theorem numL_bd (l : List UInt8) (hl : ∀ c ∈ l, isDigit c.toNat = true) : 0 ≤ (numL l).1 ∧ (numL l).1 ≤ 9223372036854775807 := by
  unfold numL
  have : ∀ (l : List UInt8) (st : Int × Bool), (∀ c ∈ l, isDigit c.toNat = true) → 0 ≤ st.1 → st.1 ≤ 9223372036854775807 → 0 ≤ (l.foldl numF st).1 ∧ (l.foldl numF st).1 ≤ 9223372036854775807 := by
    intro l
    induction l with
    | nil => intro st _ h0 h1; exact ⟨h0, h1⟩
    | cons a l ih =>
      intro st hl h0 h1
      have := numF_bd st a h0 h1 (hl a (by simp))
      exact ih _ (fun c hc => hl c (by simp [hc])) this.1 this.2
  exact this l _ hl (by simp) (by simp)
/-- a text behind its first quote: what it says, and what follows; none: it does not end -/
def quotedL (l : List UInt8) : Option (List UInt8 × List UInt8) :=
  match _h : l.dropWhile (by_ notQuote) with
  | [] => none
  | _ :: 39 :: r => (quotedL r).map fun x => (l.takeWhile (by_ notQuote) ++ 39 :: x.1, x.2)
  | _ :: r => some (l.takeWhile (by_ notQuote), r)
  termination_by l.length
  decreasing_by
  have h1 := dropWhile_len (by_ notQuote) l
  rw [_h] at h1
  simp at h1; omega
theorem quotedL_nil (l : List UInt8) (h : l.dropWhile (by_ notQuote) = []) : quotedL l = none := by
  rw [quotedL]; split <;> simp_all
theorem quotedL_two (l r : List UInt8) (c : UInt8) (h : l.dropWhile (by_ notQuote) = c :: 39 :: r) : quotedL l = (quotedL r).map fun x => (l.takeWhile (by_ notQuote) ++ 39 :: x.1, x.2) := by
  rw [quotedL]; split <;> simp_all
theorem quotedL_one (l r : List UInt8) (c : UInt8) (h : l.dropWhile (by_ notQuote) = c :: r) (hr : ∀ t, r ≠ 39 :: t) : quotedL l = some (l.takeWhile (by_ notQuote), r) := by
  rw [quotedL]; split
  · simp_all
  · rename_i c' r' e
    rw [h] at e; injection e with _ e2
    exact absurd e2 (hr r')
  · simp_all
/-- the sign that a text begins with; none: none does -/
def signL (l : List UInt8) : List UInt8 :=
  if Lib.hasPrefix l [60, 61] = true then [60, 61]
  else if Lib.hasPrefix l [62, 61] = true then [62, 61]
  else if Lib.hasPrefix l [60, 62] = true then [60, 62]
  else match l with
    | [] => []
    | c :: _ => if Lib.indexByte [40, 41, 44, 46, 42, 43, 45, 47, 61, 60, 62, 59] c < 0 then [] else [c]
def lowerB (c : UInt8) : UInt8 := if 65 ≤ c.toNat ∧ c.toNat ≤ 90 then c ||| 32 else c
def lowerL (l : List UInt8) : List UInt8 := l.map lowerB
/-- a token: its kind, text and number -/
structure Tk where
  kind : Int
  text : List UInt8
  n : Int
/-- the token that a text begins with, and what follows; none: none does -/
def tokenL : List UInt8 → Option (Tk × List UInt8)
  | [] => none
  | c :: l =>
    if isLetter c.toNat = true then
      if ((c :: l).takeWhile (by_ isPart)).length ≤ 16 then some (⟨1, lowerL ((c :: l).takeWhile (by_ isPart)), 0⟩, (c :: l).dropWhile (by_ isPart)) else none
    else if isDigit c.toNat = true then
      if (numL ((c :: l).takeWhile (by_ isDigit))).2 = true then some (⟨2, [], (numL ((c :: l).takeWhile (by_ isDigit))).1⟩, (c :: l).dropWhile (by_ isDigit)) else none
    else if c = 39 then
      match quotedL l with
      | none => none
      | some x => if x.1.length ≤ 64 then some (⟨3, x.1, 0⟩, x.2) else none
    else if signL (c :: l) = [] then none else some (⟨4, signL (c :: l), 0⟩, (c :: l).drop (signL (c :: l)).length)
theorem tokenL_word (c : UInt8) (l : List UInt8) (h : isLetter c.toNat = true) : tokenL (c :: l) = if ((c :: l).takeWhile (by_ isPart)).length ≤ 16 then some (⟨1, lowerL ((c :: l).takeWhile (by_ isPart)), 0⟩, (c :: l).dropWhile (by_ isPart)) else none := by
  unfold tokenL; simp only; rw [if_pos h]
theorem tokenL_number (c : UInt8) (l : List UInt8) (h : isLetter c.toNat = false) (h2 : isDigit c.toNat = true) : tokenL (c :: l) = if (numL ((c :: l).takeWhile (by_ isDigit))).2 = true then some (⟨2, [], (numL ((c :: l).takeWhile (by_ isDigit))).1⟩, (c :: l).dropWhile (by_ isDigit)) else none := by
  unfold tokenL; simp only; rw [if_neg (by simp [h]), if_pos h2]
theorem tokenL_quote (l : List UInt8) : tokenL (39 :: l) = match quotedL l with | none => none | some x => if x.1.length ≤ 64 then some (⟨3, x.1, 0⟩, x.2) else none := by
  unfold tokenL; simp only; rw [if_neg (by decide), if_neg (by decide), if_pos trivial]
theorem tokenL_sign (c : UInt8) (l : List UInt8) (h : isLetter c.toNat = false) (h2 : isDigit c.toNat = false) (h3 : c ≠ 39) : tokenL (c :: l) = if signL (c :: l) = [] then none else some (⟨4, signL (c :: l), 0⟩, (c :: l).drop (signL (c :: l)).length) := by
  unfold tokenL; simp only; rw [if_neg (by simp [h]), if_neg (by simp [h2]), if_neg h3]
theorem prefix_len {l p : List UInt8} (h : Lib.hasPrefix l p = true) : p.length ≤ l.length := by
  obtain ⟨t, ht⟩ := List.isPrefixOf_iff_prefix.1 h
  rw [← ht]; simp
theorem signL_le (l : List UInt8) : (signL l).length ≤ l.length := by
  unfold signL
  split
  · rename_i h; exact prefix_len h
  · split
    · rename_i h; exact prefix_len h
    · split
      · rename_i h; exact prefix_len h
      · split
        · simp
        · split <;> simp
end Go.Proofs.Ytlhnncmflnjinaa
