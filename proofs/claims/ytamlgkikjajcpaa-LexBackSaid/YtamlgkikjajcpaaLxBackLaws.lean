/- lex: tokens written one behind the other are told again: in plain words. -/
import Derived.Test.YtamlgkikjajcpaaLxLaws
namespace Go.Proofs.Ytamlgkikjajcpaa
open Go.RowKit Go.Proofs.YtamlgkikjajcpaaW.PrintWords

/-- a number's digits -/
def decN (n : Nat) : List UInt8 := if n < 10 then [UInt8.ofNat (48 + n)] else decN (n / 10) ++ [UInt8.ofNat (48 + n % 10)]
  termination_by n
  decreasing_by omega
theorem decN_small (n : Nat) (h : n < 10) : decN n = [UInt8.ofNat (48 + n)] := by rw [decN, if_pos h]
theorem decN_more (n : Nat) (h : ¬ n < 10) : decN n = decN (n / 10) ++ [UInt8.ofNat (48 + n % 10)] := by rw [decN, if_neg h]
theorem decN_digits (n : Nat) : ∀ m : Nat, m ≤ n → (∀ c ∈ decN m, isDigit c.toNat = true) ∧ decN m ≠ [] := by
  have hd : ∀ k : Fin 10, isDigit (UInt8.ofNat (48 + k.val)).toNat = true := by decide +kernel
  induction n with
  | zero => intro m hm; obtain rfl : m = 0 := by omega
            rw [decN_small 0 (by omega)]; simp; exact hd 0
  | succ n ih =>
    intro m hm
    by_cases h : m < 10
    · rw [decN_small m h]; simp; exact hd ⟨m, h⟩
    · rw [decN_more m h]
      have h1 := ih (m / 10) (by omega)
      refine ⟨fun c hc => ?_, by simp⟩
      rcases List.mem_append.1 hc with hc | hc
      · exact h1.1 c hc
      · rw [List.mem_singleton.1 hc]; exact hd ⟨m % 10, by omega⟩
theorem numL_snoc (l : List UInt8) (c : UInt8) : numL (l ++ [c]) = numF (numL l) c := by simp [numL]
theorem digit_val (k : Nat) (h : k < 10) : (((UInt8.ofNat (48 + k)).toNat : Nat) : Int) - 48 = k := by
  have : ∀ k : Fin 10, (UInt8.ofNat (48 + k.val)).toNat = 48 + k.val := by decide +kernel
  have := this ⟨k, h⟩
  simp only at this
  omega
theorem numL_decN (n : Nat) : ∀ m : Nat, m ≤ n → m ≤ 9223372036854775807 → numL (decN m) = (((m : Nat) : Int), true) := by
  induction n with
  | zero =>
    intro m hm _; obtain rfl : m = 0 := by omega
    rw [decN_small 0 (by omega)]; rfl
  | succ n ih =>
    intro m hm hb
    by_cases h : m < 10
    · rw [decN_small m h]
      show numF (0, true) _ = _
      unfold numF
      have := digit_val m h
      rw [if_pos ⟨rfl, by simp only; omega⟩]
      simp only [Prod.mk.injEq, and_true]; omega
    · rw [decN_more m h, numL_snoc, ih (m / 10) (by omega) (by omega)]
      unfold numF
      have := digit_val (m % 10) (by omega)
      rw [if_pos ⟨rfl, by simp only; omega⟩]
      simp only [Prod.mk.injEq, and_true]; omega

/-- a string's letters, each quote twice -/
def dblL : List UInt8 → List UInt8
  | [] => []
  | c :: l => if c = 39 then 39 :: 39 :: dblL l else c :: dblL l
theorem dblL_len (l : List UInt8) : (dblL l).length ≤ 2 * l.length := by
  induction l with
  | nil => simp [dblL]
  | cons c l ih => unfold dblL; split <;> simp <;> omega
/-- a token as a text -/
def writL (k : Int) (t : List UInt8) (n : Int) : List UInt8 := if k = 2 then decN n.toNat else if k = 3 then 39 :: (dblL t ++ [39]) else t
/-- what a token of the lexer's is -/
def Good (k : Int) (t : List UInt8) (n : Int) : Prop :=
  (k = 1 ∧ n = 0 ∧ t.length ≤ 16 ∧ (∃ c r, t = c :: r ∧ isLetter c.toNat = true) ∧ (∀ c ∈ t, isPart c.toNat = true ∧ lowerB c = c)) ∨
  (k = 2 ∧ t = [] ∧ 0 ≤ n ∧ n ≤ 9223372036854775807) ∨
  (k = 3 ∧ n = 0 ∧ t.length ≤ 64) ∨
  (k = 4 ∧ n = 0 ∧ t ∈ [[60, 61], [62, 61], [60, 62], [40], [41], [44], [46], [42], [43], [45], [47], [61], [60], [62], [59]])

theorem lower_part : ∀ n : Fin 256, isPart (n.val : Nat) = true → isPart (lowerB (UInt8.ofNat n.val)).toNat = true ∧ lowerB (lowerB (UInt8.ofNat n.val)) = lowerB (UInt8.ofNat n.val) := by decide +kernel
theorem lower_letter : ∀ n : Fin 256, isLetter (n.val : Nat) = true → isLetter (lowerB (UInt8.ofNat n.val)).toNat = true := by decide +kernel
theorem sign_member : ∀ n : Fin 256, ¬ Lib.indexByte [40, 41, 44, 46, 42, 43, 45, 47, 61, 60, 62, 59] (UInt8.ofNat n.val) < 0 → [UInt8.ofNat n.val] ∈ [[60, 61], [62, 61], [60, 62], [40], [41], [44], [46], [42], [43], [45], [47], [61], [60], [62], [59]] := by decide +kernel
theorem signL_mem (l : List UInt8) (h : signL l ≠ []) : signL l ∈ [[60, 61], [62, 61], [60, 62], [40], [41], [44], [46], [42], [43], [45], [47], [61], [60], [62], [59]] := by
  unfold signL at h ⊢
  split
  · simp
  · split
    · simp
    · split
      · simp
      · rename_i h1 h2 h3
        rw [if_neg h1, if_neg h2, if_neg h3] at h
        cases l with
        | nil => simp at h
        | cons c l =>
          simp only at h ⊢
          split
          · rename_i h4; rw [if_pos h4] at h; simp at h
          · rename_i h4
            have := sign_member ⟨c.toNat, UInt8.toNat_lt c⟩
            simp only [UInt8.ofNat_toNat] at this
            exact this h4
theorem mem_takeWhile {p : UInt8 → Bool} {l : List UInt8} {c : UInt8} (h : c ∈ l.takeWhile p) : p c = true := by
  induction l with
  | nil => simp at h
  | cons a l ih =>
    rw [List.takeWhile_cons] at h
    split at h
    · rename_i ha
      rcases List.mem_cons.1 h with rfl | h
      · exact ha
      · exact ih h
    · simp at h
theorem tokenL_good (l : List UInt8) (x : Tk × List UInt8) (h : tokenL l = some x) : Good x.1.kind x.1.text x.1.n := by
  cases l with
  | nil => cases h
  | cons c l =>
    cases h1 : isLetter c.toNat with
    | true =>
      rw [tokenL_word c l h1] at h
      split at h
      · rename_i hl
        cases h
        refine .inl ⟨rfl, rfl, by simpa [lowerL] using hl, ?_, ?_⟩
        · rw [List.takeWhile_cons, if_pos (by simp [by_, isPart, h1])]
          have := lower_letter ⟨c.toNat, UInt8.toNat_lt c⟩ h1
          simp only [UInt8.ofNat_toNat] at this
          exact ⟨_, _, rfl, this⟩
        · intro d hd
          obtain ⟨e, he, rfl⟩ := List.mem_map.1 hd
          have := lower_part ⟨e.toNat, UInt8.toNat_lt e⟩ (mem_takeWhile he)
          simpa only [UInt8.ofNat_toNat] using this
      · cases h
    | false =>
      cases h2 : isDigit c.toNat with
      | true =>
        rw [tokenL_number c l h1 h2] at h
        split at h
        · cases h
          have := numL_bd ((c :: l).takeWhile (by_ isDigit)) (fun d hd => mem_takeWhile hd)
          exact .inr (.inl ⟨rfl, rfl, this.1, this.2⟩)
        · cases h
      | false =>
        by_cases h3 : c = 39
        · subst h3
          rw [tokenL_quote] at h
          split at h
          · cases h
          · split at h
            · rename_i hl
              cases h; exact .inr (.inr (.inl ⟨rfl, rfl, hl⟩))
            · cases h
        · rw [tokenL_sign c l h1 h2 h3] at h
          split at h
          · cases h
          · rename_i hne
            cases h
            exact .inr (.inr (.inr ⟨rfl, rfl, signL_mem _ hne⟩))

theorem takeWhile_stop (p : UInt8 → Bool) (t : List UInt8) (c : UInt8) (r : List UInt8) (ht : ∀ d ∈ t, p d = true) (hc : p c = false) : (t ++ c :: r).takeWhile p = t ∧ (t ++ c :: r).dropWhile p = c :: r := by
  induction t with
  | nil => simp [hc]
  | cons a t ih =>
    have := ih (fun d hd => ht d (by simp [hd]))
    simp [ht a (by simp), this.1, this.2]
theorem quotedL_cons (c : UInt8) (l : List UInt8) (h : c ≠ 39) : quotedL (c :: l) = (quotedL l).map fun x => (c :: x.1, x.2) := by
  have hp : by_ notQuote c = true := by
    simp only [by_, notQuote, bne_iff_ne, ne_eq]
    intro e; exact h (UInt8.toNat_inj.1 (by simpa using (show c.toNat = 39 by omega)))
  have hd : (c :: l).dropWhile (by_ notQuote) = l.dropWhile (by_ notQuote) := by rw [List.dropWhile_cons, if_pos hp]
  have ht : (c :: l).takeWhile (by_ notQuote) = c :: l.takeWhile (by_ notQuote) := by rw [List.takeWhile_cons, if_pos hp]
  match hr : l.dropWhile (by_ notQuote) with
  | [] => rw [quotedL_nil _ (hd.trans hr), quotedL_nil _ hr]; rfl
  | [a] => rw [quotedL_one _ [] a (hd.trans hr) (by simp), quotedL_one _ [] a hr (by simp), ht]; rfl
  | a :: d :: r =>
    by_cases h39 : d = 39
    · subst h39
      rw [quotedL_two _ r a (hd.trans hr), quotedL_two _ r a hr, ht]
      cases quotedL r <;> rfl
    · rw [quotedL_one _ (d :: r) a (hd.trans hr) (by simp [h39]), quotedL_one _ (d :: r) a hr (by simp [h39]), ht]; rfl
theorem quotedL_back (t : List UInt8) (r : List UInt8) : quotedL (dblL t ++ 39 :: 32 :: r) = some (t, 32 :: r) := by
  have hq : by_ notQuote 39 = false := by decide
  induction t with
  | nil =>
    simp only [dblL, List.nil_append]
    rw [quotedL_one _ (32 :: r) 39 (by rw [List.dropWhile_cons, if_neg (by simp [hq])]) (by simp)]
    rw [List.takeWhile_cons, if_neg (by simp [hq])]
  | cons c t ih =>
    unfold dblL
    by_cases h : c = 39
    · subst h
      rw [if_pos rfl]
      simp only [List.cons_append]
      rw [quotedL_two _ (dblL t ++ 39 :: 32 :: r) 39 (by rw [List.dropWhile_cons, if_neg (by simp [hq])]), ih]
      rw [List.takeWhile_cons, if_neg (by simp [hq])]; rfl
    · rw [if_neg h, List.cons_append, quotedL_cons _ _ h, ih]; rfl

theorem token_back (k : Int) (t : List UInt8) (n : Int) (r : List UInt8) (h : Good k t n) : tokenL (writL k t n ++ 32 :: r) = some (⟨k, t, n⟩, 32 :: r) := by
  rcases h with ⟨rfl, rfl, hl, ⟨c, t', rfl, hc⟩, hp⟩ | ⟨rfl, rfl, h0, h1⟩ | ⟨rfl, rfl, hl⟩ | ⟨rfl, rfl, hm⟩
  · have e := takeWhile_stop (by_ isPart) (c :: t') 32 r (fun d hd => (hp d hd).1) (by decide)
    have hlow : lowerL (c :: t') = c :: t' := by
      unfold lowerL
      conv => rhs; rw [← List.map_id (c :: t')]
      exact List.map_congr_left fun d hd => (hp d hd).2
    unfold writL
    rw [if_neg (by decide), if_neg (by decide)]
    rw [List.cons_append] at e ⊢
    rw [tokenL_word _ _ hc, e.1, e.2, if_pos hl, hlow]
  · unfold writL
    rw [if_pos rfl]
    have hd := decN_digits n.toNat n.toNat (Nat.le_refl _)
    have e := takeWhile_stop (by_ isDigit) (decN n.toNat) 32 r hd.1 (by decide)
    have hn := numL_decN n.toNat n.toNat (Nat.le_refl _) (by omega)
    rw [show ((n.toNat : Nat) : Int) = n by omega] at hn
    obtain ⟨c, t', ht⟩ : ∃ c t', decN n.toNat = c :: t' := by
      cases hx : decN n.toNat with
      | nil => exact absurd hx hd.2
      | cons c t' => exact ⟨c, t', rfl⟩
    have hc := hd.1 c (by rw [ht]; simp)
    have hc2 : isLetter c.toNat = false := by
      simp only [isDigit, Bool.and_eq_true, decide_eq_true_eq] at hc
      simp only [isLetter, Bool.or_eq_false_iff, Bool.and_eq_false_iff, decide_eq_false_iff_not, beq_eq_false_iff_ne, ne_eq]
      omega
    rw [ht] at e hn ⊢
    rw [List.cons_append] at e ⊢
    rw [tokenL_number _ _ hc2 hc, e.1, e.2, hn, if_pos rfl]
  · unfold writL
    rw [if_neg (by decide), if_pos rfl, List.cons_append, tokenL_quote, List.append_assoc]
    simp only [List.cons_append, List.nil_append]
    rw [quotedL_back]
    simp only
    rw [if_pos hl]
  · unfold writL
    rw [if_neg (by decide), if_neg (by decide)]
    simp only [List.mem_cons, List.not_mem_nil, or_false] at hm
    rcases hm with rfl | rfl | rfl | rfl | rfl | rfl | rfl | rfl | rfl | rfl | rfl | rfl | rfl | rfl | rfl <;>
    · simp only [List.cons_append, List.nil_append]
      rw [tokenL_sign _ _ (by decide) (by decide) (by decide)]
      simp [signL, Lib.hasPrefix, List.isPrefixOf, Lib.indexByte]

theorem writL_head (k : Int) (t : List UInt8) (n : Int) (r : List UInt8) (h : Good k t n) : (∃ c l, writL k t n ++ 32 :: r = c :: l ∧ by_ isBlank c = false) ∧ Lib.hasPrefix (writL k t n ++ 32 :: r) [45, 45] = false := by
  have hfin : ∀ c : UInt8, ∀ l : List UInt8, c ≠ 45 → Lib.hasPrefix (c :: l) [45, 45] = false := by
    intro c l hc; simp [Lib.hasPrefix, List.isPrefixOf]; intro e; exact absurd e.symm hc
  rcases h with ⟨rfl, rfl, hl, ⟨c, t', rfl, hc⟩, hp⟩ | ⟨rfl, rfl, h0, h1⟩ | ⟨rfl, rfl, hl⟩ | ⟨rfl, rfl, hm⟩
  · unfold writL
    rw [if_neg (by decide), if_neg (by decide), List.cons_append]
    have hz : ∀ n : Fin 256, isLetter (n.val : Nat) = true → by_ isBlank (UInt8.ofNat n.val) = false ∧ UInt8.ofNat n.val ≠ 45 := by decide +kernel
    have := hz ⟨c.toNat, UInt8.toNat_lt c⟩ hc
    simp only [UInt8.ofNat_toNat] at this
    exact ⟨⟨c, _, rfl, this.1⟩, hfin _ _ this.2⟩
  · unfold writL
    rw [if_pos rfl]
    have hd := decN_digits n.toNat n.toNat (Nat.le_refl _)
    obtain ⟨c, t', ht⟩ : ∃ c t', decN n.toNat = c :: t' := by
      cases hx : decN n.toNat with
      | nil => exact absurd hx hd.2
      | cons c t' => exact ⟨c, t', rfl⟩
    have hc := hd.1 c (by rw [ht]; simp)
    have hz : ∀ n : Fin 256, isDigit (n.val : Nat) = true → by_ isBlank (UInt8.ofNat n.val) = false ∧ UInt8.ofNat n.val ≠ 45 := by decide +kernel
    have := hz ⟨c.toNat, UInt8.toNat_lt c⟩ hc
    simp only [UInt8.ofNat_toNat] at this
    rw [ht, List.cons_append]
    exact ⟨⟨c, _, rfl, this.1⟩, hfin _ _ this.2⟩
  · unfold writL
    rw [if_neg (by decide), if_pos rfl, List.cons_append]
    exact ⟨⟨39, _, rfl, by decide⟩, hfin _ _ (by decide)⟩
  · unfold writL
    rw [if_neg (by decide), if_neg (by decide)]
    simp only [List.mem_cons, List.not_mem_nil, or_false] at hm
    rcases hm with rfl | rfl | rfl | rfl | rfl | rfl | rfl | rfl | rfl | rfl | rfl | rfl | rfl | rfl | rfl <;>
    exact ⟨⟨_, _, rfl, by decide⟩, by simp [Lib.hasPrefix, List.isPrefixOf]⟩

/-- the tokens' text: each as a text, and a blank -/
def textL : List Tok → List UInt8
  | [] => []
  | t :: ts => writL t.kind t.text.data.toList t.n ++ 32 :: textL ts
/-- the tokens at the places that they have in that text -/
def placeL (p : Nat) : List Tok → List Tok
  | [] => []
  | t :: ts => ⟨t.kind, t.text, t.n, p⟩ :: placeL (p + ((writL t.kind t.text.data.toList t.n).length + 1)) ts
def GoodT (t : Tok) : Prop := Good t.kind t.text.data.toList t.n
theorem skipL_text (ts : List Tok) (h : ∀ t ∈ ts, GoodT t) : skipL (textL ts) = textL ts ∧ skipL (32 :: textL ts) = textL ts := by
  have hb : by_ isBlank 32 = true := by decide
  cases ts with
  | nil =>
    have e1 : skipL ([] : List UInt8) = [] := by rw [skipL_done _ (by decide)]; rfl
    have e2 : skipL [32] = [] := by rw [skipL_done _ (by decide)]; rfl
    exact ⟨e1, e2⟩
  | cons t ts =>
    obtain ⟨⟨c, l, e, hc⟩, hp⟩ := writL_head t.kind t.text.data.toList t.n (textL ts) (h t (by simp))
    simp only [textL]
    rw [e] at hp ⊢
    have hd : (c :: l).dropWhile (by_ isBlank) = c :: l := by rw [List.dropWhile_cons, if_neg (by simp [hc])]
    have hd2 : (32 :: c :: l).dropWhile (by_ isBlank) = c :: l := by rw [List.dropWhile_cons, if_pos hb, hd]
    exact ⟨by rw [skipL_done _ (by rw [hd]; exact hp), hd], by rw [skipL_done _ (by rw [hd2]; exact hp), hd2]⟩
theorem lexGo_back (total : Nat) (ts : List Tok) : ∀ (acc : List Tok) (p : Nat), (∀ t ∈ ts, GoodT t) → acc.length + ts.length ≤ 400 → total = p + (textL ts).length → lexGo total (textL ts) acc = (acc ++ placeL p ts, (total : Int), 0) := by
  induction ts with
  | nil => intro acc p _ _ _; simp only [textL, placeL]; rw [lexGo_nil]; simp
  | cons t ts ih =>
    intro acc p hg hl ht
    have hT := token_back t.kind t.text.data.toList t.n (textL ts) (hg t (by simp))
    have h0 : textL (t :: ts) ≠ [] := by simp [textL]
    simp only [List.length_cons] at hl
    have hsk := (skipL_text ts (fun x hx => hg x (by simp [hx]))).2
    rw [lexGo_more total (textL (t :: ts)) acc _ h0 hT (by omega)]
    simp only
    rw [hsk]
    have hlen : (textL (t :: ts)).length = (writL t.kind t.text.data.toList t.n).length + 1 + (textL ts).length := by simp [textL]; omega
    rw [ih _ (p + ((writL t.kind t.text.data.toList t.n).length + 1)) (fun x hx => hg x (by simp [hx])) (by simp; omega) (by omega)]
    have hat : (total : Int) - (textL (t :: ts)).length = p := by omega
    rw [hat]
    simp [placeL]
theorem lexGo_good (total : Nat) (n : Nat) : ∀ (l : List UInt8) (acc : List Tok), l.length ≤ n → (∀ t ∈ acc, GoodT t) → ∀ t ∈ (lexGo total l acc).1, GoodT t := by
  induction n with
  | zero =>
    intro l acc hl ha
    obtain rfl := List.eq_nil_of_length_eq_zero (by omega : l.length = 0)
    rw [lexGo_nil]; exact ha
  | succ n ih =>
    intro l acc hl ha
    by_cases h0 : l = []
    · subst h0; rw [lexGo_nil]; exact ha
    · cases hT : tokenL l with
      | none => rw [lexGo_none _ _ _ h0 hT]; simp
      | some x =>
        have h1 := tokenL_lt _ _ hT
        have h2 := skipL_le x.2
        by_cases hf : acc.length = 400
        · rw [lexGo_full _ _ _ x h0 hT hf]; simp
        · rw [lexGo_more _ _ _ x h0 hT hf]
          refine ih _ _ (by omega) ?_
          intro t ht
          rcases List.mem_append.1 ht with ht | ht
          · exact ha t ht
          · obtain rfl := List.mem_singleton.1 ht
            exact tokenL_good _ _ hT
theorem lex_good (s : List UInt8) : ∀ t ∈ (lexL s).1, GoodT t := by
  unfold lexL
  split
  · simp
  · exact lexGo_good _ _ _ _ (Nat.le_refl _) (by simp)
theorem lex_back (ts : List Tok) (hg : ∀ t ∈ ts, GoodT t) (hl : ts.length ≤ 400) (ht : (textL ts).length ≤ 2048) : lexL (textL ts) = (placeL 0 ts, (((textL ts).length : Nat) : Int), 0) := by
  unfold lexL
  rw [if_neg (by omega), (skipL_text ts hg).1, lexGo_back _ ts [] 0 hg (by simpa using hl) (by omega)]
  rfl
/-- a token's text has no more than 131 letters -/
theorem decN_len (n : Nat) : ∀ (m k : Nat), m ≤ n → m < 10 ^ (k + 1) → (decN m).length ≤ k + 1 := by
  induction n with
  | zero => intro m k hm _; obtain rfl : m = 0 := by omega
            rw [decN_small 0 (by omega)]; simp
  | succ n ih =>
    intro m k hm hk
    by_cases h : m < 10
    · rw [decN_small m h]; simp
    · cases k with
      | zero => simp at hk; omega
      | succ k =>
        rw [decN_more m h]
        have := ih (m / 10) k (by omega) (by rw [Nat.div_lt_iff_lt_mul (by omega)]; rw [Nat.pow_succ] at hk; exact hk)
        simp; omega
theorem writL_len (k : Int) (t : List UInt8) (n : Int) (h : Good k t n) : (writL k t n).length ≤ 131 := by
  rcases h with ⟨rfl, rfl, hl, _, _⟩ | ⟨rfl, rfl, h0, h1⟩ | ⟨rfl, rfl, hl⟩ | ⟨rfl, rfl, hm⟩
  · unfold writL; rw [if_neg (by decide), if_neg (by decide)]; omega
  · unfold writL; rw [if_pos rfl]
    have := decN_len n.toNat n.toNat 18 (Nat.le_refl _) (by
      have : (10 : Nat) ^ 19 = 10000000000000000000 := by decide
      simp only [Nat.reduceAdd]; omega)
    omega
  · unfold writL; rw [if_neg (by decide), if_pos rfl]
    have := dblL_len t
    simp; omega
  · unfold writL; rw [if_neg (by decide), if_neg (by decide)]
    simp only [List.mem_cons, List.not_mem_nil, or_false] at hm
    rcases hm with rfl | rfl | rfl | rfl | rfl | rfl | rfl | rfl | rfl | rfl | rfl | rfl | rfl | rfl | rfl <;> simp
theorem textL_len (ts : List Tok) (h : ∀ t ∈ ts, GoodT t) : (textL ts).length ≤ 132 * ts.length := by
  induction ts with
  | nil => simp [textL]
  | cons t ts ih =>
    have h1 := writL_len _ _ _ (h t (by simp))
    have h2 := ih (fun x hx => h x (by simp [hx]))
    simp [textL]; omega
theorem textL_snoc (ts : List Tok) (t : Tok) : textL (ts ++ [t]) = textL ts ++ (writL t.kind t.text.data.toList t.n ++ [32]) := by
  induction ts with
  | nil => simp [textL]
  | cons a ts ih => simp [textL, ih]
theorem placeL_snoc (ts : List Tok) (t : Tok) : ∀ p : Nat, placeL p (ts ++ [t]) = placeL p ts ++ [⟨t.kind, t.text, t.n, ((p + (textL ts).length : Nat) : Int)⟩] := by
  induction ts with
  | nil => intro p; simp [placeL, textL]
  | cons a ts ih =>
    intro p
    simp only [List.cons_append, placeL, ih, textL, List.length_append, List.length_cons]
    congr 5
    omega
theorem placeL_len (ts : List Tok) : ∀ p : Nat, (placeL p ts).length = ts.length := by
  induction ts with
  | nil => intro p; rfl
  | cons a ts ih => intro p; simp [placeL, ih]
end Go.Proofs.Ytamlgkikjajcpaa
