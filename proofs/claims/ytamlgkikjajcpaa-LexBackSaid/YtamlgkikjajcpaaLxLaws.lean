/- lex: what its answers keep, in plain words. -/
import Derived.Test.YtamlgkikjajcpaaTok
namespace Go.Proofs.Ytamlgkikjajcpaa
open Go.RowKit Go.Proofs.YtamlgkikjajcpaaW.PrintWords

theorem lex_alive : lexL [97, 60, 61, 39, 105, 116, 39, 39, 115, 39] = ([⟨1, ⟨#[97]⟩, 0, 0⟩, ⟨4, ⟨#[60, 61]⟩, 0, 1⟩, ⟨3, ⟨#[105, 116, 39, 115]⟩, 0, 3⟩], 10, 0) := by
  have t1 : tokenL [97, 60, 61, 39, 105, 116, 39, 39, 115, 39] = some (⟨1, [97], 0⟩, [60, 61, 39, 105, 116, 39, 39, 115, 39]) := by
    rw [tokenL_word _ _ (by decide)]; rfl
  have t2 : tokenL [60, 61, 39, 105, 116, 39, 39, 115, 39] = some (⟨4, [60, 61], 0⟩, [39, 105, 116, 39, 39, 115, 39]) := by
    rw [tokenL_sign _ _ (by decide) (by decide) (by decide)]; rfl
  have q1 : quotedL [115, 39] = some ([115], []) := by rw [quotedL_one _ [] 39 (by decide) (by simp)]; rfl
  have q2 : quotedL [105, 116, 39, 39, 115, 39] = some ([105, 116, 39, 115], []) := by
    rw [quotedL_two _ [115, 39] 39 (by decide), q1]; rfl
  have t3 : tokenL [39, 105, 116, 39, 39, 115, 39] = some (⟨3, [105, 116, 39, 115], 0⟩, []) := by
    rw [tokenL_quote, q2]; rfl
  unfold lexL
  rw [if_neg (by decide), skipL_done _ (by decide)]
  rw [show List.dropWhile (by_ isBlank) [97, 60, 61, 39, 105, 116, 39, 39, 115, 39] = [97, 60, 61, 39, 105, 116, 39, 39, 115, 39] from by decide]
  rw [lexGo_more _ _ _ _ (by decide) t1 (by decide), skipL_done _ (by decide)]
  rw [show List.dropWhile (by_ isBlank) [60, 61, 39, 105, 116, 39, 39, 115, 39] = [60, 61, 39, 105, 116, 39, 39, 115, 39] from by decide]
  rw [lexGo_more _ _ _ _ (by decide) t2 (by decide), skipL_done _ (by decide)]
  rw [show List.dropWhile (by_ isBlank) [39, 105, 116, 39, 39, 115, 39] = [39, 105, 116, 39, 39, 115, 39] from by decide]
  rw [lexGo_more _ _ _ _ (by decide) t3 (by decide), skipL_done _ (by decide)]
  rw [show List.dropWhile (by_ isBlank) [] = [] from rfl, lexGo_nil]
  rfl

/-- the errors of a text: none, too long, a fault, too many -/
theorem lexGo_err (total : Nat) (n : Nat) : ∀ (l : List UInt8) (acc : List Tok), l.length ≤ n → l.length ≤ total →
    ((lexGo total l acc).2.2 = 0 ∧ (lexGo total l acc).2.1 = total) ∨ ((lexGo total l acc).2.2 ≠ 0 ∧ (lexGo total l acc).1 = [] ∧ 0 ≤ (lexGo total l acc).2.1 ∧ (lexGo total l acc).2.1 ≤ total) := by
  induction n with
  | zero => intro l acc hl _; obtain rfl := List.eq_nil_of_length_eq_zero (by omega : l.length = 0); left; rw [lexGo_nil]; simp
  | succ n ih =>
    intro l acc hl ht
    by_cases h0 : l = []
    · subst h0; left; rw [lexGo_nil]; simp
    · cases hT : tokenL l with
      | none => right; rw [lexGo_none _ _ _ h0 hT]; refine ⟨by simp, rfl, ?_, ?_⟩ <;> simp only <;> omega
      | some x =>
        have h1 := tokenL_lt _ _ hT
        have h2 := skipL_le x.2
        by_cases hf : acc.length = 400
        · right; rw [lexGo_full _ _ _ x h0 hT hf]; refine ⟨by simp, rfl, ?_, ?_⟩ <;> simp only <;> omega
        · rw [lexGo_more _ _ _ x h0 hT hf]; exact ih _ _ (by omega) (by omega)
theorem lex_err (s : List UInt8) : ((lexL s).2.2 = 0 ∧ (lexL s).2.1 = s.length) ∨ ((lexL s).2.2 ≠ 0 ∧ (lexL s).1 = [] ∧ 0 ≤ (lexL s).2.1 ∧ (lexL s).2.1 ≤ s.length) := by
  unfold lexL
  split
  · right; refine ⟨by simp, rfl, ?_, ?_⟩ <;> simp
  · exact lexGo_err _ _ _ _ (Nat.le_refl _) (skipL_le _)

/-- how a token lies in a text: where it begins the text has its first letter -/
def Lies (s : List UInt8) (t : Tok) : Prop :=
  ∃ k c, t.at_ = (k : Nat) ∧ s[k]? = some c ∧ (t.kind = 4 → ∃ r, t.text.data.toList = c :: r) ∧ (t.kind = 3 → c = 39) ∧ (t.kind = 1 → ∃ r, t.text.data.toList = lowerB c :: r)

theorem signL_head (c : UInt8) (l : List UInt8) : signL (c :: l) = [] ∨ ∃ r, signL (c :: l) = c :: r := by
  have hp : ∀ a b : UInt8, Lib.hasPrefix (c :: l) [a, b] = true → ∃ r, [a, b] = c :: r := by
    intro a b h
    obtain ⟨t, ht⟩ := List.isPrefixOf_iff_prefix.1 h
    injection ht with h1 _
    exact ⟨[b], by rw [h1]⟩
  unfold signL
  split
  · rename_i h; exact .inr (hp _ _ h)
  · split
    · rename_i h; exact .inr (hp _ _ h)
    · split
      · rename_i h; exact .inr (hp _ _ h)
      · simp only; split
        · exact .inl rfl
        · exact .inr ⟨[], rfl⟩
theorem tokenL_head (c : UInt8) (l : List UInt8) (x : Tk × List UInt8) (h : tokenL (c :: l) = some x) :
    (x.1.kind = 4 → ∃ r, x.1.text = c :: r) ∧ (x.1.kind = 3 → c = 39) ∧ (x.1.kind = 1 → ∃ r, x.1.text = lowerB c :: r) := by
  cases h1 : isLetter c.toNat with
  | true =>
    rw [tokenL_word c l h1] at h
    split at h
    · cases h
      refine ⟨(fun h => absurd h (by simp)), (fun h => absurd h (by simp)), fun _ => ?_⟩
      rw [List.takeWhile_cons, if_pos (by simp [by_, isPart, h1])]
      exact ⟨_, rfl⟩
    · cases h
  | false =>
    cases h2 : isDigit c.toNat with
    | true =>
      rw [tokenL_number c l h1 h2] at h
      split at h
      · cases h; exact ⟨(fun h => absurd h (by simp)), (fun h => absurd h (by simp)), (fun h => absurd h (by simp))⟩
      · cases h
    | false =>
      by_cases h3 : c = 39
      · subst h3
        rw [tokenL_quote] at h
        split at h
        · cases h
        · split at h
          · cases h; exact ⟨(fun h => absurd h (by simp)), fun _ => rfl, (fun h => absurd h (by simp))⟩
          · cases h
      · rw [tokenL_sign c l h1 h2 h3] at h
        split at h
        · cases h
        · rename_i hne
          cases h
          refine ⟨fun _ => ?_, (fun h => absurd h (by simp)), (fun h => absurd h (by simp))⟩
          rcases signL_head c l with e | e
          · exact absurd e hne
          · exact e

theorem skipL_suffix (n : Nat) : ∀ l : List UInt8, l.length ≤ n → ∃ p, l = p ++ skipL l := by
  induction n with
  | zero => intro l hl; obtain rfl := List.eq_nil_of_length_eq_zero (by omega : l.length = 0); rw [skipL_done _ (by decide)]; exact ⟨[], rfl⟩
  | succ n ih =>
    intro l hl
    have h0 : l = l.takeWhile (by_ isBlank) ++ l.dropWhile (by_ isBlank) := (List.takeWhile_append_dropWhile).symm
    cases h : Lib.hasPrefix (l.dropWhile (by_ isBlank)) [45, 45] with
    | false => rw [skipL_done _ h]; exact ⟨_, h0⟩
    | true =>
      rw [skipL_more _ h]
      have h1 := skip_less l h
      obtain ⟨p, hp⟩ := ih ((l.dropWhile (by_ isBlank)).dropWhile (by_ notNl)) (by omega)
      refine ⟨l.takeWhile (by_ isBlank) ++ ((l.dropWhile (by_ isBlank)).takeWhile (by_ notNl) ++ p), ?_⟩
      rw [List.append_assoc, List.append_assoc, ← hp, List.takeWhile_append_dropWhile, List.takeWhile_append_dropWhile]
theorem quotedL_suffix (n : Nat) : ∀ (l : List UInt8) (x : List UInt8 × List UInt8), l.length ≤ n → quotedL l = some x → ∃ p, l = p ++ x.2 := by
  induction n with
  | zero =>
    intro l x hl h
    obtain rfl := List.eq_nil_of_length_eq_zero (by omega : l.length = 0)
    rw [quotedL_nil _ (by simp)] at h; cases h
  | succ n ih =>
    intro l x hl h
    have h0 : l = l.takeWhile (by_ notQuote) ++ l.dropWhile (by_ notQuote) := (List.takeWhile_append_dropWhile).symm
    have hd := dropWhile_len (by_ notQuote) l
    match hr : l.dropWhile (by_ notQuote) with
    | [] => rw [quotedL_nil _ hr] at h; cases h
    | [c] =>
      rw [quotedL_one l [] c hr (by simp)] at h
      cases h; exact ⟨l, by simp⟩
    | c :: d :: r =>
      rw [hr] at hd h0; simp at hd
      by_cases h39 : d = 39
      · subst h39
        rw [quotedL_two l r c hr] at h
        obtain ⟨y, hy, rfl⟩ := Option.map_eq_some_iff.1 h
        obtain ⟨p, hp⟩ := ih r y (by omega) hy
        exact ⟨l.takeWhile (by_ notQuote) ++ c :: 39 :: p, by simp only [List.append_assoc, List.cons_append, ← hp]; exact h0⟩
      · rw [quotedL_one l (d :: r) c hr (by simp [h39])] at h
        cases h; exact ⟨l.takeWhile (by_ notQuote) ++ [c], by simp only [List.append_assoc, List.cons_append, List.nil_append]; exact h0⟩
theorem prefix_drop {l p : List UInt8} (_h : Lib.hasPrefix l p = true) : ∃ q, l = q ++ l.drop p.length := ⟨l.take p.length, (List.take_append_drop _ _).symm⟩
theorem tokenL_suffix (l : List UInt8) (x : Tk × List UInt8) (h : tokenL l = some x) : ∃ p, l = p ++ x.2 := by
  cases l with
  | nil => cases h
  | cons c l =>
    cases h1 : isLetter c.toNat with
    | true =>
      rw [tokenL_word c l h1] at h
      split at h
      · cases h; exact ⟨_, (List.takeWhile_append_dropWhile).symm⟩
      · cases h
    | false =>
      cases h2 : isDigit c.toNat with
      | true =>
        rw [tokenL_number c l h1 h2] at h
        split at h
        · cases h; exact ⟨_, (List.takeWhile_append_dropWhile).symm⟩
        · cases h
      | false =>
        by_cases h3 : c = 39
        · subst h3
          rw [tokenL_quote] at h
          cases hq : quotedL l with
          | none => rw [hq] at h; cases h
          | some y =>
            rw [hq] at h
            obtain ⟨p, hp⟩ := quotedL_suffix _ l y (Nat.le_refl _) hq
            simp only at h
            split at h
            · cases h; exact ⟨39 :: p, by rw [hp]; simp⟩
            · cases h
        · rw [tokenL_sign c l h1 h2 h3] at h
          split at h
          · cases h
          · cases h; exact ⟨_, (List.take_append_drop _ _).symm⟩

theorem lexGo_lies (s : List UInt8) (n : Nat) : ∀ (l : List UInt8) (acc : List Tok), l.length ≤ n → (∃ p, s = p ++ l) → (∀ t ∈ acc, Lies s t ∧ t.at_ < (s.length : Int) - l.length) → (acc.Pairwise fun a b => a.at_ < b.at_) → acc.length ≤ 400 →
    (lexGo s.length l acc).2.2 = 0 → (∀ t ∈ (lexGo s.length l acc).1, Lies s t) ∧ ((lexGo s.length l acc).1.Pairwise fun a b => a.at_ < b.at_) ∧ (lexGo s.length l acc).1.length ≤ 400 := by
  induction n with
  | zero =>
    intro l acc hl _ ha hp h4 _
    obtain rfl := List.eq_nil_of_length_eq_zero (by omega : l.length = 0)
    rw [lexGo_nil]; exact ⟨fun t ht => (ha t ht).1, hp, h4⟩
  | succ n ih =>
    intro l acc hl hs ha hp h4 he
    by_cases h0 : l = []
    · subst h0; rw [lexGo_nil]; exact ⟨fun t ht => (ha t ht).1, hp, h4⟩
    · cases hT : tokenL l with
      | none => rw [lexGo_none _ _ _ h0 hT] at he; simp at he
      | some x =>
        have h1 := tokenL_lt _ _ hT
        have h2 := skipL_le x.2
        by_cases hf : acc.length = 400
        · rw [lexGo_full _ _ _ x h0 hT hf] at he; simp at he
        · rw [lexGo_more _ _ _ x h0 hT hf] at he ⊢
          obtain ⟨p, hs⟩ := hs
          obtain ⟨q, hq⟩ := tokenL_suffix _ _ hT
          obtain ⟨q2, hq2⟩ := skipL_suffix _ x.2 (Nat.le_refl _)
          have hlen : s.length = p.length + l.length := by rw [hs]; simp
          have hat : (s.length : Int) - l.length = (p.length : Nat) := by omega
          obtain ⟨c, l', rfl⟩ : ∃ c l', l = c :: l' := by cases l with | nil => exact absurd rfl h0 | cons c l' => exact ⟨c, l', rfl⟩
          have hh := tokenL_head c l' x hT
          refine ih _ _ (by omega) ⟨p ++ (q ++ q2), by rw [List.append_assoc, List.append_assoc, ← hq2, ← hq]; exact hs⟩ ?_ ?_ (by simp; omega) he
          · intro t ht
            rcases List.mem_append.1 ht with ht | ht
            · have := ha t ht
              refine ⟨this.1, ?_⟩
              have := this.2
              simp only [List.length_cons] at *
              omega
            · obtain rfl := List.mem_singleton.1 ht
              refine ⟨⟨p.length, c, hat, ?_, ?_, hh.2.1, ?_⟩, ?_⟩
              · rw [hs]; simp
              · intro e; obtain ⟨r, hr⟩ := hh.1 e; exact ⟨r, by simpa using hr⟩
              · intro e; obtain ⟨r, hr⟩ := hh.2.2 e; exact ⟨r, by simpa using hr⟩
              · simp only at *; omega
          · rw [List.pairwise_append]
            refine ⟨hp, by simp, ?_⟩
            intro a ha' b hb
            obtain rfl := List.mem_singleton.1 hb
            exact (ha a ha').2
theorem lex_lies (s : List UInt8) (h : (lexL s).2.2 = 0) : (∀ t ∈ (lexL s).1, Lies s t) ∧ ((lexL s).1.Pairwise fun a b => a.at_ < b.at_) ∧ (lexL s).1.length ≤ 400 := by
  unfold lexL at h ⊢
  split at h
  · simp at h
  · rename_i hl
    rw [if_neg hl]
    exact lexGo_lies s _ _ _ (Nat.le_refl _) (skipL_suffix _ s (Nat.le_refl _)) (by simp) List.Pairwise.nil (by simp) h
end Go.Proofs.Ytamlgkikjajcpaa
