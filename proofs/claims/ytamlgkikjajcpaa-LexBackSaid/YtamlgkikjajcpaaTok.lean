/- tokens as values: how their cells read. -/
import Derived.Test.YtamlgkikjajcpaaWWords
import Derived.Test.YtamlgkikjajcpaaProg
import Derived.Test.YtamlgkikjajcpaaLxPlain
namespace Go.Proofs.Ytamlgkikjajcpaa
open Go.RowKit Go.Proofs.YtamlgkikjajcpaaW.PrintWords

structure Tok where
  kind : Int
  text : ByteArray
  n : Int
  at_ : Int
def kTok : Kd Tok := Kd.iso (Kd.pair (Kd.int .i64) (Kd.pair Kd.string (Kd.pair (Kd.int .i64) (Kd.int .i64)))) (fun x : Tok => (x.kind, x.text, x.n, x.at_))
theorem kTok_open {w : World} {x : Tok} {cs : List Value} (h : kTok.K w x cs) : cs = [.int .i64 x.kind, .string x.text, .int .i64 x.n, .int .i64 x.at_] := by
  obtain ⟨_, _, rfl, rfl, ⟨_, _, rfl, rfl, ⟨_, _, rfl, rfl, rfl⟩⟩⟩ := h
  exact rfl
theorem kTok_mkM (w : World) (base : Nat) (ok : Nat → Prop) (x : Tok) : kTok.M w base ok x [.int .i64 x.kind, .string x.text, .int .i64 x.n, .int .i64 x.at_] :=
  ⟨[.int .i64 x.kind], [.string x.text, .int .i64 x.n, .int .i64 x.at_], rfl, rfl, ⟨[.string x.text], [.int .i64 x.n, .int .i64 x.at_], rfl, rfl, ⟨[.int .i64 x.n], [.int .i64 x.at_], rfl, rfl, rfl⟩⟩⟩
theorem infoTok : (Try.prog.info? 31).map (fun i => (i.zero, i.size, i.bytes)) = some (some (.agg #[.int .i64 0, .string ⟨#[]⟩, .int .i64 0, .int .i64 0]), 4, 40) := by kernel_rfl

/-- the cells of a row of tokens that lies at an address -/
theorem tok_at {w : World} {A : Option Addr} {n : Nat} {xs : List Tok} (h : kTok.C w A n xs) (i : Nat) (hi : i < xs.length) : ∃ ad, A = some ad ∧
    w.cell? (ad.add (i * 4)) = some (.int .i64 xs[i].kind) ∧ w.cell? (ad.add (i * 4 + 1)) = some (.string xs[i].text) ∧ w.cell? (ad.add (i * 4 + 2)) = some (.int .i64 xs[i].n) ∧ w.cell? (ad.add (i * 4 + 3)) = some (.int .i64 xs[i].at_) := by
  have hn : xs.length = n := h.1
  obtain ⟨ad, c, e, _, hK, hc⟩ := Kd.C_get h ⟨0, ⟨#[]⟩, 0, 0⟩ (i : Nat) (by omega) (by omega)
  have hx : xs.getD i ⟨0, ⟨#[]⟩, 0, 0⟩ = xs[i] := by simp [List.getD, hi]
  have hx' : xs.getD ((i : Nat) : Int).toNat ⟨0, ⟨#[]⟩, 0, 0⟩ = xs[i] := by simpa using hx
  rw [hx'] at hK
  obtain rfl := kTok_open hK
  have hc' : ∀ j u, [Value.int .i64 xs[i].kind, .string xs[i].text, .int .i64 xs[i].n, .int .i64 xs[i].at_][j]? = some u → w.cell? (ad.add (i * 4 + j)) = some u := by
    intro j u hj; have := hc j u hj; rw [show ((i : Nat) : Int).toNat = i from by omega] at this; exact this
  exact ⟨ad, e, hc' 0 _ rfl, hc' 1 _ rfl, hc' 2 _ rfl, hc' 3 _ rfl⟩
theorem tok_cells {w : World} {e base : Nat} {ok : Nat → Prop} {v : Value} {xs : List Tok} (h : kTok.R e w base ok v xs) (hp : 0 < xs.length) : ∃ g cap, v = .slice (some ⟨g, 0, none⟩) xs.length cap ∧ xs.length ≤ cap ∧ base ≤ g ∧ g < w.heap.size ∧
    ∀ i (hi : i < xs.length), w.cell? ⟨g, i * 4, none⟩ = some (.int .i64 xs[i].kind) ∧ w.cell? ⟨g, i * 4 + 1, none⟩ = some (.string xs[i].text) ∧ w.cell? ⟨g, i * 4 + 2, none⟩ = some (.int .i64 xs[i].n) ∧ w.cell? ⟨g, i * 4 + 3, none⟩ = some (.int .i64 xs[i].at_) := by
  obtain ⟨g, cap, rfl, h1, h2, _⟩ := Kd.R_form h hp
  obtain ⟨_, hc, hC⟩ := Kd.R_reads' h
  refine ⟨g, cap, rfl, hc, h1, h2, fun i hi => ?_⟩
  obtain ⟨ad, e1, q⟩ := tok_at hC i hi
  cases e1
  simpa only [add_plain'] using q

theorem takeDrop_lt (p : UInt8 → Bool) (c : UInt8) (l : List UInt8) (h : p c = true) : ((c :: l).dropWhile p).length < (c :: l).length := by
  rw [List.dropWhile_cons, if_pos h]
  have := dropWhile_len p l
  simp; omega
theorem quotedL_len (n : Nat) : ∀ (l : List UInt8) (x : List UInt8 × List UInt8), l.length ≤ n → quotedL l = some x → x.2.length < l.length := by
  induction n with
  | zero =>
    intro l x hl h
    obtain rfl := List.eq_nil_of_length_eq_zero (by omega : l.length = 0)
    rw [quotedL_nil _ (by simp)] at h; cases h
  | succ n ih =>
    intro l x hl h
    have hd := dropWhile_len (by_ notQuote) l
    match hr : l.dropWhile (by_ notQuote) with
    | [] => rw [quotedL_nil _ hr] at h; cases h
    | [c] =>
      rw [quotedL_one l [] c hr (by simp)] at h
      cases h; rw [hr] at hd; simp at hd ⊢; omega
    | c :: d :: r =>
      rw [hr] at hd; simp at hd
      by_cases h39 : d = 39
      · subst h39
        rw [quotedL_two l r c hr] at h
        obtain ⟨y, hy, rfl⟩ := Option.map_eq_some_iff.1 h
        have := ih r y (by omega) hy
        simp only; omega
      · rw [quotedL_one l (d :: r) c hr (by simp [h39])] at h
        cases h; simp; omega
theorem tokenL_lt (l : List UInt8) (x : Tk × List UInt8) (h : tokenL l = some x) : x.2.length < l.length := by
  cases l with
  | nil => cases h
  | cons c l =>
    cases h1 : isLetter c.toNat with
    | true =>
      rw [tokenL_word c l h1] at h
      split at h
      · cases h; exact takeDrop_lt _ _ _ (by simp [by_, isPart, h1])
      · cases h
    | false =>
      cases h2 : isDigit c.toNat with
      | true =>
        rw [tokenL_number c l h1 h2] at h
        split at h
        · cases h; exact takeDrop_lt _ _ _ (by simp [by_, h2])
        · cases h
      | false =>
        by_cases h3 : c = 39
        · subst h3
          rw [tokenL_quote] at h
          cases hq : quotedL l with
          | none => rw [hq] at h; cases h
          | some y =>
            rw [hq] at h
            have hl := quotedL_len _ l y (Nat.le_refl _) hq
            simp only at h
            split at h
            · cases h; simp; omega
            · cases h
        · rw [tokenL_sign c l h1 h2 h3] at h
          split at h
          · cases h
          · rename_i hne
            cases h
            simp only [List.length_drop]
            have := List.length_pos_iff.2 hne
            simp; omega
theorem skipL_len (n : Nat) : ∀ l : List UInt8, l.length ≤ n → (skipL l).length ≤ l.length := by
  induction n with
  | zero => intro l hl; obtain rfl := List.eq_nil_of_length_eq_zero (by omega : l.length = 0); rw [skipL_done _ (by decide)]; simp
  | succ n ih =>
    intro l hl
    cases h : Lib.hasPrefix (l.dropWhile (by_ isBlank)) [45, 45] with
    | false => rw [skipL_done _ h]; exact dropWhile_len _ _
    | true =>
      rw [skipL_more _ h]
      have h1 := skip_less l h
      have := ih ((l.dropWhile (by_ isBlank)).dropWhile (by_ notNl)) (by omega)
      omega
theorem skipL_le (l : List UInt8) : (skipL l).length ≤ l.length := skipL_len _ l (Nat.le_refl _)

/-- the tokens of a text of which what stands ahead was passed over, its length being total: all of them; or a fault, and where -/
def lexGo (total : Nat) (l : List UInt8) (acc : List Tok) : List Tok × Int × Int :=
  if l = [] then (acc, total, 0)
  else match _h : tokenL l with
    | none => ([], (total : Int) - l.length, 91)
    | some x => if acc.length = 400 then ([], (total : Int) - l.length, 3) else lexGo total (skipL x.2) (acc ++ [⟨x.1.kind, ⟨x.1.text.toArray⟩, x.1.n, (total : Int) - l.length⟩])
  termination_by l.length
  decreasing_by
  have h1 := tokenL_lt _ _ _h
  have h2 := skipL_le x.2
  omega
theorem lexGo_nil (total : Nat) (acc : List Tok) : lexGo total [] acc = (acc, (total : Int), 0) := by rw [lexGo]; simp
theorem lexGo_none (total : Nat) (l : List UInt8) (acc : List Tok) (h0 : l ≠ []) (h : tokenL l = none) : lexGo total l acc = ([], (total : Int) - l.length, 91) := by
  rw [lexGo, if_neg h0]; split
  · rfl
  · rename_i e; rw [h] at e; cases e
theorem lexGo_full (total : Nat) (l : List UInt8) (acc : List Tok) (x : Tk × List UInt8) (h0 : l ≠ []) (h : tokenL l = some x) (hf : acc.length = 400) : lexGo total l acc = ([], (total : Int) - l.length, 3) := by
  rw [lexGo, if_neg h0]; split
  · rename_i e; rw [h] at e; cases e
  · rw [if_pos hf]
theorem lexGo_more (total : Nat) (l : List UInt8) (acc : List Tok) (x : Tk × List UInt8) (h0 : l ≠ []) (h : tokenL l = some x) (hf : acc.length ≠ 400) :
    lexGo total l acc = lexGo total (skipL x.2) (acc ++ [⟨x.1.kind, ⟨x.1.text.toArray⟩, x.1.n, (total : Int) - l.length⟩]) := by
  rw [lexGo, if_neg h0]; split
  · rename_i e; rw [h] at e; cases e
  · rename_i e; rw [h] at e; cases e; rw [if_neg hf]
/-- all tokens of a text, or its fault and place -/
def lexL (s : List UInt8) : List Tok × Int × Int :=
  if 2048 < s.length then ([], 0, 5) else lexGo s.length (skipL s) []
end Go.Proofs.Ytamlgkikjajcpaa
