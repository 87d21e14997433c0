/- Packed by a program of this repo: Vg Vh Vi. -/
import Derived.Test.YtodoejfkjimeaaaDoorKRCa
import Derived.Test.YtodoejfkjimeaaaDoorKRUe
import Derived.Test.YtodoejfkjimeaaaDoorKRCx
set_option linter.unusedSimpArgs false
set_option linter.unusedVariables false
set_option maxRecDepth 100000
namespace Go.Proofs.YtodoejfkjimeaaaDoor
open Go Go.RowKit Am
def Stop (p : UInt8 → Bool) (s : Tx) : Prop := ∀ c r, s = c :: r → p c = false
theorem run_inj (p : UInt8 → Bool) : ∀ (l m s t : Tx), (∀ c ∈ l, p c = true) → (∀ c ∈ m, p c = true) → Stop p s → Stop p t → l ++ s = m ++ t → l = m ∧ s = t
  | [], [], s, t, _, _, _, _, h => ⟨rfl, h⟩
  | [], d :: m, s, t, _, h2, h3, _, h => by
    have := h3 d (m ++ t) h
    rw [h2 d List.mem_cons_self] at this; cases this
  | c :: l, [], s, t, h1, _, _, h4, h => by
    have := h4 c (l ++ s) h.symm
    rw [h1 c List.mem_cons_self] at this; cases this
  | c :: l, d :: m, s, t, h1, h2, h3, h4, h => by
    simp only [List.cons_append, List.cons.injEq] at h
    obtain ⟨rfl, h⟩ := h
    obtain ⟨rfl, h6⟩ := run_inj p l m s t (fun c hc => h1 c (List.mem_cons_of_mem _ hc)) (fun c hc => h2 c (List.mem_cons_of_mem _ hc)) h3 h4 h
    exact ⟨rfl, h6⟩
def isD (c : UInt8) : Bool := decide (48 ≤ c.toNat) && decide (c.toNat ≤ 57)
def isNm (c : UInt8) : Bool := !by_ noName c
def isQ (c : UInt8) : Bool := decide (c = 39)
def Dl (s : Tx) : Prop := s = [] ∨ ∃ c r, s = c :: r ∧ (c = 32 ∨ c = 41 ∨ c = 44)
theorem Dl.stop {s : Tx} (h : Dl s) (p : UInt8 → Bool) (hp : p 32 = false ∧ p 41 = false ∧ p 44 = false) : Stop p s := by
  rintro c r rfl
  rcases h with h | ⟨c', r', h1, h2⟩
  · cases h
  · cases h1
    rcases h2 with rfl | rfl | rfl
    · exact hp.1
    · exact hp.2.1
    · exact hp.2.2
theorem Dl.d {s : Tx} (h : Dl s) : Stop isD s := h.stop isD (by decide)
theorem Dl.n {s : Tx} (h : Dl s) : Stop isNm s := h.stop isNm (by decide)
theorem Dl.q {s : Tx} (h : Dl s) : Stop isQ s := h.stop isQ (by decide)
theorem dl_cons (c : UInt8) (r : Tx) (h : c = 32 ∨ c = 41 ∨ c = 44) : Dl (c :: r) := .inr ⟨c, r, rfl, h⟩
/-! numbers -/
def valT (l : Tx) : Nat := l.foldl (fun a c => 10 * a + (c.toNat - 48)) 0
theorem valT_snoc (l : Tx) (c : UInt8) : valT (l ++ [c]) = 10 * valT l + (c.toNat - 48) := by simp [valT]
theorem dig_at {d : Nat} (h : d ≤ 9) : (UInt8.ofNat (48 + d)).toNat = 48 + d := by
  rw [UInt8.toNat_ofNat']; omega
theorem dig_all : ∀ (k : Nat) (n : Int), 0 ≤ n → ∀ c ∈ digF k n, isD c = true
  | 0, n, _, c, h => by cases h
  | k + 1, n, hn, c, h => by
    have t := tq n
    simp only [digF, List.mem_append, List.mem_singleton] at h
    rcases h with h | rfl
    · split at h
      · exact dig_all k (n.tdiv 10) (t.2.2.2.1 hn).2 c h
      · cases h
    · have hm := (t.2.2.2.1 hn).1
      have hd := dig_at (d := (n.tmod 10).natAbs) (by omega)
      simp only [isD, hd, Bool.and_eq_true, decide_eq_true_eq]
      omega
theorem dig_val : ∀ (k : Nat) (n : Int), 0 ≤ n → n.natAbs < 10 ^ k → (valT (digF k n) : Int) = n
  | 0, n, hn, h => by
    have : n = 0 := by simp at h; exact h
    subst this; rfl
  | k + 1, n, hn, h => by
    have t := tq n
    have hm := t.2.2.2.1 hn
    have hd := dig_at (d := (n.tmod 10).natAbs) (by omega)
    rw [digF, valT_snoc, hd]
    have ih : (valT (if n.tdiv 10 ≠ 0 then digF k (n.tdiv 10) else []) : Int) = n.tdiv 10 := by
      split
      · exact dig_val k (n.tdiv 10) hm.2 (tdiv_lt h)
      · rename_i h0
        have : n.tdiv 10 = 0 := by omega
        rw [this]; rfl
    have t1 := t.1
    omega
theorem dec_inj {n m : Int} {s t : Tx} (hn : 0 ≤ n) (hm : 0 ≤ m) (rn : rng n) (rm : rng m) (hs : Stop isD s) (ht : Stop isD t) (h : decF 40 n ++ s = decF 40 m ++ t) : n = m ∧ s = t := by
  rw [dec40 rn, dec40 rm, if_neg (by omega), if_neg (by omega), List.nil_append, List.nil_append] at h
  obtain ⟨h1, h2⟩ := run_inj isD _ _ _ _ (dig_all 39 n hn) (dig_all 39 m hm) hs ht h
  have e1 := dig_val 39 n hn (by unfold rng at rn; omega)
  have e2 := dig_val 39 m hm (by unfold rng at rm; omega)
  rw [h1] at e1
  exact ⟨e1.symm.trans e2, h2⟩
/-! texts in quotes -/
theorem esc_inj : ∀ (a b s t : Tx), Stop isQ s → Stop isQ t → a.flatMap esc ++ 39 :: s = b.flatMap esc ++ 39 :: t → a = b ∧ s = t
  | [], [], s, t, _, _, h => by simpa using h
  | [], d :: b, s, t, hs, _, h => by
    by_cases hd : d = 39
    · subst hd
      simp [esc] at h
      have := hs _ _ h
      simp [isQ] at this
    · simp [esc, hd] at h
      exact absurd h.1.symm hd
  | d :: a, [], s, t, _, ht, h => by
    by_cases hd : d = 39
    · subst hd
      simp [esc] at h
      have := ht _ _ h.symm
      simp [isQ] at this
    · simp [esc, hd] at h
  | c :: a, d :: b, s, t, hs, ht, h => by
    have key : c = d ∧ a.flatMap esc ++ 39 :: s = b.flatMap esc ++ 39 :: t := by
      by_cases hc : c = 39 <;> by_cases hd : d = 39
      · subst hc hd; simpa [esc] using h
      · subst hc; simp [esc, hd] at h; exact absurd h.1.symm hd
      · subst hd; simp [esc, hc] at h
      · simpa [esc, hc, hd] using h
    obtain ⟨rfl, h2⟩ := key
    obtain ⟨rfl, h3⟩ := esc_inj a b s t hs ht h2
    exact ⟨rfl, h3⟩
/-! names -/
theorem name_all {l : Tx} (h : nameL l = true) : l ≠ [] ∧ (∀ c ∈ l, isNm c = true) ∧ (∀ c, l.head? = some c → isD c = false ∧ isNm c = true) := by
  cases l with
  | nil => simp [nameL] at h
  | cons c r =>
    simp only [nameL, Bool.and_eq_true, Bool.not_eq_true', List.any_eq_false] at h
    obtain ⟨⟨⟨h1, h2⟩, h3⟩, h4⟩ := h
    have hall : ∀ d ∈ c :: r, isNm d = true := fun d hd => by
      have := h4 d hd
      simpa [isNm] using this
    refine ⟨by simp, hall, fun d hd => ?_⟩
    simp only [List.head?_cons, Option.some.injEq] at hd
    subst hd
    refine ⟨?_, hall c List.mem_cons_self⟩
    have h2' := of_decide_eq_false h2
    unfold isD
    simp only [Bool.and_eq_false_iff, decide_eq_false_iff_not]
    omega
def colP (table name : Tx) : Tx := if table = [] then name else table ++ [46] ++ name
theorem col_inj {t1 n1 t2 n2 s t : Tx} (h1 : nameL n1 = true) (h2 : nameL n2 = true) (g1 : t1 = [] ∨ nameL t1 = true) (g2 : t2 = [] ∨ nameL t2 = true) (hs : Dl s) (ht : Dl t) (h : colP t1 n1 ++ s = colP t2 n2 ++ t) : t1 = t2 ∧ n1 = n2 ∧ s = t := by
  have dot : ∀ r, Stop isNm (46 :: r) := fun r c r' e => by cases e; decide
  unfold colP at h
  by_cases e1 : t1 = []
  · by_cases e2 : t2 = []
    · rw [if_pos e1, if_pos e2] at h
      obtain ⟨h3, h4⟩ := run_inj isNm _ _ _ _ (name_all h1).2.1 (name_all h2).2.1 hs.n ht.n h
      exact ⟨e1.trans e2.symm, h3, h4⟩
    · rw [if_pos e1, if_neg e2, List.append_assoc, List.append_assoc] at h
      obtain ⟨h3, h4⟩ := run_inj isNm _ _ _ _ (name_all h1).2.1 (name_all (g2.resolve_left e2)).2.1 hs.n (dot _) h
      exfalso
      subst h4
      rcases hs with h | ⟨c, r, h, hc⟩
      · cases h
      · cases h; revert hc; decide
  · by_cases e2 : t2 = []
    · rw [if_neg e1, if_pos e2, List.append_assoc, List.append_assoc] at h
      obtain ⟨h3, h4⟩ := run_inj isNm _ _ _ _ (name_all (g1.resolve_left e1)).2.1 (name_all h2).2.1 (dot _) ht.n h
      exfalso
      subst h4
      rcases ht with h | ⟨c, r, h, hc⟩
      · cases h
      · cases h; revert hc; decide
    · rw [if_neg e1, if_neg e2, List.append_assoc, List.append_assoc, List.append_assoc, List.append_assoc] at h
      obtain ⟨h3, h4⟩ := run_inj isNm _ _ _ _ (name_all (g1.resolve_left e1)).2.1 (name_all (g2.resolve_left e2)).2.1 (dot _) (dot _) h
      simp only [List.cons_append, List.nil_append, List.cons.injEq, true_and] at h4
      obtain ⟨h5, h6⟩ := run_inj isNm _ _ _ _ (name_all h1).2.1 (name_all h2).2.1 hs.n ht.n h4
      exact ⟨h3, h5, h6⟩
/-! the forms of an expression that may be -/
inductive Form (k : Nat) : Ep → Prop
  | lit (kind n : Int) (text : Tx) (h : valOk kind n text = true) (h1 : kind = 1 → 0 ≤ n) : Form k (.mk 0 kind n text [] [] [])
  | col (table name : Tx) (h : nameL name = true) (h1 : table = [] ∨ nameL table = true) : Form k (.mk 1 0 0 [] table name [])
  | one (op : Int) (a : Ep) (h : op = 2 ∨ op = 3 ∨ op = 16 ∨ op = 17 ∨ op = 19 ∨ op = 20 ∨ op = 21 ∨ op = 22) (ha : OKk k a) : Form k (.mk op 0 0 [] [] [] [a])
  | all : Form k (.mk 18 0 0 [] [] [] [])
  | two (op : Int) (a b : Ep) (h : 4 ≤ op ∧ op ≤ 15) (ha : OKk k a) (hb : OKk k b) : Form k (.mk op 0 0 [] [] [] [a, b])
theorem form {k : Nat} {e : Ep} (h : OKk (k + 1) e) : Form k e := by
  obtain ⟨hp, ha⟩ := h
  obtain ⟨op, kind, n, text, table, name, args⟩ := e
  have ho := partOk_op hp
  have hr := partOk_args hp
  unfold partOk at hp
  simp only [Ep.op, Ep.kind, Ep.n, Ep.text, Ep.table, Ep.name, Ep.args] at hp ha ho hr
  rw [Bool.and_eq_true] at hp
  have hp2 := hp.2
  obtain ⟨hr1, hr2⟩ := hr
  by_cases h0 : op = 0
  · subst h0
    have hz : args = [] := List.eq_nil_of_length_eq_zero (by simp [argsN] at hr2; omega)
    simp at hp2
    obtain ⟨⟨⟨h1, h2⟩, h3⟩, h4⟩ := hp2
    subst hz h1 h2
    exact .lit kind n text h3 (fun hk => by
      rcases h4 with h4 | h4
      · simp_all
      · exact of_decide_eq_true h4)
  · by_cases h1 : op = 1
    · subst h1
      have hz : args = [] := List.eq_nil_of_length_eq_zero (by simp [argsN] at hr2; omega)
      simp at hp2
      obtain ⟨⟨⟨h1, h2, h3⟩, h4⟩, h5⟩ := hp2
      have k1 := of_decide_eq_true h1
      have k2 := of_decide_eq_true h2
      have k3 := of_decide_eq_true h3
      subst hz k1 k2 k3
      exact .col table name h4 (h5.imp (fun h => of_decide_eq_true h) (fun h => h))
    · simp [h0, h1] at hp2
      obtain ⟨⟨h3, h4, h5⟩, h6⟩ := hp2
      have k3 := of_decide_eq_true h3
      have k4 := of_decide_eq_true h4
      have k5 := of_decide_eq_true h5
      have h67 : table = [] ∧ name = [] := List.append_eq_nil_iff.1 (of_decide_eq_true (by first | exact h6 | simpa using h6))
      obtain ⟨k6, k7⟩ := h67
      subst k3 k4 k5 k6 k7
      by_cases h18 : op = 18
      · subst h18
        have hz : args = [] := List.eq_nil_of_length_eq_zero (by simp [argsN] at hr2; omega)
        subst hz; exact .all
      · by_cases hone : op = 2 ∨ op = 3 ∨ op = 16 ∨ op = 17 ∨ op = 19 ∨ op = 20 ∨ op = 21 ∨ op = 22
        · have hz : args.length = 1 := by
            unfold argsN at hr2
            rw [if_neg (by omega), if_pos hone] at hr2
            simp only at hr2; omega
          match args, hz with
          | [a], _ => exact .one op a hone (ha a List.mem_cons_self)
        · have hz : args.length = 2 := by
            unfold argsN at hr2
            rw [if_neg (by omega), if_neg hone] at hr2
            simp only at hr2; omega
          match args, hz with
          | [a, b], _ => exact .two op a b (by omega) (ha a List.mem_cons_self) (ha b (List.mem_cons_of_mem _ List.mem_cons_self))
end Go.Proofs.YtodoejfkjimeaaaDoor

set_option linter.unusedSimpArgs false
set_option linter.unusedVariables false
set_option maxRecDepth 100000
namespace Go.Proofs.YtodoejfkjimeaaaDoor
open Go Go.RowKit Am
theorem pr_eq (op kind n : Int) (text table name : Tx) (args : List Ep) : printF (.mk op kind n text table name args) = putF op kind n text table name (args.map printF) := printF_eq _
theorem pr_col {table name : Tx} (h1 : table = [] ∨ nameL table = true) : printF (.mk 1 0 0 [] table name []) = colP table name := by
  rw [pr_eq]
  show Lib.trimPrefix (table ++ [46] ++ name) [46] = _
  rw [trim_dot]
  · rfl
  · intro b hb
    rcases h1 with rfl | h1
    · cases hb
    · have := ((name_all h1).2.2 b hb).2
      rintro rfl
      revert this; decide
def onePre (op : Int) : Tx := if op = 2 then [40, 45] else if op = 3 then [40, 78, 79, 84, 32] else if op = 16 ∨ op = 17 then [40] else fnF (op - 19).toNat ++ [40]
def oneSuf (op : Int) : Tx := if op = 16 then [32, 73, 83, 32, 78, 85, 76, 76, 41] else if op = 17 then [32, 73, 83, 32, 78, 79, 84, 32, 78, 85, 76, 76, 41] else [41]
theorem pr_one {op : Int} (a : Ep) (h : op = 2 ∨ op = 3 ∨ op = 16 ∨ op = 17 ∨ op = 19 ∨ op = 20 ∨ op = 21 ∨ op = 22) : printF (.mk op 0 0 [] [] [] [a]) = onePre op ++ printF a ++ oneSuf op := by
  rw [pr_eq]
  rcases h with rfl | rfl | rfl | rfl | rfl | rfl | rfl | rfl <;> simp [putF, onePre, oneSuf]
theorem pr_two {op : Int} (a b : Ep) (h : 4 ≤ op ∧ op ≤ 15) : printF (.mk op 0 0 [] [] [] [a, b]) = [40] ++ printF a ++ [32] ++ signF (op - 4).toNat ++ [32] ++ printF b ++ [41] := by
  rw [pr_eq]
  unfold putF
  rw [if_neg (by omega), if_neg (by omega), if_neg (by omega), if_neg (by omega), if_neg (by omega), if_neg (by omega), if_neg (by omega), if_neg (by omega)]
  rfl
theorem dec_head {n : Int} (h0 : 0 ≤ n) (hr : rng n) : ∃ c r, decF 40 n = c :: r ∧ isD c = true := by
  rw [dec40 hr, if_neg (by omega), List.nil_append]
  have hne : digF 39 n ≠ [] := by simp [digF]
  cases hd : digF 39 n with
  | nil => exact absurd hd hne
  | cons c r => exact ⟨c, r, rfl, dig_all 39 n h0 c (by rw [hd]; exact List.mem_cons_self)⟩
theorem isD_ne {c : UInt8} (h : isD c = true) : c ≠ 45 ∧ c ≠ 42 ∧ c ≠ 78 ∧ c ≠ 40 ∧ c ≠ 67 ∧ c ≠ 83 ∧ c ≠ 77 ∧ c ≠ 84 ∧ c ≠ 70 ∧ c ≠ 39 := by
  refine ⟨?_, ?_, ?_, ?_, ?_, ?_, ?_, ?_, ?_, ?_⟩ <;> (rintro rfl; revert h; decide)
theorem isNm_ne {c : UInt8} (h : isNm c = true) : c ≠ 45 ∧ c ≠ 42 ∧ c ≠ 78 ∧ c ≠ 40 ∧ c ≠ 67 ∧ c ≠ 83 ∧ c ≠ 77 ∧ c ≠ 84 ∧ c ≠ 70 ∧ c ≠ 39 := by
  refine ⟨?_, ?_, ?_, ?_, ?_, ?_, ?_, ?_, ?_, ?_⟩ <;> (rintro rfl; revert h; decide)
theorem col_head {table name : Tx} (h : nameL name = true) (h1 : table = [] ∨ nameL table = true) : ∃ c r, colP table name = c :: r ∧ isD c = false ∧ isNm c = true := by
  have key : ∀ l : Tx, nameL l = true → ∀ r, ∃ c r', l ++ r = c :: r' ∧ isD c = false ∧ isNm c = true := by
    intro l hl r
    obtain ⟨hne, _, hh⟩ := name_all hl
    cases l with
    | nil => exact absurd rfl hne
    | cons c l => exact ⟨c, l ++ r, rfl, hh c rfl⟩
  unfold colP
  by_cases e : table = []
  · rw [if_pos e]
    have := key name h []
    simpa using this
  · rw [if_neg e, List.append_assoc]
    exact key table (h1.resolve_left e) _
theorem val_kinds {kind n : Int} {text : Tx} (h : valOk kind n text = true) : (kind = 0 ∧ n = 0 ∧ text = []) ∨ (kind = 1 ∧ text = []) ∨ (kind = 2 ∧ text = [] ∧ IntKind.u64.wrap n ≤ 1) ∨ (kind = 3 ∧ n = 0) := by
  unfold valOk at h
  split at h
  · simp at h; exact .inl ⟨by assumption, h.1, h.2⟩
  · split at h
    · simp at h; exact .inr (.inl ⟨by assumption, h⟩)
    · split at h
      · simp at h; exact .inr (.inr (.inl ⟨by assumption, h.1, h.2⟩))
      · split at h
        · simp at h; exact .inr (.inr (.inr ⟨by assumption, h.1⟩))
        · cases h
theorem lit_head {kind n : Int} {text : Tx} (h : valOk kind n text = true) (h1 : kind = 1 → 0 ≤ n) (hr : rng n) : ∃ c r, litF kind n text = c :: r ∧ c ≠ 45 ∧ c ≠ 42 ∧ (c = 78 → r.head? = some 85) := by
  rcases val_kinds h with ⟨rfl, _, _⟩ | ⟨rfl, _⟩ | ⟨rfl, _, _⟩ | ⟨rfl, _⟩
  · exact ⟨78, _, rfl, by decide, by decide, fun _ => rfl⟩
  · obtain ⟨c, r, e, hc⟩ := dec_head (h1 rfl) hr
    have := isD_ne hc
    exact ⟨c, r, by simpa [litF] using e, this.1, this.2.1, fun e => absurd e this.2.2.1⟩
  · by_cases hn : n = 1
    · exact ⟨84, [82, 85, 69], by simp [litF, hn], by decide, by decide, fun e => by revert e; decide⟩
    · exact ⟨70, [65, 76, 83, 69], by simp [litF, hn], by decide, by decide, fun e => by revert e; decide⟩
  · exact ⟨39, _, by simp [litF]; rfl, by decide, by decide, fun e => absurd e (by decide)⟩
theorem Rg.num {e : Ep} (h : Rg e) : rng e.n := by cases h; assumption
theorem Rg.mem {e a : Ep} (h : Rg e) (ha : a ∈ e.args) : Rg a := by
  cases h with
  | mk e h hm => exact hm a ha
theorem one_head {op : Int} (h : op = 2 ∨ op = 3 ∨ op = 16 ∨ op = 17 ∨ op = 19 ∨ op = 20 ∨ op = 21 ∨ op = 22) : ∃ c r, onePre op = c :: r ∧ c ≠ 45 ∧ c ≠ 42 ∧ c ≠ 78 := by
  rcases h with rfl | rfl | rfl | rfl | rfl | rfl | rfl | rfl <;> exact ⟨_, _, rfl, by decide, by decide, by decide⟩
theorem pf_head : ∀ (k : Nat) (e : Ep), OKk k e → Rg e → ∃ c r, printF e = c :: r ∧ c ≠ 45 ∧ c ≠ 42 ∧ (c = 78 → r.head? = some 85)
  | 0, _, h, _ => h.elim
  | k + 1, e, h, hr => by
    cases form h with
    | lit kind n text hv h1 => exact lit_head (by simpa using hv) h1 hr.num
    | col table name hn h1 =>
      obtain ⟨c, r, e, _, hc⟩ := col_head hn h1
      have := isNm_ne hc
      exact ⟨c, r, by rw [pr_col h1, e], this.1, this.2.1, fun e => absurd e this.2.2.1⟩
    | one op a ho ha =>
      obtain ⟨c, r, e, h1, h2, h3⟩ := one_head ho
      exact ⟨c, r ++ printF a ++ oneSuf op, by rw [pr_one a ho, e]; simp, h1, h2, fun e => absurd e h3⟩
    | all => exact ⟨67, _, by rw [pr_eq]; rfl, by decide, by decide, fun e => by revert e; decide⟩
    | two op a b ho ha hb => exact ⟨40, _, by rw [pr_two a b ho]; simp only [List.cons_append, List.nil_append]; rfl, by decide, by decide, fun e => absurd e (by decide)⟩
def cls (l : Tx) : Nat :=
  if l[0]? = some 40 then (if l[1]? = some 45 then 2 else if l[1]? = some 78 ∧ l[2]? = some 79 then 3 else 4)
  else if l[0]? = some 67 then (if l[6]? = some 42 then 18 else 19)
  else if l[0]? = some 83 then 20
  else if l[0]? = some 77 then (if l[1]? = some 73 then 21 else 22)
  else if l[0]? = some 78 then 30
  else if l[0]? = some 84 then 32
  else if l[0]? = some 70 then 33
  else if l[0]? = some 39 then 34
  else if (l[0]?).any isD = true then 31 else 1
theorem cls_paren {p s : Tx} (h : ∃ c r, p = c :: r ∧ c ≠ 45 ∧ c ≠ 42 ∧ (c = 78 → r.head? = some 85)) : cls (40 :: (p ++ s)) = 4 := by
  obtain ⟨c, r, rfl, h1, _, h3⟩ := h
  unfold cls
  have e0 : (40 :: (c :: r ++ s) : Tx)[0]? = some 40 := rfl
  have e1 : (40 :: (c :: r ++ s) : Tx)[1]? = some c := rfl
  rw [e0, e1, if_pos rfl, if_neg (by simpa using h1), if_neg]
  rintro ⟨h4, h5⟩
  have h4 := Option.some.inj h4
  have h6 := h3 h4
  cases r with
  | nil => cases h6
  | cons d r =>
    have h6 : d = 85 := by simpa using h6
    have h5 : d = 79 := by simpa using h5
    rw [h6] at h5; revert h5; decide
def codeL (kind n : Int) : Nat := if kind = 0 then 30 else if kind = 1 then 31 else if kind = 2 then (if n = 1 then 32 else 33) else 34
theorem cls_lit {kind n : Int} {text s : Tx} (h : valOk kind n text = true) (h1 : kind = 1 → 0 ≤ n) (hr : rng n) : cls (litF kind n text ++ s) = codeL kind n := by
  rcases val_kinds h with ⟨rfl, _, _⟩ | ⟨rfl, _⟩ | ⟨rfl, _, _⟩ | ⟨rfl, _⟩
  · simp [litF, cls, codeL]
  · obtain ⟨c, r, e, hc⟩ := dec_head (h1 rfl) hr
    have := isD_ne hc
    have el : litF 1 n text = c :: r := by simpa [litF] using e
    rw [el]
    simp [cls, codeL, this, hc]
  · by_cases hn : n = 1
    · simp [litF, cls, codeL, hn]
    · simp [litF, cls, codeL, hn]
  · simp [litF, cls, codeL]
theorem cls_col {table name s : Tx} (h : nameL name = true) (h1 : table = [] ∨ nameL table = true) : cls (colP table name ++ s) = 1 := by
  obtain ⟨c, r, e, hd, hc⟩ := col_head h h1
  have := isNm_ne hc
  rw [e]
  simp [cls, this, hd]
theorem cls_one {op : Int} {p s : Tx} (ho : op = 2 ∨ op = 3 ∨ op = 16 ∨ op = 17 ∨ op = 19 ∨ op = 20 ∨ op = 21 ∨ op = 22) (h : ∃ c r, p = c :: r ∧ c ≠ 45 ∧ c ≠ 42 ∧ (c = 78 → r.head? = some 85)) : cls (onePre op ++ p ++ oneSuf op ++ s) = if op = 16 ∨ op = 17 then 4 else op.toNat := by
  rcases ho with rfl | rfl | rfl | rfl | rfl | rfl | rfl | rfl
  · simp [onePre, cls]
  · simp [onePre, cls]
  · rw [show onePre 16 = [40] from rfl, List.append_assoc, List.append_assoc]; exact cls_paren (p := p) h
  · rw [show onePre 17 = [40] from rfl, List.append_assoc, List.append_assoc]; exact cls_paren (p := p) h
  · obtain ⟨c, r, rfl, _, h2, _⟩ := h
    simp [onePre, fnF, cls, h2]
  · simp [onePre, fnF, cls]
  · simp [onePre, fnF, cls]
  · simp [onePre, fnF, cls]
theorem sign_all : ∀ i : Fin 12, ∀ c ∈ signF i.val, (!decide (c = 32)) = true := by decide
theorem sign_one : ∀ i j : Fin 12, signF i.val = signF j.val → i = j := by decide
theorem sign_inj {i j : Nat} (hi : i < 12) (hj : j < 12) {r r' : Tx} (h : signF i ++ 32 :: r = signF j ++ 32 :: r') : i = j ∧ r = r' := by
  have st : ∀ q : Tx, Stop (fun c => !decide (c = 32)) (32 :: q) := fun q c t e => by cases e; decide
  obtain ⟨h1, h2⟩ := run_inj (fun c => !decide (c = 32)) _ _ _ _ (sign_all ⟨i, hi⟩) (sign_all ⟨j, hj⟩) (st r) (st r') h
  exact ⟨congrArg Fin.val (sign_one ⟨i, hi⟩ ⟨j, hj⟩ h1), by simpa using h2⟩
theorem sign_is : ∀ i : Fin 12, ∀ r : Tx, signF i.val ++ r ≠ [] ∧ (signF i.val ++ r).head? ≠ some 73 := by
  intro i r
  match i with
  | ⟨0, _⟩ => exact ⟨by simp [signF], by simp [signF]⟩
  | ⟨1, _⟩ => exact ⟨by simp [signF], by simp [signF]⟩
  | ⟨2, _⟩ => exact ⟨by simp [signF], by simp [signF]⟩
  | ⟨3, _⟩ => exact ⟨by simp [signF], by simp [signF]⟩
  | ⟨4, _⟩ => exact ⟨by simp [signF], by simp [signF]⟩
  | ⟨5, _⟩ => exact ⟨by simp [signF], by simp [signF]⟩
  | ⟨6, _⟩ => exact ⟨by simp [signF], by simp [signF]⟩
  | ⟨7, _⟩ => exact ⟨by simp [signF], by simp [signF]⟩
  | ⟨8, _⟩ => exact ⟨by simp [signF], by simp [signF]⟩
  | ⟨9, _⟩ => exact ⟨by simp [signF], by simp [signF]⟩
  | ⟨10, _⟩ => exact ⟨by simp [signF], by simp [signF]⟩
  | ⟨11, _⟩ => exact ⟨by simp [signF], by simp [signF]⟩
theorem suf_dl {op : Int} (s : Tx) : Dl (oneSuf op ++ s) := by
  unfold oneSuf
  split
  · exact dl_cons _ _ (.inl rfl)
  · split
    · exact dl_cons _ _ (.inl rfl)
    · exact dl_cons _ _ (.inr (.inl rfl))
theorem pf_inj : ∀ (k : Nat) (e f : Ep) (s t : Tx), OKk k e → OKk k f → Rg e → Rg f → Dl s → Dl t → printF e ++ s = printF f ++ t → e = f ∧ s = t
  | 0, _, _, _, _, h, _, _, _, _, _, _ => h.elim
  | k + 1, e, f, s, t, he, hf, re, rf, hs, ht, h => by
    have hc := congrArg cls h
    have sub : ∀ {op : Int} {l : List Ep} {a : Ep}, Rg (.mk op 0 0 [] [] [] l) → a ∈ l → Rg a := fun h ha => h.mem ha
    cases form he with
    | lit kind n text hv h1 =>
      have pe : printF (.mk 0 kind n text [] [] []) = litF kind n text := by rw [pr_eq]; rfl
      rw [pe] at h hc
      rw [cls_lit hv h1 re.num] at hc
      cases form hf with
      | lit kind' n' text' hv' h1' =>
        have pf : printF (.mk 0 kind' n' text' [] [] []) = litF kind' n' text' := by rw [pr_eq]; rfl
        rw [pf] at h hc
        rw [cls_lit hv' h1' rf.num] at hc
        rcases val_kinds hv with ⟨rfl, rfl, rfl⟩ | ⟨rfl, rfl⟩ | ⟨rfl, rfl, w1⟩ | ⟨rfl, rfl⟩
        · rcases val_kinds hv' with ⟨rfl, rfl, rfl⟩ | ⟨rfl, rfl⟩ | ⟨rfl, rfl, w2⟩ | ⟨rfl, rfl⟩
          · exact ⟨rfl, by simpa [litF] using h⟩
          · simp [codeL] at hc
          · simp [codeL] at hc; split at hc <;> omega
          · simp [codeL] at hc
        · rcases val_kinds hv' with ⟨rfl, rfl, rfl⟩ | ⟨rfl, rfl⟩ | ⟨rfl, rfl, w2⟩ | ⟨rfl, rfl⟩
          · simp [codeL] at hc
          · have h' : decF 40 n ++ s = decF 40 n' ++ t := by simpa [litF] using h
            obtain ⟨rfl, h2⟩ := dec_inj (h1 rfl) (h1' rfl) re.num rf.num hs.d ht.d h'
            exact ⟨rfl, h2⟩
          · simp [codeL] at hc; split at hc <;> omega
          · simp [codeL] at hc
        · have hn : n = 0 ∨ n = 1 := by
            have := re.num
            unfold rng at this
            simp only [Ep.n] at this
            rw [IntKind.wrap_u64] at w1; omega
          rcases val_kinds hv' with ⟨rfl, rfl, rfl⟩ | ⟨rfl, rfl⟩ | ⟨rfl, rfl, w2⟩ | ⟨rfl, rfl⟩
          · simp [codeL] at hc; split at hc <;> omega
          · simp [codeL] at hc; split at hc <;> omega
          · have hn' : n' = 0 ∨ n' = 1 := by
              have := rf.num
              unfold rng at this
              simp only [Ep.n] at this
              rw [IntKind.wrap_u64] at w2; omega
            rcases hn with rfl | rfl <;> rcases hn' with rfl | rfl
            · exact ⟨rfl, by simpa [litF] using h⟩
            · simp [codeL] at hc
            · simp [codeL] at hc
            · exact ⟨rfl, by simpa [litF] using h⟩
          · simp [codeL] at hc; split at hc <;> omega
        · rcases val_kinds hv' with ⟨rfl, rfl, rfl⟩ | ⟨rfl, rfl⟩ | ⟨rfl, rfl, w2⟩ | ⟨rfl, rfl⟩
          · simp [codeL] at hc
          · simp [codeL] at hc
          · simp [codeL] at hc; split at hc <;> omega
          · have h' : text.flatMap esc ++ 39 :: s = text'.flatMap esc ++ 39 :: t := by
              rw [← replaceAll_esc, ← replaceAll_esc]
              simpa [litF] using h
            obtain ⟨rfl, h2⟩ := esc_inj _ _ _ _ hs.q ht.q h'
            exact ⟨rfl, h2⟩
      | col table name hn h2 =>
        rw [pr_col h2, cls_col hn h2] at hc
        unfold codeL at hc; repeat' split at hc
        all_goals omega
      | one op a ho ha =>
        rw [pr_one a ho, cls_one ho (pf_head k a ha (sub rf List.mem_cons_self))] at hc
        unfold codeL at hc; repeat' split at hc
        all_goals omega
      | all =>
        rw [show cls (printF (.mk 18 0 0 [] [] [] []) ++ t) = 18 from by rw [pr_eq]; rfl] at hc
        unfold codeL at hc; repeat' split at hc
        all_goals omega
      | two op a b ho ha hb =>
        rw [pr_two a b ho] at hc
        simp only [List.append_assoc] at hc
        rw [show ([40] ++ (printF a ++ ([32] ++ (signF (op - 4).toNat ++ ([32] ++ (printF b ++ ([41] ++ t)))))) : Tx) = 40 :: (printF a ++ ([32] ++ (signF (op - 4).toNat ++ ([32] ++ (printF b ++ ([41] ++ t)))))) from rfl, cls_paren (pf_head k a ha (sub rf List.mem_cons_self))] at hc
        unfold codeL at hc; repeat' split at hc
        all_goals omega
    | col table name hn h2 =>
      rw [pr_col h2, cls_col hn h2] at hc
      cases form hf with
      | lit kind' n' text' hv' h1' =>
        have pf : printF (.mk 0 kind' n' text' [] [] []) = litF kind' n' text' := by rw [pr_eq]; rfl
        rw [pf, cls_lit hv' h1' rf.num] at hc
        unfold codeL at hc; repeat' split at hc
        all_goals omega
      | col table' name' hn' h2' =>
        rw [pr_col h2, pr_col h2'] at h
        obtain ⟨rfl, rfl, h3⟩ := col_inj hn hn' h2 h2' hs ht h
        exact ⟨rfl, h3⟩
      | one op a ho ha =>
        rw [pr_one a ho, cls_one ho (pf_head k a ha (sub rf List.mem_cons_self))] at hc
        split at hc <;> omega
      | all =>
        rw [show cls (printF (.mk 18 0 0 [] [] [] []) ++ t) = 18 from by rw [pr_eq]; rfl] at hc
        omega
      | two op a b ho ha hb =>
        rw [pr_two a b ho] at hc
        simp only [List.append_assoc] at hc
        rw [show ([40] ++ (printF a ++ ([32] ++ (signF (op - 4).toNat ++ ([32] ++ (printF b ++ ([41] ++ t)))))) : Tx) = 40 :: (printF a ++ ([32] ++ (signF (op - 4).toNat ++ ([32] ++ (printF b ++ ([41] ++ t)))))) from rfl, cls_paren (pf_head k a ha (sub rf List.mem_cons_self))] at hc
        omega
    | one op a ho ha =>
      rw [pr_one a ho, cls_one ho (pf_head k a ha (sub re List.mem_cons_self))] at hc
      cases form hf with
      | lit kind' n' text' hv' h1' =>
        have pf : printF (.mk 0 kind' n' text' [] [] []) = litF kind' n' text' := by rw [pr_eq]; rfl
        rw [pf, cls_lit hv' h1' rf.num] at hc
        unfold codeL at hc; repeat' split at hc
        all_goals omega
      | col table name hn h2 =>
        rw [pr_col h2, cls_col hn h2] at hc
        split at hc <;> omega
      | one op' a' ho' ha' =>
        rw [pr_one a' ho', cls_one ho' (pf_head k a' ha' (sub rf List.mem_cons_self))] at hc
        rw [pr_one a ho, pr_one a' ho'] at h
        simp only [List.append_assoc] at h
        have hpre : onePre op = onePre op' := by
          by_cases p1 : op = 16 ∨ op = 17
          · rw [if_pos p1] at hc
            by_cases p2 : op' = 16 ∨ op' = 17
            · rcases p1 with rfl | rfl <;> rcases p2 with rfl | rfl <;> rfl
            · rw [if_neg p2] at hc; omega
          · rw [if_neg p1] at hc
            by_cases p2 : op' = 16 ∨ op' = 17
            · rw [if_pos p2] at hc; omega
            · rw [if_neg p2] at hc
              rw [show op = op' by omega]
        rw [hpre] at h
        have h3 := List.append_cancel_left h
        obtain ⟨rfl, h4⟩ := pf_inj k a a' _ _ ha ha' (sub re List.mem_cons_self) (sub rf List.mem_cons_self) (suf_dl s) (suf_dl t) h3
        have hop : op = op' := by
          by_cases p1 : op = 16 ∨ op = 17
          · rw [if_pos p1] at hc
            by_cases p2 : op' = 16 ∨ op' = 17
            · rcases p1 with rfl | rfl <;> rcases p2 with rfl | rfl
              · rfl
              · simp [oneSuf] at h4
              · simp [oneSuf] at h4
              · rfl
            · rw [if_neg p2] at hc; omega
          · rw [if_neg p1] at hc
            by_cases p2 : op' = 16 ∨ op' = 17
            · rw [if_pos p2] at hc; omega
            · rw [if_neg p2] at hc; omega
        subst hop
        exact ⟨rfl, List.append_cancel_left h4⟩
      | all =>
        rw [show cls (printF (.mk 18 0 0 [] [] [] []) ++ t) = 18 from by rw [pr_eq]; rfl] at hc
        split at hc <;> omega
      | two op' a' b' ho' ha' hb' =>
        rw [pr_two a' b' ho'] at hc
        simp only [List.append_assoc] at hc
        rw [show ([40] ++ (printF a' ++ ([32] ++ (signF (op' - 4).toNat ++ ([32] ++ (printF b' ++ ([41] ++ t)))))) : Tx) = 40 :: (printF a' ++ ([32] ++ (signF (op' - 4).toNat ++ ([32] ++ (printF b' ++ ([41] ++ t)))))) from rfl, cls_paren (pf_head k a' ha' (sub rf List.mem_cons_self))] at hc
        have p1 : op = 16 ∨ op = 17 := by
          by_cases p1 : op = 16 ∨ op = 17
          · exact p1
          · rw [if_neg p1] at hc; omega
        exfalso
        rw [pr_one a ho, pr_two a' b' ho', show onePre op = [40] from by rcases p1 with rfl | rfl <;> rfl] at h
        simp only [List.append_assoc] at h
        have h3 := List.append_cancel_left h
        obtain ⟨_, h4⟩ := pf_inj k a a' _ _ ha ha' (sub re List.mem_cons_self) (sub rf List.mem_cons_self) (suf_dl s) (dl_cons _ _ (.inl rfl)) h3
        have hsg := (sign_is ⟨(op' - 4).toNat, by omega⟩ ([32] ++ (printF b' ++ ([41] ++ t)))).2
        have h5 : (oneSuf op ++ s).tail.head? = some 73 := by rcases p1 with rfl | rfl <;> rfl
        rw [h4] at h5
        exact hsg h5
    | all =>
      rw [show cls (printF (.mk 18 0 0 [] [] [] []) ++ s) = 18 from by rw [pr_eq]; rfl] at hc
      cases form hf with
      | lit kind' n' text' hv' h1' =>
        have pf : printF (.mk 0 kind' n' text' [] [] []) = litF kind' n' text' := by rw [pr_eq]; rfl
        rw [pf, cls_lit hv' h1' rf.num] at hc
        unfold codeL at hc; repeat' split at hc
        all_goals omega
      | col table name hn h2 =>
        rw [pr_col h2, cls_col hn h2] at hc
        omega
      | one op a ho ha =>
        rw [pr_one a ho, cls_one ho (pf_head k a ha (sub rf List.mem_cons_self))] at hc
        split at hc <;> omega
      | all => exact ⟨rfl, List.append_cancel_left h⟩
      | two op a b ho ha hb =>
        rw [pr_two a b ho] at hc
        simp only [List.append_assoc] at hc
        rw [show ([40] ++ (printF a ++ ([32] ++ (signF (op - 4).toNat ++ ([32] ++ (printF b ++ ([41] ++ t)))))) : Tx) = 40 :: (printF a ++ ([32] ++ (signF (op - 4).toNat ++ ([32] ++ (printF b ++ ([41] ++ t)))))) from rfl, cls_paren (pf_head k a ha (sub rf List.mem_cons_self))] at hc
        omega
    | two op a b ho ha hb =>
      have hc4 : cls (printF (.mk op 0 0 [] [] [] [a, b]) ++ s) = 4 := by
        rw [pr_two a b ho]
        simp only [List.append_assoc]
        exact cls_paren (p := printF a) (pf_head k a ha (sub re List.mem_cons_self))
      rw [hc4] at hc
      cases form hf with
      | lit kind' n' text' hv' h1' =>
        have pf : printF (.mk 0 kind' n' text' [] [] []) = litF kind' n' text' := by rw [pr_eq]; rfl
        rw [pf, cls_lit hv' h1' rf.num] at hc
        unfold codeL at hc; repeat' split at hc
        all_goals omega
      | col table name hn h2 =>
        rw [pr_col h2, cls_col hn h2] at hc
        omega
      | one op' a' ho' ha' =>
        rw [pr_one a' ho', cls_one ho' (pf_head k a' ha' (sub rf List.mem_cons_self))] at hc
        have p1 : op' = 16 ∨ op' = 17 := by
          by_cases p1 : op' = 16 ∨ op' = 17
          · exact p1
          · rw [if_neg p1] at hc; omega
        exfalso
        rw [pr_one a' ho', pr_two a b ho, show onePre op' = [40] from by rcases p1 with rfl | rfl <;> rfl] at h
        simp only [List.append_assoc] at h
        have h3 := List.append_cancel_left h
        obtain ⟨_, h4⟩ := pf_inj k a a' _ _ ha ha' (sub re List.mem_cons_self) (sub rf List.mem_cons_self) (dl_cons _ _ (.inl rfl)) (suf_dl t) h3
        have hsg := (sign_is ⟨(op - 4).toNat, by omega⟩ ([32] ++ (printF b ++ ([41] ++ s)))).2
        have h5 : (oneSuf op' ++ t).tail.head? = some 73 := by rcases p1 with rfl | rfl <;> rfl
        rw [← h4] at h5
        exact hsg h5
      | all =>
        rw [show cls (printF (.mk 18 0 0 [] [] [] []) ++ t) = 18 from by rw [pr_eq]; rfl] at hc
        omega
      | two op' a' b' ho' ha' hb' =>
        rw [pr_two a b ho, pr_two a' b' ho'] at h
        simp only [List.append_assoc] at h
        have h3 := List.append_cancel_left h
        obtain ⟨rfl, h4⟩ := pf_inj k a a' _ _ ha ha' (sub re List.mem_cons_self) (sub rf List.mem_cons_self) (dl_cons _ _ (.inl rfl)) (dl_cons _ _ (.inl rfl)) h3
        have h5 : signF (op - 4).toNat ++ 32 :: (printF b ++ ([41] ++ s)) = signF (op' - 4).toNat ++ 32 :: (printF b' ++ ([41] ++ t)) := (List.cons.inj h4).2
        obtain ⟨h6, h7⟩ := sign_inj (by omega) (by omega) h5
        obtain ⟨rfl, h8⟩ := pf_inj k b b' _ _ hb hb' (sub re (List.mem_cons_of_mem _ List.mem_cons_self)) (sub rf (List.mem_cons_of_mem _ List.mem_cons_self)) (dl_cons _ _ (.inr (.inl rfl))) (dl_cons _ _ (.inr (.inl rfl))) h7
        obtain rfl : op = op' := by omega
        exact ⟨rfl, (List.cons.inj h8).2⟩
end Go.Proofs.YtodoejfkjimeaaaDoor

set_option linter.unusedSimpArgs false
set_option linter.unusedVariables false
set_option maxRecDepth 100000
namespace Go.Proofs.YtodoejfkjimeaaaDoor
open Go Go.RowKit Am
structure SSh (x : Sm) : Prop where
  table : (x.kind ≤ 7 → nameL x.table = true) ∧ (7 < x.kind → x.table = [])
  key : (x.kind ≤ 2 → nameL x.key = true) ∧ (2 < x.kind → x.key = [])
  index : (x.kind = 2 → nameL x.index = true) ∧ (x.kind ≠ 2 → x.index = [])
  join : x.join = [] ∨ (x.kind = 7 ∧ nameL x.join = true)
  cols : (x.kind = 1 → x.columns ≠ []) ∧ (x.kind ≠ 1 → x.columns = [])
  rows : (x.kind = 4 → x.rows ≠ []) ∧ (x.kind ≠ 4 → x.rows = [])
  sets : (x.kind = 5 → x.sets ≠ []) ∧ (x.kind ≠ 5 → x.sets = [])
  items : (x.kind = 7 → x.items ≠ []) ∧ (x.kind ≠ 7 → x.items = [])
  on : (x.join ≠ [] → x.on.length = 1) ∧ (x.join = [] → x.on = [])
  where_ : x.where_.length ≤ 1 ∧ (x.kind ≤ 4 ∨ 7 < x.kind → x.where_ = [])
  group : x.group.length ≤ 1 ∧ (x.kind ≠ 7 → x.group = [])
  order : x.kind ≠ 7 → x.order = []
  limit : x.kind ≠ 7 → x.limit = 0
  colname : ∀ c ∈ x.columns, nameL c.name = true
  setname : ∀ s ∈ x.sets, nameL s.name = true
theorem named_t {s : Tx} {p : Prop} {i : Decidable p} (h : namedF s (@decide p i) = true) : (p → nameL s = true) ∧ (¬ p → s = []) := by
  by_cases hp : p
  · rw [decide_eq_true hp] at h; exact ⟨fun _ => h, fun n => absurd hp n⟩
  · rw [decide_eq_false hp] at h; exact ⟨fun n => absurd n hp, fun _ => of_decide_eq_true h⟩
theorem count_t {n m l : Int} {a : Bool} (h : countF n m a l = true) : (a = true → l ≤ n ∧ n ≤ m) ∧ (a = false → n = 0) := by
  cases a
  · exact ⟨fun e => (by cases e), fun _ => of_decide_eq_true h⟩
  · refine ⟨fun _ => ?_, fun e => (by cases e)⟩
    simp only [countF, if_true, Bool.and_eq_true] at h
    exact ⟨of_decide_eq_true h.1, of_decide_eq_true h.2⟩
theorem len0 {α : Type} {l : List α} (h : (l.length : Int) = 0) : l = [] := List.eq_nil_of_length_eq_zero (by omega)
theorem lenp {α : Type} {l : List α} (h : 1 ≤ (l.length : Int)) : l ≠ [] := by rintro rfl; simp at h
theorem checkF_sh (x : Sm) (h : checkF x = 0) : SSh x := by
  unfold checkF at h
  by_cases h1 : x.kind < 1 ∨ 10 < x.kind
  · rw [if_pos h1] at h; cases h
  · rw [if_neg h1] at h
    by_cases h2 : shapeF x = false
    · rw [if_pos h2] at h; cases h
    · have h2' : shapeF x = true := by simpa using h2
      clear h h2
      unfold shapeF at h2'
      simp only [Bool.and_eq_true] at h2'
      obtain ⟨⟨⟨⟨⟨⟨⟨⟨⟨⟨⟨⟨⟨⟨⟨⟨a1, a2⟩, a3⟩, a4⟩, a5⟩, a6⟩, a7⟩, a8⟩, a9⟩, a10⟩, a11⟩, a12⟩, a13⟩, a14⟩, a15⟩, a16⟩, a17⟩ := h2'
      have b1 := named_t a1
      have b3 := named_t a3
      have b2 : (x.kind ≤ 2 → nameL x.key = true) ∧ (2 < x.kind → x.key = []) := by
        by_cases hk : x.kind ≤ 2
        · have e : (decide (x.kind = 1) || decide (x.kind = 2)) = true := by
            rw [Bool.or_eq_true]
            rcases (by omega : x.kind = 1 ∨ x.kind = 2) with h | h
            · exact .inl (decide_eq_true h)
            · exact .inr (decide_eq_true h)
          rw [e] at a2
          exact ⟨fun _ => a2, fun n => absurd hk (by omega)⟩
        · have e : (decide (x.kind = 1) || decide (x.kind = 2)) = false := by
            rw [decide_eq_false (by omega), decide_eq_false (by omega)]; rfl
          rw [e] at a2
          exact ⟨fun n => absurd n hk, fun _ => of_decide_eq_true a2⟩
      have cnt : ∀ {n m l : Int} {p : Prop} {i : Decidable p}, countF n m (@decide p i) l = true → (p → l ≤ n ∧ n ≤ m) ∧ (¬ p → n = 0) := fun hc => ⟨fun hp => (count_t hc).1 (decide_eq_true hp), fun hp => (count_t hc).2 (decide_eq_false hp)⟩
      have c5 := cnt a5; have c6 := cnt a6; have c7 := cnt a7; have c8 := cnt a8; have c11 := cnt a11; have c12 := cnt a12
      have c10 := count_t a10
      have c9 := count_t a9
      refine ⟨⟨b1.1, fun h => b1.2 (by omega)⟩, b2, b3, ?_, ⟨fun h => lenp (c5.1 h).1, fun h => len0 (c5.2 h)⟩, ⟨fun h => lenp (c6.1 h).1, fun h => len0 (c6.2 h)⟩, ⟨fun h => lenp (c7.1 h).1, fun h => len0 (c7.2 h)⟩, ⟨fun h => lenp (c8.1 h).1, fun h => len0 (c8.2 h)⟩, ⟨fun h => ?_, fun h => ?_⟩, ⟨?_, fun h => ?_⟩, ⟨?_, fun h => len0 (c11.2 h)⟩, fun h => len0 (c12.2 h), fun h => ?_, fun c hc => ?_, fun s hs => ?_⟩
      · rw [Bool.or_eq_true, Bool.and_eq_true] at a4
        exact a4.imp (fun h => of_decide_eq_true h) (fun h => ⟨of_decide_eq_true h.1, h.2⟩)
      · have := c9.1 (by rw [decide_eq_false h]; rfl)
        omega
      · exact len0 (c9.2 (by rw [decide_eq_true h]; rfl))
      · cases hw : (decide (x.kind = 5) || decide (x.kind = 6) || decide (x.kind = 7))
        · have := c10.2 hw; omega
        · have := c10.1 hw; omega
      · refine len0 (c10.2 ?_)
        rw [decide_eq_false (by omega), decide_eq_false (by omega), decide_eq_false (by omega)]; rfl
      · by_cases hk : x.kind = 7
        · have := (c11.1 hk).2; omega
        · have := c11.2 hk; omega
      · rw [if_neg h] at a13; exact of_decide_eq_true a13
      · have := any_not a14 c hc
        unfold colBad at this
        cases hn : nameL c.name
        · rw [hn] at this; simp at this
        · rfl
      · have := any_not a16 s hs
        unfold setBad at this
        cases hn : nameL s.name
        · rw [hn] at this; simp at this
        · rfl
/-! lists -/
theorem jt_inj {α : Type} (f : α → Tx) (P : α → Prop) (G T : Tx → Prop) (h44 : ∀ r, G (44 :: r)) (hTG : ∀ s, T s → G s) (hT44 : ∀ s r, T s → s ≠ 44 :: r) (hf : ∀ x y s t, P x → P y → G s → G t → f x ++ s = f y ++ t → x = y ∧ s = t) :
    ∀ (xs ys : List α) (s t : Tx), (∀ x ∈ xs, P x) → (∀ y ∈ ys, P y) → T s → T t → joinT [44, 32] (xs.map f) ++ s = joinT [44, 32] (ys.map f) ++ t → xs = ys ∧ s = t
  | [], [], s, t, _, _, _, _, h => ⟨rfl, h⟩
  | [], y :: ys, s, t, _, _, hs, _, h => by
    simp only [List.map_nil, joinT, List.nil_append, List.map_cons, List.cons_append] at h
    exact absurd h (hT44 s _ hs)
  | x :: xs, [], s, t, _, _, _, ht, h => by
    simp only [List.map_nil, joinT, List.nil_append, List.map_cons, List.cons_append] at h
    exact absurd h.symm (hT44 t _ ht)
  | x :: xs, y :: ys, s, t, hx, hy, hs, ht, h => by
    simp only [List.map_cons, joinT, List.append_assoc] at h
    have h2 := List.append_cancel_left h
    have good : ∀ (zs : List α) (u : Tx), T u → G (joinT [44, 32] (zs.map f) ++ u) := by
      intro zs u hu
      cases zs with
      | nil => exact hTG u hu
      | cons z zs => exact h44 _
    obtain ⟨rfl, h3⟩ := hf x y _ _ (hx x List.mem_cons_self) (hy y List.mem_cons_self) (good xs s hs) (good ys t ht) h2
    obtain ⟨rfl, h4⟩ := jt_inj f P G T h44 hTG hT44 hf xs ys s t (fun z hz => hx z (List.mem_cons_of_mem _ hz)) (fun z hz => hy z (List.mem_cons_of_mem _ hz)) hs ht h3
    exact ⟨rfl, h4⟩
theorem jh_inj {α : Type} (f : α → Tx) (P : α → Prop) (G T : Tx → Prop) (h44 : ∀ r, G (44 :: r)) (hTG : ∀ s, T s → G s) (hT44 : ∀ s r, T s → s ≠ 44 :: r) (hf : ∀ x y s t, P x → P y → G s → G t → f x ++ s = f y ++ t → x = y ∧ s = t)
    (hd : Tx) {xs ys : List α} {s t : Tx} (nx : xs ≠ []) (ny : ys ≠ []) (hx : ∀ x ∈ xs, P x) (hy : ∀ y ∈ ys, P y) (hs : T s) (ht : T t) (h : joinT hd (xs.map f) ++ s = joinT hd (ys.map f) ++ t) : xs = ys ∧ s = t := by
  cases xs with
  | nil => exact absurd rfl nx
  | cons x xs =>
    cases ys with
    | nil => exact absurd rfl ny
    | cons y ys =>
      refine jt_inj f P G T h44 hTG hT44 hf (x :: xs) (y :: ys) s t hx hy hs ht ?_
      simp only [List.map_cons, joinT, List.append_assoc] at h ⊢
      rw [List.append_cancel_left h]
def Tl (s : Tx) : Prop := s = [] ∨ ∃ c r, s = c :: r ∧ (c = 32 ∨ c = 41)
theorem Tl.dl {s : Tx} (h : Tl s) : Dl s := h.imp (fun h => h) (fun ⟨c, r, h1, h2⟩ => ⟨c, r, h1, h2.imp (fun h => h) .inl⟩)
theorem Tl.no {s r : Tx} (h : Tl s) : s ≠ 44 :: r := by
  rintro rfl
  rcases h with h | ⟨c, r', h1, h2⟩
  · cases h
  · cases h1; revert h2; decide
theorem tl_cons (c : UInt8) (r : Tx) (h : c = 32 ∨ c = 41) : Tl (c :: r) := .inr ⟨c, r, rfl, h⟩
def EOk (e : Ep) : Prop := OKk 12 e ∧ Rg e
theorem e_inj (x y : Ep) (s t : Tx) (hx : EOk x) (hy : EOk y) (hs : Dl s) (ht : Dl t) (h : printF x ++ s = printF y ++ t) : x = y ∧ s = t := pf_inj 12 x y s t hx.1 hy.1 hx.2 hy.2 hs ht h
theorem es_inj (hd : Tx) {xs ys : List Ep} {s t : Tx} (nx : xs ≠ []) (ny : ys ≠ []) (hx : ∀ x ∈ xs, EOk x) (hy : ∀ y ∈ ys, EOk y) (hs : Tl s) (ht : Tl t) (h : joinT hd (xs.map printF) ++ s = joinT hd (ys.map printF) ++ t) : xs = ys ∧ s = t :=
  jh_inj printF EOk Dl Tl (fun r => dl_cons _ _ (.inr (.inr rfl))) (fun _ h => h.dl) (fun _ _ h => h.no) e_inj hd nx ny hx hy hs ht h
def ROk (l : List Ep) : Prop := l ≠ [] ∧ ∀ e ∈ l, EOk e
theorem row_inj (x y : List Ep) (s t : Tx) (hx : ROk x) (hy : ROk y) (_hs : Dl s) (_ht : Dl t) (h : rowT x ++ s = rowT y ++ t) : x = y ∧ s = t := by
  unfold rowT at h
  rw [List.append_assoc, List.append_assoc] at h
  obtain ⟨rfl, h2⟩ := es_inj [40] hx.1 hy.1 hx.2 hy.2 (tl_cons _ _ (.inr rfl)) (tl_cons _ _ (.inr rfl)) h
  exact ⟨rfl, (List.cons.inj h2).2⟩
theorem rows_inj (hd : Tx) {xs ys : List (List Ep)} {s t : Tx} (nx : xs ≠ []) (ny : ys ≠ []) (hx : ∀ x ∈ xs, ROk x) (hy : ∀ y ∈ ys, ROk y) (hs : Tl s) (ht : Tl t) (h : joinT hd (xs.map rowT) ++ s = joinT hd (ys.map rowT) ++ t) : xs = ys ∧ s = t :=
  jh_inj rowT ROk Dl Tl (fun r => dl_cons _ _ (.inr (.inr rfl))) (fun _ h => h.dl) (fun _ _ h => h.no) row_inj hd nx ny hx hy hs ht h
theorem stop_cons {p : UInt8 → Bool} {c : UInt8} (h : p c = false) (r : Tx) : Stop p (c :: r) := fun d t e => by cases e; exact h
theorem nm_inj {a b s t : Tx} (ha : nameL a = true) (hb : nameL b = true) (hs : Stop isNm s) (ht : Stop isNm t) (h : a ++ s = b ++ t) : a = b ∧ s = t := run_inj isNm _ _ _ _ (name_all ha).2.1 (name_all hb).2.1 hs ht h
def StOk (s : Se) : Prop := nameL s.name = true ∧ EOk s.ex
theorem set_inj (x y : Se) (s t : Tx) (hx : StOk x) (hy : StOk y) (hs : Dl s) (ht : Dl t) (h : setT x ++ s = setT y ++ t) : x = y ∧ s = t := by
  obtain ⟨xn, xe⟩ := x
  obtain ⟨yn, ye⟩ := y
  unfold setT at h
  simp only [List.append_assoc] at h
  obtain ⟨h1, h2⟩ := nm_inj hx.1 hy.1 (stop_cons (by decide) _) (stop_cons (by decide) _) h
  have h3 : printF xe ++ s = printF ye ++ t := by simpa using h2
  obtain ⟨h4, h5⟩ := e_inj _ _ _ _ hx.2 hy.2 hs ht h3
  simp only at h1 h4
  exact ⟨by rw [h1, h4], h5⟩
theorem sets_inj (hd : Tx) {xs ys : List Se} {s t : Tx} (nx : xs ≠ []) (ny : ys ≠ []) (hx : ∀ x ∈ xs, StOk x) (hy : ∀ y ∈ ys, StOk y) (hs : Tl s) (ht : Tl t) (h : joinT hd (xs.map setT) ++ s = joinT hd (ys.map setT) ++ t) : xs = ys ∧ s = t :=
  jh_inj setT StOk Dl Tl (fun r => dl_cons _ _ (.inr (.inr rfl))) (fun _ h => h.dl) (fun _ _ h => h.no) set_inj hd nx ny hx hy hs ht h
def OG (s : Tx) : Prop := s = [] ∨ (∃ r, s = 44 :: r) ∨ ∃ r, s = 32 :: 76 :: r
def OT (s : Tx) : Prop := s = [] ∨ ∃ r, s = 32 :: 76 :: r
theorem OG.d {s : Tx} (h : OG s) : Stop isD s := by
  rcases h with rfl | ⟨r, rfl⟩ | ⟨r, rfl⟩
  · exact fun c r e => by cases e
  · exact stop_cons (by decide) _
  · exact stop_cons (by decide) _
def OOk (o : Od) : Prop := 1 ≤ o.n ∧ o.n ≤ 16
theorem ord_inj (x y : Od) (s t : Tx) (hx : OOk x) (hy : OOk y) (hs : OG s) (ht : OG t) (h : ordT x ++ s = ordT y ++ t) : x = y ∧ s = t := by
  obtain ⟨xn, xd⟩ := x
  obtain ⟨yn, yd⟩ := y
  unfold OOk at hx hy
  simp only at hx hy
  unfold ordT at h
  simp only [List.append_assoc] at h
  have sx : ∀ (d : Bool) (u : Tx), OG u → Stop isD ((if d = true then ([32, 68, 69, 83, 67] : Tx) else []) ++ u) := by
    intro d u hu
    cases d
    · exact hu.d
    · exact stop_cons (by decide) _
  obtain ⟨rfl, h2⟩ := dec_inj (by omega) (by omega) (by unfold rng; omega) (by unfold rng; omega) (sx xd s hs) (sx yd t ht) h
  cases xd <;> cases yd
  · exact ⟨rfl, by simpa using h2⟩
  · exfalso
    rcases hs with rfl | ⟨r, rfl⟩ | ⟨r, rfl⟩ <;> simp at h2
  · exfalso
    rcases ht with rfl | ⟨r, rfl⟩ | ⟨r, rfl⟩ <;> simp at h2
  · exact ⟨rfl, by simpa using h2⟩
theorem ords_inj (hd : Tx) {xs ys : List Od} {s t : Tx} (nx : xs ≠ []) (ny : ys ≠ []) (hx : ∀ x ∈ xs, OOk x) (hy : ∀ y ∈ ys, OOk y) (hs : OT s) (ht : OT t) (h : joinT hd (xs.map ordT) ++ s = joinT hd (ys.map ordT) ++ t) : xs = ys ∧ s = t :=
  jh_inj ordT OOk OG OT (fun r => .inr (.inl ⟨r, rfl⟩)) (fun _ h => h.imp (fun h => h) .inr) (fun s r h e => by
    subst e
    rcases h with h | ⟨r', h⟩ <;> cases h) ord_inj hd nx ny hx hy hs ht h
/-! columns -/
def COk (c : Cl) : Prop := nameL c.name = true ∧ 1 ≤ c.kind ∧ c.kind ≤ 3
theorem col1_inj (x y : Cl) (s t : Tx) (hx : COk x) (hy : COk y) (h : colT x ++ 44 :: s = colT y ++ 44 :: t) : x = y ∧ s = t := by
  obtain ⟨xn, xk, xb⟩ := x
  obtain ⟨yn, yk, yb⟩ := y
  obtain ⟨hx1, hx2, hx3⟩ := hx
  obtain ⟨hy1, hy2, hy3⟩ := hy
  unfold colT at h
  simp only [List.append_assoc] at h hx1 hx2 hx3 hy1 hy2 hy3
  have st : ∀ (k : Int) (u : Tx), 1 ≤ k → k ≤ 3 → Stop isNm ((([[32, 73, 78, 84], [32, 66, 79, 79, 76], [32, 84, 69, 88, 84]] : List Tx).getD (k - 1).toNat []) ++ u) := by
    intro k u h1 h2
    rcases (by omega : k = 1 ∨ k = 2 ∨ k = 3) with rfl | rfl | rfl <;> exact stop_cons (by decide) _
  obtain ⟨rfl, h2⟩ := nm_inj hx1 hy1 (st xk _ hx2 hx3) (st yk _ hy2 hy3) h
  have kx : xk = 1 ∨ xk = 2 ∨ xk = 3 := by omega
  have ky : yk = 1 ∨ yk = 2 ∨ yk = 3 := by omega
  rcases kx with rfl | rfl | rfl <;> rcases ky with rfl | rfl | rfl <;> cases xb <;> cases yb <;> simp at h2 <;> exact ⟨rfl, h2⟩
theorem colT_head {c : Cl} (h : COk c) (s : Tx) : ∃ d r, colT c ++ s = d :: r ∧ isNm d = true := by
  obtain ⟨hne, hall, _⟩ := name_all h.1
  unfold colT
  cases hn : c.name with
  | nil => exact absurd hn hne
  | cons d r => exact ⟨d, _, by simp only [List.cons_append]; rfl, hall d (by rw [hn]; exact List.mem_cons_self)⟩
theorem cols_inj : ∀ (xs ys : List Cl) (s t : Tx), (∀ x ∈ xs, COk x) → (∀ y ∈ ys, COk y) → joinT [44, 32] (xs.map colT) ++ 44 :: 32 :: 80 :: s = joinT [44, 32] (ys.map colT) ++ 44 :: 32 :: 80 :: t → xs = ys ∧ s = t
  | [], [], s, t, _, _, h => ⟨rfl, by simpa [joinT] using h⟩
  | [], y :: ys, s, t, _, hy, h => by
    exfalso
    simp only [List.map_nil, joinT, List.nil_append, List.map_cons, List.cons_append, List.append_assoc, List.cons.injEq, true_and] at h
    obtain ⟨d, r, e, hd⟩ := colT_head (hy y List.mem_cons_self) (joinT [44, 32] (ys.map colT) ++ 44 :: 32 :: 80 :: t)
    rw [e] at h
    cases h
    revert hd; decide
  | x :: xs, [], s, t, hx, _, h => by
    exfalso
    simp only [List.map_nil, joinT, List.nil_append, List.map_cons, List.cons_append, List.append_assoc, List.cons.injEq, true_and] at h
    obtain ⟨d, r, e, hd⟩ := colT_head (hx x List.mem_cons_self) (joinT [44, 32] (xs.map colT) ++ 44 :: 32 :: 80 :: s)
    rw [e] at h
    cases h
    revert hd; decide
  | x :: xs, y :: ys, s, t, hx, hy, h => by
    simp only [List.map_cons, joinT, List.append_assoc] at h
    have h2 := List.append_cancel_left h
    have c44 : ∀ (zs : List Cl) (u : Tx), ∃ r, joinT [44, 32] (zs.map colT) ++ 44 :: 32 :: 80 :: u = 44 :: r := by
      intro zs u
      cases zs with
      | nil => exact ⟨_, rfl⟩
      | cons z zs => exact ⟨_, rfl⟩
    obtain ⟨r1, e1⟩ := c44 xs s
    obtain ⟨r2, e2⟩ := c44 ys t
    rw [e1, e2] at h2
    obtain ⟨rfl, h3⟩ := col1_inj x y r1 r2 (hx x List.mem_cons_self) (hy y List.mem_cons_self) h2
    obtain ⟨rfl, h4⟩ := cols_inj xs ys s t (fun z hz => hx z (List.mem_cons_of_mem _ hz)) (fun z hz => hy z (List.mem_cons_of_mem _ hz)) (by rw [e1, e2, h3])
    exact ⟨rfl, h4⟩
theorem colh_inj (hd : Tx) {xs ys : List Cl} {s t : Tx} (nx : xs ≠ []) (ny : ys ≠ []) (hx : ∀ x ∈ xs, COk x) (hy : ∀ y ∈ ys, COk y) (h : joinT hd (xs.map colT) ++ 44 :: 32 :: 80 :: s = joinT hd (ys.map colT) ++ 44 :: 32 :: 80 :: t) : xs = ys ∧ s = t := by
  cases xs with
  | nil => exact absurd rfl nx
  | cons x xs =>
    cases ys with
    | nil => exact absurd rfl ny
    | cons y ys =>
      refine cols_inj (x :: xs) (y :: ys) s t hx hy ?_
      simp only [List.map_cons, joinT, List.append_assoc] at h ⊢
      rw [List.append_cancel_left h]
end Go.Proofs.YtodoejfkjimeaaaDoor
