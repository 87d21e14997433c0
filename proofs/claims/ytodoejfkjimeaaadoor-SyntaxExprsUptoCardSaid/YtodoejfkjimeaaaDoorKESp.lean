/- Packed by a program of this repo: Sp. -/
import Derived.Lib.Replace
import Derived.Lib.ReplaceLaws
import Derived.Lib.Strings
import Derived.Test.YtodoejfkjimeaaaDoorKECw
set_option linter.unusedSimpArgs false
set_option linter.unusedVariables false
set_option maxRecDepth 100000
namespace Go.Proofs.YtodoejfkjimeaaaDoor
open Go Go.RowKit Am
/-! what the program prints -/
def decF : Nat → Int → Tx
  | 0, _ => []
  | k + 1, n => if n < 0 ∧ n.tdiv 10 = 0 then 45 :: decF k (-n) else (if n.tdiv 10 ≠ 0 then decF k (n.tdiv 10) else []) ++ [UInt8.ofNat (48 + (n.tmod 10).natAbs)]
def litF (kind n : Int) (text : Tx) : Tx :=
  if kind = 0 then [78, 85, 76, 76] else if kind = 1 then decF 40 n else if kind = 2 then (if n = 1 then [84, 82, 85, 69] else [70, 65, 76, 83, 69]) else [39] ++ Lib.replaceAll text [39] [39, 39] ++ [39]
def signF (k : Nat) : Tx := ([[43], [45], [42], [47], [61], [60, 62], [60], [60, 61], [62], [62, 61], [65, 78, 68], [79, 82]] : List Tx).getD k []
def fnF (k : Nat) : Tx := ([[67, 79, 85, 78, 84], [83, 85, 77], [77, 73, 78], [77, 65, 88]] : List Tx).getD k []
def putF (op kind n : Int) (text table name : Tx) (l : List Tx) : Tx :=
  if op = 0 then litF kind n text
  else if op = 1 then Lib.trimPrefix (table ++ [46] ++ name) [46]
  else if op = 2 then [40, 45] ++ l.getD 0 [] ++ [41]
  else if op = 3 then [40, 78, 79, 84, 32] ++ l.getD 0 [] ++ [41]
  else if op = 16 then [40] ++ l.getD 0 [] ++ [32, 73, 83, 32, 78, 85, 76, 76, 41]
  else if op = 17 then [40] ++ l.getD 0 [] ++ [32, 73, 83, 32, 78, 79, 84, 32, 78, 85, 76, 76, 41]
  else if op = 18 then [67, 79, 85, 78, 84, 40, 42, 41]
  else if 19 ≤ op ∧ op ≤ 22 then fnF (op - 19).toNat ++ [40] ++ l.getD 0 [] ++ [41]
  else [40] ++ l.getD 0 [] ++ [32] ++ signF (op - 4).toNat ++ [32] ++ l.getD 1 [] ++ [41]
mutual
def printF : Ep → Tx
  | .mk op kind n text table name args => putF op kind n text table name (printFs args)
def printFs : List Ep → List Tx
  | [] => []
  | e :: l => printF e :: printFs l
end
theorem printFs_map : ∀ (l : List Ep), printFs l = l.map printF
  | [] => rfl
  | e :: l => by rw [printFs, printFs_map l]; rfl
theorem printF_eq (e : Ep) : printF e = putF e.op e.kind e.n e.text e.table e.name (e.args.map printF) := by
  cases e with
  | mk op kind n text table name args => rw [printF, printFs_map]; rfl
theorem args_two {op : Int} {n : Nat} (h : argsN op = ((n : Int), true)) : n ≤ 2 := by
  unfold argsN at h
  split at h
  · simp only [Prod.mk.injEq] at h; omega
  · split at h
    · simp only [Prod.mk.injEq] at h; omega
    · simp only [Prod.mk.injEq] at h; omega
theorem decF_len : ∀ (k : Nat) (n : Int), (decF k n).length ≤ k
  | 0, n => by simp [decF]
  | k + 1, n => by
    rw [decF]
    split
    · have := decF_len k (-n); simp; omega
    · split
      · have := decF_len k (n.tdiv 10); simp; omega
      · simp
/-- so deep at the most, and each part may be -/
def OKk : Nat → Ep → Prop
  | 0, _ => False
  | k + 1, e => partOk e = true ∧ ∀ a ∈ e.args, OKk k a
theorem walk_ok : ∀ (k : Nat) (e : Ep) (c : Nat), (walkF k e c).1 = 0 → OKk k e
  | 0, e, c, h => by simp [walkF] at h
  | k + 1, e, c, h => by
    simp only [walkF] at h
    split at h
    · simp at h
    · split at h
      · simp at h
      · rename_i h1 h2
        refine ⟨by simpa using h2, ?_⟩
        have : ∀ (l : List Ep) (c : Nat), (goOver (walkF k) l c).1 = 0 → ∀ a ∈ l, OKk k a := by
          intro l
          induction l with
          | nil => intro c _ a ha; cases ha
          | cons b l ih =>
            intro c hc a ha
            simp only [goOver] at hc
            split at hc
            · rename_i h0
              rcases List.mem_cons.1 ha with rfl | ha
              · exact walk_ok k a c h0
              · exact ih _ hc a ha
            · rename_i h0; exact absurd hc h0
        exact this _ _ h
theorem replaceK_len : ∀ (k : Nat) (s : List UInt8), (Lib.replaceK [39] [39, 39] k s).length ≤ s.length + 2 * k
  | 0, s => by simp [Lib.replaceK]
  | k + 1, s => by
    rw [Lib.replaceK]
    split
    · omega
    · have := replaceK_len k (s.drop ((Lib.index s [39]).toNat + [39].length))
      simp only [List.length_append, List.length_cons, List.length_nil, List.length_drop, List.length_take] at this ⊢
      omega
theorem replace_len {s : List UInt8} (h : Lib.count s [39] ≤ s.length) : (Lib.replaceAll s [39] [39, 39]).length ≤ 3 * s.length := by
  unfold Lib.replaceAll Lib.replace
  split
  · omega
  · have := replaceK_len (Lib.replaceNum s [39] (-1)) s
    have h2 : Lib.replaceNum s [39] (-1) = Lib.count s [39] := by simp [Lib.replaceNum]
    rw [h2] at this ⊢
    omega
theorem trim_len (s p : List UInt8) : (Lib.trimPrefix s p).length ≤ s.length := by
  unfold Lib.trimPrefix
  split <;> simp
theorem lit_len {kind n : Int} {text : Tx} (h : text.length ≤ 1048576) (hc : Lib.count text [39] ≤ text.length) : (litF kind n text).length ≤ 3900000 := by
  unfold litF
  split
  · simp
  · split
    · have := decF_len 40 n; omega
    · split
      · split <;> simp
      · have := replace_len hc
        simp only [List.length_append, List.length_cons, List.length_nil]
        omega
theorem getD_small {l : List Tx} {M : Nat} (h : ∀ t ∈ l, t.length ≤ M) (i : Nat) : (l.getD i []).length ≤ M := by
  rw [List.getD_eq_getElem?_getD]
  cases hx : l[i]? with
  | none => simp
  | some t => exact h t (List.mem_of_getElem? hx)
theorem put_len {op kind n : Int} {text table name : Tx} {l : List Tx} {M : Nat} (h : ∀ t ∈ l, t.length ≤ M) (h1 : text.length ≤ 1048576) (h2 : table.length ≤ 1048576) (h3 : name.length ≤ 1048576) (hc : Lib.count text [39] ≤ text.length) :
    (putF op kind n text table name l).length ≤ 3900000 ∨ (putF op kind n text table name l).length ≤ 2 * M + 100 := by
  have g0 := getD_small h 0
  have g1 := getD_small h 1
  have hs : (signF (op - 4).toNat).length ≤ 10 := getD_small (by decide) _
  have hf : (fnF (op - 19).toNat).length ≤ 10 := getD_small (by decide) _
  unfold putF
  split
  · exact .inl (lit_len h1 hc)
  · split
    · have := trim_len (table ++ [46] ++ name) [46]
      simp only [List.length_append, List.length_cons, List.length_nil] at this
      exact .inl (by omega)
    · right
      repeat' split
      all_goals simp only [List.length_append, List.length_cons, List.length_nil]
      all_goals omega
theorem count_le (l : List UInt8) : Lib.count l [39] ≤ l.length := by
  have h := Lib.countB_mul_le ⟨#[39]⟩ (by decide) l.length ⟨l.toArray⟩ (by simp [ByteArray.size])
  have e : Lib.countB ⟨l.toArray⟩ ⟨#[39]⟩ = Lib.count l [39] := by
    show Lib.count (l.toArray.toList) [39] = _
    simp
  rw [e] at h
  have e2 : (⟨#[39]⟩ : ByteArray).size = 1 := rfl
  have e3 : (⟨l.toArray⟩ : ByteArray).size = l.length := by simp [ByteArray.size]
  rw [e2, e3] at h
  omega
theorem print_len : ∀ (k : Nat) (e : Ep), OKk k e → Bd e → (printF e).length + 100 ≤ 4000000 * 2 ^ k
  | 0, e, h, _ => h.elim
  | k + 1, e, ⟨_, ha⟩, hb => by
    rw [printF_eq]
    have h1 : 1 ≤ 2 ^ k := Nat.one_le_two_pow
    have hM : ∀ t ∈ e.args.map printF, t.length ≤ 4000000 * 2 ^ k - 100 := by
      intro t ht
      obtain ⟨a, ha', rfl⟩ := List.mem_map.1 ht
      have := print_len k a (ha a ha') (by
        obtain ⟨i, hi⟩ := List.mem_iff_getElem?.1 ha'
        exact hb.arg hi)
      omega
    have hbt : e.text.length ≤ 1048576 ∧ e.table.length ≤ 1048576 ∧ e.name.length ≤ 1048576 := by
      cases hb with
      | mk op kind n text table name args h1 h2 h3 h4 h => exact ⟨h1, h2, h3⟩
    have := put_len (op := e.op) (kind := e.kind) (n := e.n) hM hbt.1 hbt.2.1 hbt.2.2 (count_le e.text)
    rw [Nat.pow_succ]
    omega
end Go.Proofs.YtodoejfkjimeaaaDoor
