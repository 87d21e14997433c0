/- lex: small letters. -/
import Derived.Test.YtlhnncmflnjinaaProg
import Derived.Test.YtlhnncmflnjinaaLxPlain
set_option linter.unusedSimpArgs false
set_option linter.unusedVariables false
namespace Go.Proofs.Ytlhnncmflnjinaa
open Go.RowKit

theorem upper_test : ∀ n : Fin 256, decide ((((n.val : Nat) : Int) - 65) % 256 < 26) = decide (65 ≤ n.val ∧ n.val ≤ 90) := by decide +kernel
theorem upper_or : ∀ n : Fin 256, Go.bits .or .u8 ((n.val : Nat) : Int) 32 = (((UInt8.ofNat n.val) ||| 32).toNat : Nat) := by decide +kernel
theorem low_test (c : UInt8) : decide (((c.toNat : Int) - 65) % 256 < 26) = decide (65 ≤ c.toNat ∧ c.toNat ≤ 90) := upper_test ⟨c.toNat, UInt8.toNat_lt c⟩
theorem low_or (c : UInt8) : Go.bits .or .u8 (c.toNat : Int) 32 = ((c ||| 32).toNat : Nat) := by
  have := upper_or ⟨c.toNat, UInt8.toNat_lt c⟩
  simpa using this

def mixL (l : List UInt8) (k : Nat) : List UInt8 := (l.take k).map lowerB ++ l.drop k
theorem mix_cons (l : List UInt8) (k : Nat) (h : k < l.length) : mixL l k = (l.take k).map lowerB ++ l[k] :: l.drop (k+1) := by
  unfold mixL; rw [List.drop_eq_getElem_cons h]
theorem mix_next (l : List UInt8) (k : Nat) (h : k < l.length) : mixL l (k+1) = (l.take k).map lowerB ++ lowerB l[k] :: l.drop (k+1) := by
  unfold mixL; rw [List.take_succ_eq_append_getElem h]
  simp only [List.map_append, List.map_cons, List.map_nil, List.append_assoc, List.cons_append, List.nil_append]
theorem mix_len (l : List UInt8) (k : Nat) (h : k ≤ l.length) : (mixL l k).length = l.length := by simp [mixL]; omega
theorem mix_at (l : List UInt8) (k : Nat) (h : k < l.length) : (mixL l k)[k]? = some l[k] := by
  rw [mix_cons l k h, List.getElem?_append_right (by simp; omega)]; simp [Nat.min_eq_left (Nat.le_of_lt h)]
theorem mix_set (l : List UInt8) (k : Nat) (h : k < l.length) : (mixL l k).set k (lowerB l[k]) = mixL l (k+1) := by
  rw [mix_cons l k h, mix_next l k h, List.set_append_right _ _ (by simp; omega)]
  simp only [List.length_map, List.length_take, Nat.min_eq_left (Nat.le_of_lt h), Nat.sub_self, List.set_cons_zero]
theorem mix_keep (l : List UInt8) (k : Nat) (h : k < l.length) (e : lowerB l[k] = l[k]) : mixL l k = mixL l (k+1) := by
  rw [mix_cons l k h, mix_next l k h, e]
theorem mix_all (l : List UInt8) (k : Nat) (h : l.length ≤ k) : mixL l k = lowerL l := by
  unfold mixL lowerL; rw [List.take_of_length_le h, List.drop_eq_nil_of_le h]; simp

set_option maxHeartbeats 400000 in
theorem lower_is (s : ByteArray) (w : World) (hs : s.size ≤ 140737488351232) :
   Calls Try.prog 177 #[.string s] w fun e w' => e = .returned (.string ⟨(lowerL s.data.toList).toArray⟩) ∧ Below w.heap.size w w' := by
  have hconv := fun W : World => Lib.run_convert_string_bytes (P := Try.prog) W 9 217 5 s Try.underlying9 Try.underlying217 Try.underlying5
  go_enter Try.func177, Try.ntmps177
  go_wp2
  have hR := Row8.made w 5 s
  have hB := below_bytes (Below.refl w.heap.size w) (Nat.le_refl _) 5 s
  have hsz := Lib.bytesWorld_size w 5 s
  generalize Lib.bytesWorld w 5 s = W1 at hR hB hsz ⊢
  have hgl : w.heap.size < W1.heap.size := by omega
  clear hsz hconv
  have hn : s.data.toList.length = s.size := by simp
  have HN := Lib.hid hn; clear hn
  obtain ⟨l, hl⟩ : ∃ l, l = s.data.toList := ⟨_, rfl⟩
  have HL := Lib.hid hl; clear hl
  have HR := Lib.hid hR; clear hR
  have HB := Lib.hid hB; clear hB
  obtain ⟨g, hg⟩ : ∃ g, g = w.heap.size := ⟨_, rfl⟩
  rw [← hg]
  have HG := Lib.hid hg; clear hg
  go_loopg [10] s.size (fun q v wr => ∃ k : Nat, v = .int .i64 k ∧ k ≤ s.size ∧ q = s.size - k ∧ Row8 wr g (mixL l k) ∧ Only g W1 wr)
  case atStart => exact ⟨0, rfl, by omega, rfl, by rw [HG.out, HL.out]; simpa [mixL] using HR.out, Only.refl _ _⟩
  case round =>
    obtain ⟨k, rfl, hk, hq, hrow, ho⟩ := hrel
    have H1 := Lib.hid hq; clear hq
    have H3 := Lib.hid ho; clear ho
    by_cases hlt : k < s.size
    · have hlk : k < l.length := by rw [HL.out, HN.out]; exact hlt
      have hc := hrow.cell (mix_at l k hlk)
      have hf := hrow.free (j := k) (by rw [mix_len l k (by omega)]; exact hlk)
      have H2 := Lib.hid hrow; clear hrow
      have ht := low_test l[k]
      have hor := low_or l[k]
      have hb := UInt8.toNat_lt l[k]
      have HT := Lib.hid ht; clear ht
      have HO := Lib.hid hor; clear hor
      cases hd : decide (((((l[k]).toNat : Nat) : Int) - 65) % 256 < 26)
      · go_wp2
        go_roundg (s.size - (k+1))
        case measure => have := H1.out; omega
        case rel =>
          refine ⟨k+1, by go_num, by omega, rfl, ?_, H3.out⟩
          rw [← mix_keep l k hlk ?_]
          · exact H2.out
          · have e := HT.out
            rw [hd] at e
            unfold lowerB; rw [if_neg (of_decide_eq_false e.symm)]
      · go_wp2
        go_roundg (s.size - (k+1))
        case measure => have := H1.out; omega
        case rel =>
          refine ⟨k+1, by go_num, by omega, rfl, ?_, Only.setCell H3.out _ _⟩
          rw [← mix_set l k hlk]
          refine H2.out.set k (by rw [mix_len l k (by omega)]; exact hlk) _ _ ?_
          have e := HT.out
          rw [hd] at e
          rw [HO.out]; unfold lowerB; rw [if_pos (of_decide_eq_true e.symm)]
    · have hc := run_convert_bytes_back (P := Try.prog) wr 217 9 5 ⟨g, 0, none⟩ (grownCap w s.size 0 5) (mixL l k) Try.underlying217 Try.underlying5 Try.underlying9 (fun j hj => by
        have := hrow.cell (List.getElem?_eq_getElem hj)
        rw [add_plain']; exact this)
      rw [mix_len l k (by rw [HL.out, HN.out]; exact hk), mix_all l k (by rw [HL.out, HN.out]; omega)] at hc
      have hc' : (convert 217 9 (.slice (some ⟨g, 0, none⟩) s.size (grownCap w s.size 0 5))).run Try.prog wr = .ok (.string ⟨(lowerL l).toArray⟩) wr := by
        rw [← hc, HL.out, HN.out]
      clear hc hrow
      go_wp2
      go_ret
      refine ⟨by rw [HL.out]; rfl, below_only HB.out H3.out (by rw [HG.out]; exact Nat.le_refl _) (by omega)⟩
end Go.Proofs.Ytlhnncmflnjinaa
