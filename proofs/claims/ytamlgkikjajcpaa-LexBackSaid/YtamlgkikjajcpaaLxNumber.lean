/- lex: a number. -/
import Derived.Test.YtamlgkikjajcpaaLxRun
namespace Go.Proofs.Ytamlgkikjajcpaa
open Go.RowKit

theorem mem_take (p : UInt8 → Bool) (l : List UInt8) (c : UInt8) (h : c ∈ l.takeWhile p) : p c = true := by
  induction l with
  | nil => simp at h
  | cons a l ih =>
    rw [List.takeWhile_cons] at h
    split at h
    · rcases List.mem_cons.1 h with rfl | h
      · assumption
      · exact ih h
    · simp at h
theorem byte_sub (c : UInt8) (h : isDigit c.toNat = true) : ((c.toNat : Int) - 48) % 256 = (c.toNat : Int) - 48 := by
  simp [isDigit] at h; omega

set_option maxHeartbeats 1000000 in
theorem number_is (g : Nat) (s : ByteArray) (i : Nat) (w : World) (hl : LxAt w g s i) (hi : i ≤ s.size) (hs : s.size ≤ 140737488351232) :
   Calls Try.prog 24 #[.pointer (some ⟨g, 0, none⟩)] w fun e w' => e = .returned (.tuple #[.int .i64 (numL ((rest s i).takeWhile (by_ isDigit))).1, .bool (numL ((rest s i).takeWhile (by_ isDigit))).2]) ∧ LxAt w' g s (runEnd isDigit s i) ∧ Only g w w' := by
  have hconv := fun (s : ByteArray) (W : World) => Lib.run_convert_string_bytes (P := Try.prog) W 9 42 5 s Try.underlying9 Try.underlying42 Try.underlying5
  have hdig : ∀ c ∈ (rest s i).takeWhile (by_ isDigit), isDigit c.toNat = true := fun c hc => mem_take (by_ isDigit) _ c hc
  have hlen : ((rest s i).takeWhile (by_ isDigit)).length ≤ 140737488351232 := by
    have := (List.takeWhile_sublist (by_ isDigit) (l := rest s i)).length_le
    rw [rest_len] at this; omega
  have hrun := runDigit g s i w hl hi hs
  change Calls _ _ _ _ (fun e w' => e = .returned (.string ⟨((rest s i).takeWhile (by_ isDigit)).toArray⟩) ∧ LxAt w' g s (runEnd isDigit s i) ∧ Only g w w') at hrun
  clear hl
  generalize (rest s i).takeWhile (by_ isDigit) = l at *
  have HRUN := Lib.hid hrun; clear hrun
  go_enter Try.func24, Try.ntmps24
  go_wp2_with (go_at_call 17; refine HRUN.out.mono ?_; rintro e w1 ⟨rfl, h1, h2⟩)
  have hR := Row8.made w1 5 ⟨l.toArray⟩
  have hB := below_bytes (Below.refl w1.heap.size w1) (Nat.le_refl _) 5 ⟨l.toArray⟩
  have hR' : Row8 (Lib.bytesWorld w1 5 ⟨l.toArray⟩) w1.heap.size l := by simpa using hR
  clear hR
  have hLx : LxAt (Lib.bytesWorld w1 5 ⟨l.toArray⟩) g s (runEnd isDigit s i) := (hB.block g h1.lt).trans h1
  have hO : Only g w (Lib.bytesWorld w1 5 ⟨l.toArray⟩) := h2.of_below hB
  generalize Lib.bytesWorld w1 5 ⟨l.toArray⟩ = W1 at hR' hLx hO ⊢
  clear hconv hB h1 h2
  have HR := Lib.hid hR'; clear hR'
  have HLx := Lib.hid hLx; clear hLx
  have HO := Lib.hid hO; clear hO
  go_loop [2, 3, 11] (fun vn vok v => ∃ k : Nat, v = .int .i64 k ∧ k ≤ l.length ∧ vn = .int .i64 (numL (l.take k)).1 ∧ vok = .bool (numL (l.take k)).2) (fun _ _ v => l.length - (intOf v).toNat)
  case atStart => exact ⟨0, rfl, by omega, rfl, rfl⟩
  case round =>
    obtain ⟨k, rfl, hk, rfl, rfl⟩ := hrel
    have hbd := numL_bd (l.take k) (fun c hc => hdig c (List.mem_of_mem_take hc))
    by_cases hlt : k < l.length
    · have hc := HR.out.cell (List.getElem?_eq_getElem hlt)
      have hd := hdig l[k] (List.getElem_mem hlt)
      have hsub := byte_sub _ hd
      have HS := Lib.hid (num_snoc l k hlt)
      have hd' : 48 ≤ (l[k].toNat : Int) ∧ (l[k].toNat : Int) ≤ 57 := by simp [isDigit] at hd; omega
      have HD := Lib.hid hdig
      clear hdig hd
      obtain ⟨n, hn⟩ : ∃ n, n = numL (l.take k) := ⟨_, rfl⟩
      rw [← hn] at hbd ⊢
      have HN := Lib.hid hn; clear hn
      obtain ⟨n, ok⟩ := n
      dsimp only at hbd ⊢
      cases ok
      · go_wp2
        have e : numL (l.take (k+1)) = (n, false) := by rw [HS.out, ← HN.out]; simp [numF]
        exact ⟨⟨k+1, by go_num, by omega, by rw [e], by rw [e]⟩, by simp [intOf]; omega⟩
      · by_cases ht : (9223372036854775807 - ((l[k].toNat : Int) - 48)) / 10 < n
        · go_wp2
          have e : numL (l.take (k+1)) = (n, false) := by rw [HS.out, ← HN.out, numF, if_neg (by simp only [true_and]; omega)]
          exact ⟨⟨k+1, by go_num, by omega, by rw [e], by rw [e]⟩, by simp [intOf]; omega⟩
        · go_wp2
          have e : numL (l.take (k+1)) = (10 * n + ((l[k].toNat : Int) - 48), true) := by rw [HS.out, ← HN.out, numF, if_pos (by simp only [true_and]; omega)]
          exact ⟨⟨k+1, by go_num, by omega, by rw [e], by rw [e]⟩, by simp [intOf]; omega⟩
    · go_wp2
      go_ret2
      have e : l.take k = l := List.take_of_length_le (by omega)
      rw [e]
      exact ⟨rfl, HLx.out, HO.out⟩
end Go.Proofs.Ytamlgkikjajcpaa
