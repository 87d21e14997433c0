/- lex: what stands between tokens. -/
import Derived.Test.YtamlgkikjajcpaaLxRun
import Derived.Test.YtamlgkikjajcpaaShb
namespace Go.Proofs.Ytamlgkikjajcpaa
open Go.RowKit

set_option maxHeartbeats 400000 in
theorem skip_is (g : Nat) (s : ByteArray) (i : Nat) (w : World) (hl : LxAt w g s i) (hi : i ≤ s.size) (hs : s.size ≤ 140737488351232) :
   Calls Try.prog 14 #[.pointer (some ⟨g, 0, none⟩)] w fun e w' => e = .returned (.tuple #[]) ∧ ∃ j, i ≤ j ∧ j ≤ s.size ∧ rest s j = skipL (rest s i) ∧ LxAt w' g s j ∧ Only g w w' := by
  have H := Lib.hid hl; clear hl
  go_enter Try.func14, Try.ntmps14
  refine wp_scope_label (fun k a' w' => ∃ (j : Nat) (u2 u3 u4 u5 u6 u7 u8 u9 u10 u11 u12 u13 u14 u15 : Value), a' = { tmps := #[.pointer (some ⟨g, 0, none⟩), undef, u2, u3, u4, u5, u6, u7, u8, u9, u10, u11, u12, u13, u14, u15], defers := [] } ∧ i ≤ j ∧ j ≤ s.size ∧ k = s.size - j ∧ skipL (rest s i) = skipL (rest s j) ∧ LxAt w' g s j ∧ Only g w w') (s.size - i) ?_ ?_
  · exact ⟨i, _, _, _, _, _, _, _, _, _, _, _, _, _, _, rfl, Nat.le_refl _, hi, rfl, rfl, H.out, Only.refl _ _⟩
  · rintro k a' wr ⟨j, u2, u3, u4, u5, u6, u7, u8, u9, u10, u11, u12, u13, u14, u15, rfl, hij, hj, hk, hsk, hl, ho⟩
    have H1 := Lib.hid hk; clear hk
    have H2 := Lib.hid hsk; clear hsk
    have H3 := Lib.hid hl; clear hl
    have H4 := Lib.hid ho; clear ho
    go_wp2_with (go_at_call 17; refine (runBlank _ _ _ _ H3.out hj hs).mono ?_; rintro e w1 ⟨rfl, h1, h2⟩)
    have hge := runEnd_ge isBlank s j
    have hle := runEnd_le isBlank s j hj
    have hrr := rest_runEnd isBlank s j
    have HE := Lib.hid hrr; clear hrr
    obtain ⟨j1, hj1⟩ : ∃ j1, j1 = runEnd isBlank s j := ⟨_, rfl⟩
    rw [← hj1] at h1 hge hle
    have HJ := Lib.hid hj1; clear hj1
    have c0 := h1.c0
    have c1 := h1.c1
    have H5 := Lib.hid h1; clear h1
    have H6 := Lib.hid h2; clear h2
    have hle' : (j1 : Int) ≤ s.size := by omega
    have ED := Lib.hid (show (s.extract j1 s.size).data.toList = rest s j1 from Lib.extract_to_end s j1)
    have EQ : Hid (rest s j1 = (rest s j).dropWhile (by_ isBlank)) := by rw [HJ.out]; exact HE.out
    clear HE
    cases hp : Lib.hasPrefix (s.extract j1 s.size).data.toList (⟨#[45, 45]⟩ : ByteArray).data.toList
    · have HP := Lib.hid hp; clear hp
      go_quiet ((go_at_call 19; exact Calls.quiet_of_same (sh_HasPrefix _ _ _)))
      rw [HP.out]
      go_wp2
      simp only [Exit.jump]
      go_end0
      refine ⟨rfl, j1, by omega, hle, ?_, H5.out, by repeat (first | exact H6.out | apply Only.drewN | exact H4.out | apply Only.trans H4.out)⟩
      have e := HP.out
      rw [ED.out, EQ.out] at e
      rw [H2.out, skipL_done _ e, EQ.out]
    · have HP := Lib.hid hp; clear hp
      go_quiet ((go_at_call 19; exact Calls.quiet_of_same (sh_HasPrefix _ _ _)))
      rw [HP.out]
      go_wp2_with (go_at_call 17; refine (runNl _ _ _ _ (LxAt.drewN H5.out _) hle hs).mono ?_; rintro e w2 ⟨rfl, h1, h2⟩)
      go_step3
      have e := HP.out
      rw [ED.out, EQ.out] at e
      have hl2 := skip_less _ e
      have hge2 := runEnd_ge notNl s j1
      have hle2 := runEnd_le notNl s j1 hle
      have hr2 := rest_runEnd notNl s j1
      rw [EQ.out] at hr2
      have e1 := congrArg List.length hr2
      rw [rest_len] at e1
      rw [rest_len] at hl2
      have e2 : (List.dropWhile (fun c : UInt8 => notNl c.toNat) ((rest s j).dropWhile (by_ isBlank))) = ((rest s j).dropWhile (by_ isBlank)).dropWhile (by_ notNl) := rfl
      refine ⟨rfl, s.size - runEnd notNl s j1, ?_, runEnd notNl s j1, _, _, _, _, _, _, _, _, _, _, _, _, _, _, rfl, by omega, hle2, rfl, ?_, h1, ?_⟩
      · rw [H1.out, e1, e2]; exact hl2
      · rw [H2.out, skipL_more _ e, hr2, e2]
      · exact (H4.out.trans H6.out).trans ((Only.drewN (Only.refl _ _) _).trans h2)
end Go.Proofs.Ytamlgkikjajcpaa
