/- lex.Keyword. -/
import Derived.Test.YtlhnncmflnjinaaLxLower
import Derived.Test.YtlhnncmflnjinaaShk
import Derived.WalkSpells
set_option linter.unusedSimpArgs false
set_option linter.unusedVariables false
namespace Go.Proofs.Ytlhnncmflnjinaa
open Go.RowKit

/-- the page's words, one blank around each -/
def kwAll : List UInt8 := [32, 99, 114, 101, 97, 116, 101, 32, 116, 97, 98, 108, 101, 32, 105, 110, 100, 101, 120, 32, 111, 110, 32, 100, 114, 111, 112, 32, 105, 110, 115, 101, 114, 116, 32, 105, 110, 116, 111, 32, 118, 97, 108, 117, 101, 115, 32, 117, 112, 100, 97, 116, 101, 32, 115, 101, 116, 32, 100, 101, 108, 101, 116, 101, 32, 102, 114, 111, 109, 32, 119, 104, 101, 114, 101, 32, 115, 101, 108, 101, 99, 116, 32, 106, 111, 105, 110, 32, 103, 114, 111, 117, 112, 32, 98, 121, 32, 111, 114, 100, 101, 114, 32, 100, 101, 115, 99, 32, 108, 105, 109, 105, 116, 32, 98, 101, 103, 105, 110, 32, 99, 111, 109, 109, 105, 116, 32, 114, 111, 108, 108, 98, 97, 99, 107, 32, 112, 114, 105, 109, 97, 114, 121, 32, 107, 101, 121, 32, 110, 111, 116, 32, 110, 117, 108, 108, 32, 105, 115, 32, 97, 110, 100, 32, 111, 114, 32, 116, 114, 117, 101, 32, 102, 97, 108, 115, 101, 32, 105, 110, 116, 32, 98, 111, 111, 108, 32, 116, 101, 120, 116, 32, 99, 111, 117, 110, 116, 32, 115, 117, 109, 32, 109, 105, 110, 32, 109, 97, 120, 32]
def kwL (l : List UInt8) : Bool := (lowerL l != []) && ((!decide (0 ≤ Lib.indexByte (lowerL l) 32)) && Lib.contains kwAll (32 :: (lowerL l ++ [32])))

theorem lowerB_idem : ∀ c : UInt8, lowerB (lowerB c) = lowerB c := by
  intro c
  have h : ∀ n : Fin 256, lowerB (lowerB (UInt8.ofNat n.val)) = lowerB (UInt8.ofNat n.val) := by decide +kernel
  have := h ⟨c.toNat, UInt8.toNat_lt c⟩
  simpa using this
theorem lowerL_idem (l : List UInt8) : lowerL (lowerL l) = lowerL l := by
  simp only [lowerL, List.map_map]
  exact List.map_congr_left fun c _ => lowerB_idem c
theorem kwL_lower (l : List UInt8) : kwL (lowerL l) = kwL l := by simp only [kwL, lowerL_idem]

set_option maxRecDepth 100000 in
set_option maxHeartbeats 1000000 in
theorem keyword_is (s : ByteArray) (m : Int) (w : World) (hs : s.size ≤ 140737488351232) (hm : w.cell? ⟨0, 0, none⟩ = some (.int .i64 m)) :
    Calls Try.prog 160 #[.string s] w fun e w' => e = .returned (.bool (kwL s.data.toList)) ∧ Below w.heap.size w w' := by
  have hlo := fun w => lower_is s w hs
  have hlen : (lowerL s.data.toList).length ≤ 140737488351232 := by simpa [lowerL] using hs
  have hk : kwL s.data.toList = ((lowerL s.data.toList != []) && ((!decide (0 ≤ Lib.indexByte (lowerL s.data.toList) 32)) && Lib.contains kwAll (32 :: (lowerL s.data.toList ++ [32])))) := rfl
  generalize kwL s.data.toList = k at hk ⊢
  generalize lowerL s.data.toList = a at hk hlo hlen
  have HK := Lib.hid hk; clear hk
  have HLO := Lib.hid hlo; clear hlo
  go_enter Try.func160, Try.ntmps160
  go_wp2_with fail
  refine (HLO.out _).mono ?_
  rintro e w1 ⟨rfl, hB⟩
  have hm1 : w1.cell? ⟨0, 0, none⟩ = some (.int .i64 m) := cell_later hB hm
  have HB := Lib.hid hB; clear hB
  have HM := Lib.hid hm1; clear hm1 hm
  cases a with
  | nil =>
    go_wp2
    go_ret
    exact ⟨by rw [HK.out]; rfl, HB.out⟩
  | cons c a =>
    rw [List.length_cons] at hlen
    have hsub : ((⟨#[32]⟩ : ByteArray) ++ ⟨(c :: a).toArray⟩ ++ ⟨#[32]⟩) = ⟨(32 :: ((c :: a) ++ [32])).toArray⟩ := by
      apply bytes_ext; simp only [data_append']; simp
    have HSUB := Lib.hid hsub; clear hsub
    cases h1 : decide (0 ≤ Lib.indexByte (c :: a) 32) with
    | true =>
      go_wp2_with (go_at_call 178; refine (sh_Contains_one _ _ _).mono ?_; rintro e w' ⟨rfl, rfl⟩)
      go_ret
      exact ⟨by rw [HK.out, h1]; rfl, HB.out⟩
    | false =>
      go_wp2_with fail
      refine (sh_Contains_one _ _ _).mono ?_
      rintro e w' ⟨rfl, rfl⟩
      go_wp2_with fail
      rw [HSUB.out]
      refine (sh_Contains ⟨kwAll.toArray⟩ _ m _ (of_decide_eq_true (by kernel_rfl)) HM.out).mono ?_
      rintro e w' ⟨rfl, rfl⟩
      go_wp2
      go_ret
      exact ⟨by rw [HK.out, h1]; rfl, HB.out⟩
end Go.Proofs.Ytlhnncmflnjinaa
