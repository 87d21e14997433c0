/- LexLower: the walk. -/
import Derived.Test.YtamlgkikjajcpaaLxKeyword
namespace Go.Proofs.Ytamlgkikjajcpaa
open Go.RowKit Go.Proofs.YtamlgkikjajcpaaW.PrintWords

set_option maxRecDepth 100000 in
set_option maxHeartbeats 1000000 in
theorem lowerLaw_is (s : ByteArray) (m : Int) (w : World) (hs : s.size ≤ 140737488351232) (hm : w.cell? ⟨0, 0, none⟩ = some (.int .i64 m)) :
    Calls Try.prog 6 #[.string s] w fun e w' => e = .returned (.bool true) ∧ Below w.heap.size w w' := by
  have hlo := fun w => lower_is s w hs
  have hlen : (⟨(lowerL s.data.toList).toArray⟩ : ByteArray).size = s.size := by simp [lowerL, size_mk]
  have hlo2 := fun w => lower_is ⟨(lowerL s.data.toList).toArray⟩ w (by omega)
  have hk1 := fun w => keyword_is s m w hs
  have hk2 := fun w => keyword_is ⟨(lowerL s.data.toList).toArray⟩ m w (by omega)
  rw [show (⟨(lowerL s.data.toList).toArray⟩ : ByteArray).data.toList = lowerL s.data.toList from rfl] at hlo2 hk2
  rw [lowerL_idem] at hlo2
  rw [kwL_lower] at hk2
  generalize (⟨(lowerL s.data.toList).toArray⟩ : ByteArray) = a at hlo hlen hlo2 hk1 hk2
  generalize kwL s.data.toList = k at hk1 hk2
  have HLO := Lib.hid hlo; clear hlo
  have HLO2 := Lib.hid hlo2; clear hlo2
  have HK1 := Lib.hid hk1; clear hk1
  have HK2 := Lib.hid hk2; clear hk2
  go_enter Try.func6, Try.ntmps6
  go_wp2_with (go_at_call 7; refine (alive_is _).mono ?_; rintro e w1 ⟨rfl, hB1⟩)
  refine (HLO.out _).mono ?_
  rintro e w2 ⟨rfl, hB2⟩
  have hm2 := cell_later hB2 (cell_later hB1 hm)
  have hB := hB1.trans (hB2.mono hB1.size)
  have HB := Lib.hid hB; clear hB hB1 hB2
  have HM := Lib.hid hm2; clear hm2 hm
  go_wp2_with fail
  refine (HLO2.out _).mono ?_
  rintro e w3 ⟨rfl, hB2⟩
  have hm2 := cell_later hB2 HM.out
  have hB := HB.out.trans (hB2.mono HB.out.size)
  clear HB hB2 HM
  have HB := Lib.hid hB; clear hB
  have HM := Lib.hid hm2; clear hm2
  go_wp2_with fail
  refine (HK2.out _ HM.out).mono ?_
  rintro e w4 ⟨rfl, hB2⟩
  have hm2 := cell_later hB2 HM.out
  have hB := HB.out.trans (hB2.mono HB.out.size)
  clear HB hB2 HM
  have HB := Lib.hid hB; clear hB
  have HM := Lib.hid hm2; clear hm2
  go_wp2_with fail
  refine (HK1.out _ HM.out).mono ?_
  rintro e w5 ⟨rfl, hB2⟩
  have hB := HB.out.trans (hB2.mono HB.out.size)
  clear HB hB2 HM
  have HB := Lib.hid hB; clear hB
  go_wp2
  go_ret
  exact ⟨rfl, HB.out⟩
end Go.Proofs.Ytamlgkikjajcpaa
