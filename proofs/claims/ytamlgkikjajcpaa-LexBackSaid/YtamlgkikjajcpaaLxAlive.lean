/- lex: the page's example, told by the program. -/
import Derived.Test.YtamlgkikjajcpaaLxLex
import Derived.Test.YtamlgkikjajcpaaLxLaws
namespace Go.Proofs.Ytamlgkikjajcpaa
open Go.RowKit Go.Proofs.YtamlgkikjajcpaaW.PrintWords

theorem num_is (n : Int) (w : World) : Calls Try.prog 9 #[.int .i64 n] w fun e w' => e = .returned (.int .i64 n) ∧ w' = w := by
  go_enter Try.func9, Try.ntmps9
  go_wp2; go_ret; exact ⟨rfl, rfl⟩

set_option maxHeartbeats 1000000 in
theorem alive_is (w : World) : Calls Try.prog 7 #[] w fun e w' => e = .returned (.bool true) ∧ Below w.heap.size w w' := by
  have hl := lex_is ⟨#[97, 60, 61, 39, 105, 116, 39, 39, 115, 39]⟩ w (by decide)
  unfold LexPost at hl
  rw [show (⟨#[97, 60, 61, 39, 105, 116, 39, 39, 115, 39]⟩ : ByteArray).data.toList = [97, 60, 61, 39, 105, 116, 39, 39, 115, 39] from rfl, lex_alive] at hl
  have HL := Lib.hid hl; clear hl
  go_enter Try.func7, Try.ntmps7
  go_wp2_with fail
  refine HL.out.mono ?_
  rintro e w1 ⟨v, rfl, hR, hB⟩
  obtain ⟨g, cap, hv, _, _, _, hc⟩ := tok_cells hR (by decide)
  subst hv
  obtain ⟨a0, _, _, _⟩ := hc 0 (by decide)
  obtain ⟨_, b1, _, _⟩ := hc 1 (by decide)
  obtain ⟨_, d1, _, d3⟩ := hc 2 (by decide)
  clear hc hR
  have HB := Lib.hid hB; clear hB
  go_wp2_with (go_at_call 9; refine (num_is _ _).mono ?_; rintro e w' ⟨rfl, rfl⟩)
  go_ret
  exact ⟨rfl, HB.out⟩
end Go.Proofs.Ytamlgkikjajcpaa
