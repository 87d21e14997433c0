/- the law's own: two rows of tokens that are the same. -/
import Derived.Test.YtamlgkikjajcpaaLxAlive
namespace Go.Proofs.Ytamlgkikjajcpaa
open Go.RowKit Go.Proofs.YtamlgkikjajcpaaW.PrintWords

set_option maxRecDepth 100000 in
set_option maxHeartbeats 1000000 in
theorem same_is (xs : List Tok) (v v' : Value) (e e' b b' : Nat) (ok ok' : Nat → Prop) (w : World) (hl : xs.length ≤ 400) (h : kTok.R e w b ok v xs) (h' : kTok.R e' w b' ok' v' xs) :
    Calls Try.prog 11 #[v, v'] w fun e w' => e = .returned (.bool true) ∧ Below w.heap.size w w' := by
  obtain ⟨A, c, rfl⟩ := Kd.R_slice h
  obtain ⟨A', c', rfl⟩ := Kd.R_slice h'
  have HR := Lib.hid h; clear h
  have HR' := Lib.hid h'; clear h'
  go_enter Try.func11, Try.ntmps11
  go_wp2
  go_loopg [5] xs.length (fun q v wr => ∃ k : Nat, v = .int .i64 k ∧ k ≤ xs.length ∧ q = xs.length - k ∧ Below w.heap.size w wr)
  case atStart => exact ⟨0, rfl, by omega, rfl, Below.refl _ _⟩
  case round =>
    obtain ⟨k, rfl, hk, hq, hb⟩ := hrel
    have HQ := Lib.hid hq; clear hq
    have HBw := Lib.hid hb; clear hb
    by_cases hlt : k < xs.length
    · obtain ⟨g, cap, hv, hcap, _, hg, hcell⟩ := tok_cells HR.out (by omega)
      obtain ⟨g', cap', hv', hcap', _, hg', hcell'⟩ := tok_cells HR'.out (by omega)
      injection hv with hA1 hbad1 hc1
      injection hv' with hA2 hbad2 hc2
      clear hbad1 hbad2
      subst hA1 hc1 hA2 hc2
      obtain ⟨q0, q1, q2, q3⟩ := hcell k hlt
      obtain ⟨p0, p1, p2, p3⟩ := hcell' k hlt
      clear hcell hcell'
      generalize xs[k] = t at *
      obtain ⟨tk, tt, tn, ta⟩ := t
      dsimp only at q0 q1 q2 q3 p0 p1 p2 p3
      replace q0 := row_below HBw.out hg q0; replace q1 := row_below HBw.out hg q1; replace q2 := row_below HBw.out hg q2; replace q3 := row_below HBw.out hg q3
      replace p0 := row_below HBw.out hg' p0; replace p1 := row_below HBw.out hg' p1; replace p2 := row_below HBw.out hg' p2; replace p3 := row_below HBw.out hg' p3
      go_wp2
      go_quiet (fail)
      go_wp2
      go_roundg (xs.length - (k+1))
      case measure => have := HQ.out; omega
      case rel => exact ⟨k+1, by go_num, by omega, rfl, by repeat (first | exact HBw.out | apply below_drewN')⟩
    · go_wp2
      go_ret
      exact ⟨rfl, HBw.out⟩
end Go.Proofs.Ytamlgkikjajcpaa
