/- LexBlanks: the walk. -/
import Derived.Test.YtamlgkikjajcpaaLxAlive
import Derived.Test.YtamlgkikjajcpaaLxBlankLaws
namespace Go.Proofs.Ytamlgkikjajcpaa
open Go.RowKit Go.Proofs.YtamlgkikjajcpaaW.PrintWords

set_option maxRecDepth 100000 in
set_option maxHeartbeats 2000000 in
theorem blanks_is (s rm : ByteArray) (w : World) (hs : s.size ≤ 140737488351232) (hr : rm.size ≤ 140737488351232) : Calls Try.prog 4 #[.string s, .string rm] w fun e w' => e = .returned (.bool true) ∧ Below w.heap.size w w' := by
  go_enter Try.func4, Try.ntmps4
  go_wp2_with (go_at_call 7; refine (alive_is _).mono ?_; rintro e w1 ⟨rfl, hB1⟩)
  have HB1 := Lib.hid hB1; clear hB1
  go_loop [5] (fun v => ∃ k : Nat, v = .int .i64 k ∧ k ≤ rm.size ∧ Hid (∀ c ∈ rm.data.toList.take k, c ≠ 10)) (fun v => rm.size - (intOf v).toNat)
  case atStart => exact ⟨0, rfl, by omega, by intro c hc; simp at hc⟩
  case round =>
    obtain ⟨k, rfl, hk, HK⟩ := hrel
    by_cases hlt : k < rm.size
    · have hd : decide (k < rm.size) = true := by simpa using hlt
      by_cases hc : rm[k] = 10
      · have hx : ((rm[k].toNat : Int) == 10) = true := by rw [hc]; rfl
        have HC := Lib.hid hc; clear hc
        go_wp2
        go_ret
        exact ⟨rfl, HB1.out⟩
      · have hx : ((rm[k].toNat : Int) == 10) = false := by
          have : ¬ rm[k].toNat = 10 := fun h => hc (UInt8.toNat_inj.1 (by simpa using h))
          simp; omega
        have HC := Lib.hid hc; clear hc
        go_wp2
        refine ⟨⟨k+1, by go_num, by omega, ?_⟩, by simp [intOf]; omega⟩
        intro c hc'
        rw [List.take_succ_eq_append_getElem (by simpa using hlt)] at hc'
        rcases List.mem_append.1 hc' with h | h
        · exact HK.out c h
        · rw [List.mem_singleton.1 h]; exact HC.out
    · have hd : decide (k < rm.size) = false := by simpa using hlt
      have hnl : ∀ c ∈ rm.data.toList, c ≠ 10 := by
        have h := HK.out
        rwa [List.take_of_length_le (by simp; omega)] at h
      have HN := Lib.hid hnl; clear hnl
      by_cases h1 : 1500 < s.size
      · go_wp2
        go_ret
        exact ⟨rfl, HB1.out⟩
      · by_cases h2 : 400 < rm.size
        · go_wp2
          go_ret
          exact ⟨rfl, HB1.out⟩
        · have hE := lex_err s.data.toList
          have hL := lex_lies s.data.toList
          have hA := lex_at s.data.toList
          have hX := lex_blanks rm.data.toList s.data.toList HN.out (by simpa using h1) (by simpa using h2)
          have hla := fun w => lex_is s w hs
          have hH : (headL rm.data.toList).length = rm.size + 5 := by simp [headL]
          rw [hH] at hX
          have hlb := fun w => lex_is ⟨(headL rm.data.toList ++ s.data.toList).toArray⟩ w (by rw [size_mk, List.length_append, hH]; simp; omega)
          unfold LexPost at hla hlb
          rw [show (⟨(headL rm.data.toList ++ s.data.toList).toArray⟩ : ByteArray).data.toList = headL rm.data.toList ++ s.data.toList from rfl, hX] at hlb
          rw [show s.data.toList.length = s.size from by simp] at hE hA
          clear hX
          generalize lexL s.data.toList = X at hla hlb hE hA hL
          obtain ⟨l, n, er⟩ := X
          dsimp only at hla hlb hE hA hL
          have HLA := Lib.hid hla; clear hla
          have HLB := Lib.hid hlb; clear hlb
          have hn : 0 ≤ n ∧ n ≤ s.size := by rcases hE with ⟨_, h⟩ | ⟨_, _, h⟩ <;> omega
          have hlen : l.length ≤ 400 := by
            rcases hE with ⟨h, _⟩ | ⟨_, h, _⟩
            · exact (hL h).2.2
            · rw [h]; exact Nat.zero_le _
          have HA := Lib.hid hA; clear hA
          clear hE hL
          have heq : (⟨#[32, 9, 45, 45]⟩ : ByteArray) ++ rm ++ ⟨#[10]⟩ ++ s = ⟨(headL rm.data.toList ++ s.data.toList).toArray⟩ := by
            apply bytes_ext
            simp only [data_append']
            simp [headL]
          have HEQ := Lib.hid heq; clear heq
          have HH := Lib.hid hH; clear hH
          go_wp2_with fail
          refine (HLA.out w1).mono ?_
          rintro e w2 ⟨v, rfl, hR2, hB2⟩
          obtain ⟨A, c, rfl⟩ := Kd.R_slice hR2
          go_wp2_with fail
          rw [HEQ.out]
          refine (HLB.out w2).mono ?_
          rintro e w3 ⟨v, rfl, hR3, hB3⟩
          obtain ⟨A3, c3, rfl⟩ := Kd.R_slice hR3
          rw [List.length_map] at *
          have HR2 := Lib.hid (Kd.R_below hR2 hB3); clear hR2
          have HR3 := Lib.hid hR3; clear hR3
          have HB3 := Lib.hid ((HB1.out.trans (hB2.mono HB1.out.size)).trans (hB3.mono (HB1.out.trans (hB2.mono HB1.out.size)).size)); clear hB2 hB3
          have hsz : ((⟨#[32, 9, 45, 45]⟩ : ByteArray) ++ rm ++ ⟨#[10]⟩).size = rm.size + 5 := by simp [size_mk]; omega
          have hnn : (n + ((rm.size : Int) + 5) - n != (rm.size : Int) + 5) = false := by
            rw [show n + ((rm.size : Int) + 5) - n = (rm.size : Int) + 5 by omega]; simp
          go_wp2
          have hl4 := (Kd.R_reads' HR2.out).2.1
          go_loopg [13] l.length (fun q v wr => ∃ k : Nat, v = .int .i64 k ∧ k ≤ l.length ∧ q = l.length - k ∧ Below w3.heap.size w3 wr)
          case atStart => exact ⟨0, rfl, by omega, rfl, Below.refl _ _⟩
          case round =>
            obtain ⟨k, rfl, hk, hq, hb⟩ := hrel
            have HQ := Lib.hid hq; clear hq
            have HBw := Lib.hid hb; clear hb
            by_cases hlt : k < l.length
            · have hlm : (l.map (shiftT (rm.size + 5 : Nat))).length = l.length := by simp
              obtain ⟨g, cap, hv, hcap, _, hg, hcell⟩ := tok_cells HR2.out (by omega)
              obtain ⟨g', cap', hv', hcap', _, hg', hcell'⟩ := tok_cells HR3.out (by omega)
              injection hv with hA' _ hc'
              injection hv' with hA'' hbad hc''
              clear hbad
              subst hA' hc' hA'' hc''
              obtain ⟨q0, q1, q2, q3⟩ := hcell k hlt
              obtain ⟨p0, p1, p2, p3⟩ := hcell' k (by rw [hlm]; exact hlt)
              have hat := HA.out l[k] (List.getElem_mem hlt)
              have hg2 : (l.map (shiftT (rm.size + 5 : Nat)))[k]'(by rw [hlm]; exact hlt) = shiftT (rm.size + 5 : Nat) l[k] := List.getElem_map _
              rw [hg2] at p0 p1 p2 p3
              rw [hlm] at hcap'
              clear hcell hcell' hg2 hlm
              generalize l[k] = t at *
              obtain ⟨tk, tt, tn, ta⟩ := t
              dsimp only [shiftT] at hat q0 q1 q2 q3 p0 p1 p2 p3
              replace p0 := row_below HBw.out hg' p0; replace p1 := row_below HBw.out hg' p1; replace p2 := row_below HBw.out hg' p2; replace p3 := row_below HBw.out hg' p3
              have he4 : ta + ((rm.size + 5 : Nat) : Int) = ta + (rm.size + 5) := by omega
              rw [he4] at p3
              clear he4
              go_wp2
              have ht : TkAt (wr.alloc (.cells #[.int .i64 tk, .string tt, .int .i64 tn, .int .i64 ta] TKT)) wr.heap.size tk tt tn ta := heap_alloc_new wr _
              have hb3 : Below w3.heap.size w3 (wr.alloc (.cells #[.int .i64 tk, .string tt, .int .i64 tn, .int .i64 ta] TKT)) := HBw.out.alloc HBw.out.size _
              change Code.wp _ _ _ _ (wr.alloc (.cells #[.int .i64 tk, .string tt, .int .i64 tn, .int .i64 ta] TKT))
              generalize wr.alloc (.cells #[.int .i64 tk, .string tt, .int .i64 tn, .int .i64 ta] TKT) = W3 at ht hb3 ⊢
              generalize wr.heap.size = B at ht ⊢
              obtain ⟨y0, y1, y2, y3⟩ := ht.cells
              replace q0 := row_below hb3 hg q0; replace q1 := row_below hb3 hg q1; replace q2 := row_below hb3 hg q2; replace q3 := row_below hb3 hg q3
              have HT := Lib.hid ht; clear ht
              have HB3 := Lib.hid hb3; clear hb3
              go_quiet (fail)
              go_wp2
              go_roundg (l.length - (k+1))
              case measure => have := HQ.out; omega
              case rel => exact ⟨k+1, by go_num, by omega, rfl, by repeat (first | exact HB3.out | apply below_drewN')⟩
            · go_wp2
              go_ret
              exact ⟨rfl, HB3.out.trans (HBw.out.mono HB3.out.size)⟩
end Go.Proofs.Ytamlgkikjajcpaa
