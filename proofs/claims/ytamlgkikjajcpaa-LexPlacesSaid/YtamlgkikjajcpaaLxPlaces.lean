/- LexPlaces: the walk. -/
import Derived.Test.YtamlgkikjajcpaaLxAlive
import Derived.Deep.RegionHeld3
namespace Go.Proofs.Ytamlgkikjajcpaa
open Go.RowKit Go.Proofs.YtamlgkikjajcpaaW.PrintWords

theorem row_below {W wr : World} {g : Nat} (hb : Below W.heap.size W wr) (hg : g < W.heap.size) {o : Nat} {v : Value} (h : W.cell? ⟨g, o, none⟩ = some v) : wr.cell? ⟨g, o, none⟩ = some v :=
  (hb.cell (p := ⟨g, o, none⟩) hg).trans h

set_option maxRecDepth 100000 in
set_option maxHeartbeats 2000000 in
theorem places_is (s : ByteArray) (w : World) (hs : s.size ≤ 140737488351232) : Calls Try.prog 5 #[.string s] w fun e w' => e = .returned (.bool true) ∧ Below w.heap.size w w' := by
  have hl := fun w => lex_is s w hs
  unfold LexPost at hl
  have hE := lex_err s.data.toList
  have hL := lex_lies s.data.toList
  rw [show s.data.toList.length = s.size from by simp] at hE
  generalize lexL s.data.toList = X at hl hE hL
  obtain ⟨l, n, er⟩ := X
  dsimp only at hl hE hL
  have HL := Lib.hid hl; clear hl
  go_enter Try.func5, Try.ntmps5
  go_wp2_with (go_at_call 7; refine (alive_is _).mono ?_; rintro e w1 ⟨rfl, hB1⟩)
  refine (HL.out w1).mono ?_
  rintro e w2 ⟨v, rfl, hR, hB2⟩
  obtain ⟨A, c, rfl⟩ := Kd.R_slice hR
  have hB := hB1.trans (hB2.mono hB1.size)
  have HB := Lib.hid hB; clear hB hB1 hB2
  have HR := Lib.hid hR; clear hR
  rcases hE with ⟨h1, h2⟩ | ⟨h1, h2, h3, h4⟩
  · subst h1 h2
    have HLI := Lib.hid (hL rfl); clear hL
    go_wp2_with (go_at_call 9; refine (num_is _ _).mono ?_; rintro e w' ⟨rfl, rfl⟩)
    have hlen : l.length ≤ 400 := HLI.out.2.2
    go_loopg [6] l.length (fun q v wr => ∃ k : Nat, v = .int .i64 k ∧ k ≤ l.length ∧ q = l.length - k ∧ Below w'.heap.size w' wr)
    case atStart => exact ⟨0, rfl, by omega, rfl, Below.refl _ _⟩
    case round =>
      obtain ⟨k, rfl, hk, hq, hb⟩ := hrel
      have HQ := Lib.hid hq; clear hq
      by_cases hlt : k < l.length
      · obtain ⟨g, cap, hv, hcap, _, hg, hcell⟩ := tok_cells HR.out (by omega)
        injection hv with hA _ hc
        subst hA hc
        obtain ⟨p, c0, hat, hsp, hk4, hk3, hk1⟩ := HLI.out.1 l[k] (List.getElem_mem hlt)
        have hprev : ∀ h : 0 < k, l[k-1].at_ < l[k].at_ := fun h => List.pairwise_iff_getElem.1 HLI.out.2.1 (k-1) k (by omega) hlt (by omega)
        obtain ⟨q0, q1, q2, q3⟩ := hcell k hlt
        have q4 : ∀ h : 0 < k, w'.cell? ⟨g, (k-1) * 4 + 3, none⟩ = some (.int .i64 l[k-1].at_) := fun h => (hcell (k-1) (by omega)).2.2.2
        obtain ⟨t, ht⟩ : ∃ t, t = l[k] := ⟨_, rfl⟩
        rw [← ht] at hat hk4 hk3 hk1 q0 q1 q2 q3
        have hprev' : ∀ h : 0 < k, l[k-1].at_ < t.at_ := by rw [ht]; exact hprev
        clear ht hcell hprev
        obtain ⟨tk, tt, tn, ta⟩ := t
        dsimp only at hat hk4 hk3 hk1 q0 q1 q2 q3 hprev'
        subst hat
        have hps : p < s.size := by have := (List.getElem?_eq_some_iff.1 hsp).1; simpa using this
        have hc0 : s[p] = c0 := by have := (List.getElem?_eq_some_iff.1 hsp).2; exact this
        subst hc0
        have r0 := row_below hb hg q0
        have r1 := row_below hb hg q1
        have r2 := row_below hb hg q2
        have r3 := row_below hb hg q3
        have HBb := Lib.hid hb; clear hb
        clear q0 q1 q2 q3 hsp
        have hbp := UInt8.toNat_lt s[p]
        have HK4 := Lib.hid hk4; have HK3 := Lib.hid hk3; have HK1 := Lib.hid hk1
        clear hk4 hk3 hk1
        have d1 : decide (((p : Nat) : Int) < 0) = false := by simp
        have d2 : decide ((s.size : Int) ≤ p) = false := by simp; omega
        have d2' : decide (s.size ≤ p) = false := by simp; omega
        go_wp2
        have ht : TkAt (wr.alloc (.cells #[.int .i64 tk, .string tt, .int .i64 tn, .int .i64 p] TKT)) wr.heap.size tk tt tn p := heap_alloc_new wr _
        have hb3 : Below w'.heap.size w' (wr.alloc (.cells #[.int .i64 tk, .string tt, .int .i64 tn, .int .i64 p] TKT)) := HBb.out.alloc HBb.out.size _
        change Code.wp _ _ _ _ (wr.alloc (.cells #[.int .i64 tk, .string tt, .int .i64 tn, .int .i64 p] TKT))
        generalize wr.alloc (.cells #[.int .i64 tk, .string tt, .int .i64 tn, .int .i64 p] TKT) = W3 at ht hb3 ⊢
        generalize wr.heap.size = B at ht ⊢
        clear r0 r1 r2 r3 HBb
        obtain ⟨y0, y1, y2, y3⟩ := ht.cells
        have HT := Lib.hid ht; clear ht
        by_cases hk0 : k = 0
        · have d3 : decide ((0 : Int) < k) = false := by simp; omega
          have d3' : decide (0 < k) = false := by simp; omega
          clear q4 hprev' hk0
          have HB3 := Lib.hid hb3; clear hb3
          go_quiet (fail)
          go_wp2
          by_cases t4 : tk = 4
          · obtain ⟨r, hr⟩ := HK4.out t4
            have htt : tt = ⟨(s[p] :: r).toArray⟩ := by rw [← hr]
            subst htt t4
            clear hr
            have hix : (⟨(s[p] :: r).toArray⟩ : ByteArray)[0]'(Nat.succ_pos _) = s[p] := rfl
            go_quiet (fail)
            go_wp2
            go_roundg (l.length - (k+1))
            case measure => have := HQ.out; omega
            case rel => exact ⟨k+1, by go_num, by omega, rfl, by repeat (first | exact HB3.out | apply below_drewN')⟩
          · by_cases t3 : tk = 3
            · have hq := HK3.out t3
              have hqq : ((s[p].toNat : Int) != 39) = false := by rw [hq]; rfl
              subst t3
              clear hq t4
              go_quiet (fail)
              go_wp2
              go_roundg (l.length - (k+1))
              case measure => have := HQ.out; omega
              case rel => exact ⟨k+1, by go_num, by omega, rfl, by repeat (first | exact HB3.out | apply below_drewN')⟩
            · by_cases t1 : tk = 1
              · obtain ⟨r, hr⟩ := HK1.out t1
                have htt : tt = ⟨(lowerB s[p] :: r).toArray⟩ := by rw [← hr]
                subst htt t1
                clear hr
                have hlow : ∀ w, Calls Try.prog 12 #[.string (s.extract p (p+1))] w fun e w' => e = .returned (.string ⟨[lowerB s[p]].toArray⟩) ∧ Below w.heap.size w w' := fun w => by
                  have h := lower_is (s.extract p (p+1)) w (by simp; omega)
                  have e : (s.extract p (p+1)).data.toList = [s[p]] := by
                    rw [Lib.extract_data]
                    show List.take _ (rest s p) = _
                    rw [rest_cons s p hps]; simp
                  rw [e] at h; exact h
                have HLOW := Lib.hid hlow; clear hlow
                have hp1 : IntKind.i64.wrap ((p : Int) + 1) = (p : Int) + 1 := IntWalk.i64_in _ (by omega)
                have hp2 : (0 : Int) ≤ (p : Int) + 1 := by omega
                have hp3 : ((p : Int) + 1).toNat = p + 1 := by omega
                have hm1 := min_two'
                have hm2 := min2_int'
                have hm3 : ¬ ((r.length : Int) + 1 < 1) := by omega
                have hex : (⟨(lowerB s[p] :: r).toArray⟩ : ByteArray).extract 0 1 = ⟨[lowerB s[p]].toArray⟩ := by
                  have h : ((⟨(lowerB s[p] :: r).toArray⟩ : ByteArray).extract 0 1).data.toList = [lowerB s[p]] := by rw [Lib.extract_data]; simp
                  rw [← h]
                have x0 := plus_cell (w := W3.drewN nq) y0
                have x1 := plus_cell (w := W3.drewN nq) y1
                have x3 := plus_cell (w := W3.drewN nq) y3
                refine wp_region_plus (by kernel_rfl) (by kernel_rfl) ?_
                repeat (go_big_quiet_step ((go_at_call 12; exact plus_calls HLOW.out _)))
                refine wpQuiet_nil ?_
                rintro _ ⟨z, rfl⟩
                have hbz := plus_below (W3.drewN nq) z
                generalize plusW (W3.drewN nq) z = W5 at hbz x0 x1 x3 ⊢
                clear x0 x1 x3 y0 y1 y2 y3 HT HLOW
                have HB5 := Lib.hid ((below_drewN' HB3.out nq).trans (hbz.mono HB3.out.size))
                clear hbz
                go_wp2
                go_roundg (l.length - (k+1))
                case measure => have := HQ.out; omega
                case rel => exact ⟨k+1, by go_num, by omega, rfl, HB5.out⟩
              · have e4 : (tk == 4) = false := by simp [t4]
                have e3 : (tk == 3) = false := by simp [t3]
                have e1 : (tk == 1) = false := by simp [t1]
                clear t4 t3 t1
                go_quiet (fail)
                go_wp2
                go_roundg (l.length - (k+1))
                case measure => have := HQ.out; omega
                case rel => exact ⟨k+1, by go_num, by omega, rfl, by repeat (first | exact HB3.out | apply below_drewN')⟩
        · have r4 := row_below hb3 hg (q4 (by omega))
          have d4 : decide ((p : Int) ≤ l[k-1].at_) = false := by have := hprev' (by omega); simp; omega
          have d3 : decide ((0 : Int) < k) = true := by simp; omega
          have d3' : decide (0 < k) = true := by simp; omega
          have hk1 : (0 : Int) ≤ (k : Int) - 1 := by omega
          have hk2 : ((k : Int) - 1).toNat = k - 1 := by omega
          clear q4 hprev'
          have HB3 := Lib.hid hb3; clear hb3
          generalize l[k-1].at_ = prev at r4 d4
          go_quiet (fail)
          go_wp2
          by_cases t4 : tk = 4
          · obtain ⟨r, hr⟩ := HK4.out t4
            have htt : tt = ⟨(s[p] :: r).toArray⟩ := by rw [← hr]
            subst htt t4
            clear hr
            have hix : (⟨(s[p] :: r).toArray⟩ : ByteArray)[0]'(Nat.succ_pos _) = s[p] := rfl
            go_quiet (fail)
            go_wp2
            go_roundg (l.length - (k+1))
            case measure => have := HQ.out; omega
            case rel => exact ⟨k+1, by go_num, by omega, rfl, by repeat (first | exact HB3.out | apply below_drewN')⟩
          · by_cases t3 : tk = 3
            · have hq := HK3.out t3
              have hqq : ((s[p].toNat : Int) != 39) = false := by rw [hq]; rfl
              subst t3
              clear hq t4
              go_quiet (fail)
              go_wp2
              go_roundg (l.length - (k+1))
              case measure => have := HQ.out; omega
              case rel => exact ⟨k+1, by go_num, by omega, rfl, by repeat (first | exact HB3.out | apply below_drewN')⟩
            · by_cases t1 : tk = 1
              · obtain ⟨r, hr⟩ := HK1.out t1
                have htt : tt = ⟨(lowerB s[p] :: r).toArray⟩ := by rw [← hr]
                subst htt t1
                clear hr
                have hlow : ∀ w, Calls Try.prog 12 #[.string (s.extract p (p+1))] w fun e w' => e = .returned (.string ⟨[lowerB s[p]].toArray⟩) ∧ Below w.heap.size w w' := fun w => by
                  have h := lower_is (s.extract p (p+1)) w (by simp; omega)
                  have e : (s.extract p (p+1)).data.toList = [s[p]] := by
                    rw [Lib.extract_data]
                    show List.take _ (rest s p) = _
                    rw [rest_cons s p hps]; simp
                  rw [e] at h; exact h
                have HLOW := Lib.hid hlow; clear hlow
                have hp1 : IntKind.i64.wrap ((p : Int) + 1) = (p : Int) + 1 := IntWalk.i64_in _ (by omega)
                have hp2 : (0 : Int) ≤ (p : Int) + 1 := by omega
                have hp3 : ((p : Int) + 1).toNat = p + 1 := by omega
                have hm1 := min_two'
                have hm2 := min2_int'
                have hm3 : ¬ ((r.length : Int) + 1 < 1) := by omega
                have hex : (⟨(lowerB s[p] :: r).toArray⟩ : ByteArray).extract 0 1 = ⟨[lowerB s[p]].toArray⟩ := by
                  have h : ((⟨(lowerB s[p] :: r).toArray⟩ : ByteArray).extract 0 1).data.toList = [lowerB s[p]] := by rw [Lib.extract_data]; simp
                  rw [← h]
                have x0 := plus_cell (w := W3.drewN nq) y0
                have x1 := plus_cell (w := W3.drewN nq) y1
                have x3 := plus_cell (w := W3.drewN nq) y3
                refine wp_region_plus (by kernel_rfl) (by kernel_rfl) ?_
                repeat (go_big_quiet_step ((go_at_call 12; exact plus_calls HLOW.out _)))
                refine wpQuiet_nil ?_
                rintro _ ⟨z, rfl⟩
                have hbz := plus_below (W3.drewN nq) z
                generalize plusW (W3.drewN nq) z = W5 at hbz x0 x1 x3 ⊢
                clear x0 x1 x3 y0 y1 y2 y3 HT HLOW
                have HB5 := Lib.hid ((below_drewN' HB3.out nq).trans (hbz.mono HB3.out.size))
                clear hbz
                go_wp2
                go_roundg (l.length - (k+1))
                case measure => have := HQ.out; omega
                case rel => exact ⟨k+1, by go_num, by omega, rfl, HB5.out⟩
              · have e4 : (tk == 4) = false := by simp [t4]
                have e3 : (tk == 3) = false := by simp [t3]
                have e1 : (tk == 1) = false := by simp [t1]
                clear t4 t3 t1
                go_quiet (fail)
                go_wp2
                go_roundg (l.length - (k+1))
                case measure => have := HQ.out; omega
                case rel => exact ⟨k+1, by go_num, by omega, rfl, by repeat (first | exact HB3.out | apply below_drewN')⟩
      · go_wp2
        go_ret
        exact ⟨by simp; omega, HB.out.trans (hb.mono HB.out.size)⟩
  · subst h2
    clear hL
    have h1' : (er != 0) = true := by simpa using h1
    go_wp2_with (go_at_call 9; refine (num_is _ _).mono ?_; rintro e w' ⟨rfl, rfl⟩)
    go_ret
    exact ⟨by simp, HB.out⟩
end Go.Proofs.Ytamlgkikjajcpaa
