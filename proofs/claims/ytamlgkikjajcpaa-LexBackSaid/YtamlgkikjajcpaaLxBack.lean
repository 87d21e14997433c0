/- LexBack: the walk. -/
import Derived.Test.YtamlgkikjajcpaaLxSame
import Derived.Test.YtamlgkikjajcpaaLxWritten
namespace Go.Proofs.Ytamlgkikjajcpaa
open Go.RowKit Go.Proofs.YtamlgkikjajcpaaW.PrintWords

abbrev TKR : TypeId := 30

theorem infoTokR : (Try.prog.info? TKR).map (fun i => (i.zero, i.size, i.bytes)) = some (some (.agg #[.int .i64 0, .string ⟨#[]⟩, .int .i64 0, .int .i64 0]), 4, 40) := by kernel_rfl

set_option maxRecDepth 100000 in
set_option maxHeartbeats 2000000 in
theorem back_is (s : ByteArray) (w : World) (hs : s.size ≤ 140737488351232) : Calls Try.prog 3 #[.string s] w fun e w' => e = .returned (.bool true) ∧ Below w.heap.size w w' := by
  have hl := fun w => lex_is s w hs
  unfold LexPost at hl
  have hE := lex_err s.data.toList
  have hL := lex_lies s.data.toList
  have hG := lex_good s.data.toList
  generalize lexL s.data.toList = X at hl hE hL hG
  obtain ⟨l, n, er⟩ := X
  dsimp only at hl hE hL hG
  have HL := Lib.hid hl; clear hl
  have HGD := Lib.hid hG; clear hG
  go_enter Try.func3, Try.ntmps3
  go_wp2_with (go_at_call 7; refine (alive_is _).mono ?_; rintro e w1 ⟨rfl, hB1⟩)
  refine (HL.out w1).mono ?_
  rintro e w2 ⟨v, rfl, hR, hB2⟩
  obtain ⟨A, c, rfl⟩ := Kd.R_slice hR
  have hB := hB1.trans (hB2.mono hB1.size)
  have HB := Lib.hid hB; clear hB hB1 hB2
  have HR := Lib.hid hR; clear hR
  rcases hE with ⟨h1, h2⟩ | ⟨h1, h2, _⟩
  · subst h1
    have hlen : l.length ≤ 400 := (hL rfl).2.2
    clear hL h2
    go_wp2_with (go_at_call 9; refine (num_is _ _).mono ?_; rintro e w' ⟨rfl, rfl⟩)
    have hsn := fun k (h : k < l.length) => textL_snoc (l.take k) l[k]
    have hpn := fun k (h : k < l.length) => placeL_snoc (l.take k) l[k] 0
    have htl := fun k => textL_len (l.take k) (fun t ht => HGD.out t (List.mem_of_mem_take ht))
    have HSN := Lib.hid hsn; clear hsn
    have HPN := Lib.hid hpn; clear hpn
    have HTL := Lib.hid htl; clear htl
    go_loopg [6, 7, 8] l.length (fun q vt vw v wr => ∃ k : Nat, v = .int .i64 k ∧ k ≤ l.length ∧ q = l.length - k ∧ vt = .string ⟨(textL (l.take k)).toArray⟩ ∧ kTok.R TKR wr w'.heap.size (fun _ => True) vw (placeL 0 (l.take k)) ∧ Below w'.heap.size w' wr)
    case atStart => exact ⟨0, rfl, by omega, rfl, rfl, Kd.R_nil _ _ _ _ _, Below.refl _ _⟩
    case round =>
      obtain ⟨k, rfl, hk, hq, rfl, hRw, hb⟩ := hrel
      have HQ := Lib.hid hq; clear hq
      have htl : (textL (l.take k)).length ≤ 52800 := by
        have := HTL.out k
        have h2 : (l.take k).length ≤ 400 := by simp; omega
        omega
      obtain ⟨Aw, cw, hvw⟩ := Kd.R_slice hRw
      have hpl := placeL_len (l.take k) 0
      have hpk : (l.take k).length = k := by simp; omega
      rw [hpl, hpk] at hvw
      subst hvw
      clear hpl hpk
      have HRW := Lib.hid hRw; clear hRw
      by_cases hlt : k < l.length
      · obtain ⟨g, cap, hv, hcap, _, hg, hcell⟩ := tok_cells HR.out (by omega)
        injection hv with hA hbad hc
        clear hbad
        subst hA hc
        obtain ⟨q0, q1, q2, q3⟩ := hcell k hlt
        have hgd := HGD.out l[k] (List.getElem_mem hlt)
        have hs1 := HSN.out k hlt
        have hp1 := HPN.out k hlt
        rw [← List.take_succ_eq_append_getElem hlt] at hs1 hp1
        generalize l[k] = t at *
        obtain ⟨tk, tt, tn, ta⟩ := t
        unfold GoodT at hgd
        dsimp only at q0 q1 q2 q3 hgd hs1 hp1
        replace q0 := row_below hb hg q0; replace q1 := row_below hb hg q1; replace q2 := row_below hb hg q2; replace q3 := row_below hb hg q3
        have HGT := Lib.hid hgd; clear hgd
        have HS1 := Lib.hid hs1; clear hs1
        have HP1 := Lib.hid hp1; clear hp1
        have HBw := Lib.hid hb; clear hb hcell
        have hplen : (placeL 0 (l.take k)).length ≤ 400 := by rw [placeL_len]; simp; omega
        go_wp2_with (at_builtin; (refine Kd.R_append kTok (w0 := w') w'.heap.size rfl (.tmp 40) (.tmp 42) 28 TKR _ 40 rfl Try.underlying28 infoTokR rfl (by decide) (by omega) (.slice Aw k cw) (placeL 0 (l.take k)) ⟨tk, tt, tn, ((textL (l.take k)).length : Nat)⟩ [.int .i64 tk, .string tt, .int .i64 tn, .int .i64 ((textL (l.take k)).length : Nat)] (fun _ => True) (fun _ => False) rfl ?aX ?aP (fun _ hk => hk.elim) ?aF ?aO ?aB ?aS ?aL ?_))
        case aX => show Value.slice _ _ _ = _; simp
        case aP => exact kTok_mkM _ _ _ _
        case aF => intro _ _; trivial
        case aO => exact Kd.R_alloc HRW.out _
        case aB => exact HBw.out.alloc HBw.out.size _
        case aS => have := HBw.out.size; simp; omega
        case aL => omega
        intro v1 w5 hR5 hB5 hG5 _
        have hne : some wr.heap.size ≠ (Value.slice Aw k cw).ownBlock := Kd.R_away (Kd.R_mono (Kd.R_bound HRW.out) (ok' := fun k => k ≠ wr.heap.size) (fun k hk e => by have := hk.2.2.1; omega)) (fun _ h => h)
        have hT5 : Tk4 w5 wr.heap.size tk tt tn ((textL (l.take k)).length : Nat) := by
          have h0 := tk4_new wr tk tt tn ((textL (l.take k)).length : Nat) TKR
          have h1 := hG5.block wr.heap.size (by simp) hne
          unfold Tk4 World.cell? at h0 ⊢
          simp only at h0 ⊢
          rw [h1]; exact h0
        obtain ⟨y0, y1, y2, y3⟩ := hT5
        clear hG5 hne q0 q1 q2 q3
        have HR5 := Lib.hid hR5; clear hR5
        have HB5 := Lib.hid hB5; clear hB5
        have hwr := writL_len _ _ _ HGT.out
        go_wp2_with fail
        refine (written_is tk tt tn _ w5 HGT.out).mono ?_
        rintro e w6 ⟨rfl, hB6⟩
        have hR6 := Kd.R_below HR5.out hB6
        rw [show (((textL (l.take k)).length : Nat) : Int) = ((0 + (textL (l.take k)).length : Nat) : Int) by simp, ← HP1.out] at hR6
        have hB7 := HB5.out.trans (hB6.mono HB5.out.size)
        clear HR5 HB5 hB6 y0 y1 y2 y3
        have HR6 := Lib.hid hR6; clear hR6
        have HB7 := Lib.hid hB7; clear hB7
        have hcat : (⟨(textL (l.take k)).toArray⟩ : ByteArray) ++ ⟨(writL tk tt.data.toList tn).toArray⟩ ++ ⟨#[32]⟩ = ⟨(textL (l.take (k+1))).toArray⟩ := by
          apply bytes_ext; simp only [data_append']; rw [HS1.out]; simp
        have HCAT := Lib.hid hcat; clear hcat
        go_wp2
        go_roundg (l.length - (k+1))
        case measure => have := HQ.out; omega
        case rel => exact ⟨k+1, by go_num, by omega, rfl, congrArg Value.string HCAT.out, HR6.out, HB7.out⟩
      · have htk : l.take k = l := List.take_of_length_le (by omega)
        have HBw := Lib.hid hb; clear hb
        have hkl : k = l.length := by omega
        subst hkl
        rw [htk] at HRW htl ⊢
        clear htk
        by_cases h2 : 2048 < (textL l).length
        · go_wp2
          go_ret
          exact ⟨rfl, HB.out.trans (HBw.out.mono HB.out.size)⟩
        · have hl2 := fun w => lex_is ⟨(textL l).toArray⟩ w (by rw [size_mk]; omega)
          unfold LexPost at hl2
          rw [show (⟨(textL l).toArray⟩ : ByteArray).data.toList = textL l from rfl, lex_back l HGD.out hlen (by omega)] at hl2
          have HL2 := Lib.hid hl2; clear hl2
          go_wp2_with fail
          refine (HL2.out wr).mono ?_
          rintro e w3 ⟨v3, rfl, hR3, hB3⟩
          have hRw3 := Kd.R_below HRW.out hB3
          have hpl := placeL_len l 0
          have hB4 := HB.out.trans ((HBw.out.trans (hB3.mono HBw.out.size)).mono HB.out.size)
          have hsame := same_is (placeL 0 l) _ _ _ _ _ _ _ _ w3 (by omega) hR3 hRw3
          obtain ⟨A3, c3, rfl⟩ := Kd.R_slice hR3
          clear hR3 hRw3 hB3
          have HS := Lib.hid hsame; clear hsame
          have HB4 := Lib.hid hB4; clear hB4
          rw [hpl] at *
          clear hpl
          go_wp2_with (go_at_call 9; refine (num_is _ _).mono ?_; rintro e w7 ⟨rfl, rfl⟩)
          refine HS.out.mono ?_
          rintro e w8 ⟨rfl, hB8⟩
          have HB8 := Lib.hid (HB4.out.trans (hB8.mono HB4.out.size)); clear hB8
          go_wp2
          go_ret
          exact ⟨rfl, HB8.out⟩
  · subst h2
    clear hL
    have h1' : (er != 0) = true := by simpa using h1
    go_wp2_with (go_at_call 9; refine (num_is _ _).mono ?_; rintro e w' ⟨rfl, rfl⟩)
    go_ret
    exact ⟨by simp, HB.out⟩
end Go.Proofs.Ytamlgkikjajcpaa
