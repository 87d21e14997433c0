/- lex.Lex: all tokens. -/
import Derived.Test.YtamlgkikjajcpaaTok
import Derived.Test.YtamlgkikjajcpaaLxSkip
import Derived.Test.YtamlgkikjajcpaaLxTokenQ
import Derived.Test.YtamlgkikjajcpaaLxTokenS
namespace Go.Proofs.Ytamlgkikjajcpaa
open Go.RowKit Go.Proofs.YtamlgkikjajcpaaW.PrintWords

theorem token_is (g : Nat) (s : ByteArray) (i : Nat) (w : World) (hl : LxAt w g s i) (hi : i < s.size) (hs : s.size ≤ 140737488351232) :
   Calls Try.prog 15 #[.pointer (some ⟨g, 0, none⟩)] w (TokenPost s i g w) := by
  cases h1 : isLetter (s[i]).toNat with
  | true => exact token_letter g s i w hl hi hs h1
  | false =>
    cases h2 : isDigit (s[i]).toNat with
    | true => exact token_digit g s i w hl hi hs h1 h2
    | false =>
      by_cases h3 : s[i] = 39
      · exact token_quote g s i w hl hi hs h1 h2 h3
      · exact token_sign g s i w hl hi hs h1 h2 h3

def LexPost (s : ByteArray) (w : World) (e : Ending) (w' : World) : Prop :=
  ∃ v, e = .returned (.tuple #[v, .int .i64 (lexL s.data.toList).2.1, .int .i64 (lexL s.data.toList).2.2]) ∧ kTok.R TKT w' w.heap.size (fun _ => True) v (lexL s.data.toList).1 ∧ Below w.heap.size w w'

set_option maxHeartbeats 1000000 in
theorem lex_is (s : ByteArray) (w : World) (hs : s.size ≤ 140737488351232) : Calls Try.prog 8 #[.string s] w (LexPost s w) := by
  by_cases hlen : 2048 < s.size
  · go_enter Try.func8, Try.ntmps8
    go_wp2
    go_ret3
    have e : lexL s.data.toList = ([], 0, 5) := by unfold lexL; rw [if_pos (by simpa using hlen)]
    rw [LexPost, e]
    exact ⟨_, rfl, Kd.R_nil _ _ _ _ _, Below.refl _ _⟩
  · have hd : decide ((2048 : Int) < s.size) = false := by simp; omega
    have HX : Hid (lexL s.data.toList = lexGo s.size (skipL (rest s 0)) []) := by
      show lexL _ = _
      unfold lexL; rw [if_neg (by simpa using hlen)]; simp [rest]
    go_enter Try.func8, Try.ntmps8
    go_wp2_with fail
    have hL : LxAt (w.alloc (.cells #[.string s, .int .i64 0] LXT)) w.heap.size s 0 := heap_alloc_new w _
    have hB := (Below.refl w.heap.size w).alloc (Nat.le_refl _) (.cells #[.string s, .int .i64 0] LXT)
    have hlt : w.heap.size < (w.alloc (.cells #[.string s, .int .i64 0] LXT)).heap.size := by simp
    change Calls _ _ _ (w.alloc (.cells #[.string s, .int .i64 0] LXT)) _
    generalize w.alloc (.cells #[.string s, .int .i64 0] LXT) = W1 at hL hB hlt ⊢
    obtain ⟨g, hg⟩ : ∃ g, g = w.heap.size := ⟨_, rfl⟩
    rw [← hg] at hL hB hlt ⊢
    have HG := Lib.hid hg; clear hg
    refine (skip_is g s 0 W1 hL (by omega) hs).mono ?_
    rintro e W2 ⟨rfl, j0, _, hj0, hr0, hL0, hO0⟩
    have hB2 : Below g w W2 := below_only hB hO0 (Nat.le_refl _) (by omega)
    have hlt2 := hO0.size
    have HB2 := Lib.hid hB2; clear hB2
    have HL0 := Lib.hid hL0; clear hL0
    have HR0 := Lib.hid hr0; clear hr0
    clear hL hB hO0
    go_wp2
    go_loopg [6] s.size (fun k v wr => ∃ (j : Nat) (acc : List Tok), j ≤ s.size ∧ s.size - j ≤ k ∧ acc.length ≤ 400 ∧ g < wr.heap.size ∧ LxAt wr g s j ∧ kTok.R TKT wr g (fun k => k ≠ g) v acc ∧ Below g w wr ∧ Hid (lexL s.data.toList = lexGo s.size (rest s j) acc))
    case atStart => exact ⟨j0, [], hj0, by omega, by simp, by omega, HL0.out, Kd.R_nil _ _ _ _ _, HB2.out, by show lexL _ = _; rw [HX.out, HR0.out]⟩
    case round =>
      obtain ⟨j, acc, hj, hk, hacc, hgw, hl, hR, hB, HQ⟩ := hrel
      clear HB2 HL0 HR0 HX
      have c1 := hl.c1
      have H1 := Lib.hid hl; clear hl
      have H2 := Lib.hid hR; clear hR
      have H3 := Lib.hid hB; clear hB
      have hrl := rest_len s j
      by_cases hlj : j < s.size
      · have hd2 : decide ((j : Int) < s.size) = true := by simpa using hlj
        have hne : rest s j ≠ [] := by intro h; rw [h] at hrl; simp at hrl; omega
        have HRL : Hid (((s.size : Nat) : Int) - (rest s j).length = j) := by show _ = _; omega
        clear hrl
        go_wp2_with fail
        refine (token_is g s j wr H1.out hlj hs).mono ?_
        rintro e w1 ⟨hp, ho⟩
        have hB1 := below_only H3.out ho (Nat.le_refl _) (by omega)
        have hR1 : kTok.R TKT w1 g (fun k => k ≠ g) u6 acc := Kd.R_step H2.out (fun k hk1 hk2 => ho.block k hk2 hk1)
        have hsz := ho.size
        have H4 := Lib.hid hB1; clear hB1
        have H5 := Lib.hid hR1; clear hR1
        clear ho c1
        cases hT : tokenL (rest s j) with
        | none =>
          rw [hT] at hp
          obtain ⟨⟨k0, t0, n0, rfl⟩, _⟩ := hp
          have HQ2 : Hid (lexL s.data.toList = ([], (j : Int), 91)) := by
            show lexL _ = _
            rw [HQ.out, lexGo_none _ _ _ hne hT, HRL.out]
          clear hT
          go_wp2
          go_quiet (fail)
          go_wp2
          go_ret3
          rw [LexPost, HQ2.out]
          exact ⟨_, rfl, Kd.R_nil _ _ _ _ _, by rw [← HG.out]; exact below_drewN' (H4.out.alloc (by omega) _) _⟩
        | some x =>
          rw [hT] at hp
          obtain ⟨rfl, j1, hj1, hl1, hr1⟩ := hp
          obtain ⟨A, c, hv⟩ := Kd.R_slice H5.out
          subst hv
          have H6 := Lib.hid hl1; clear hl1
          have H7 := Lib.hid hr1; clear hr1
          by_cases hfull : acc.length = 400
          · have HQ2 : Hid (lexL s.data.toList = ([], (j : Int), 3)) := by
              show lexL _ = _
              rw [HQ.out, lexGo_full _ _ _ x hne hT hfull, HRL.out]
            clear hT
            have hf : ((acc.length : Int) == 400) = true := by rw [hfull]; rfl
            have HF := Lib.hid hfull; clear hfull
            go_wp2
            go_quiet (fail)
            go_wp2
            go_ret3
            rw [LexPost, HQ2.out]
            exact ⟨_, rfl, Kd.R_nil _ _ _ _ _, by rw [← HG.out]; exact below_drewN' (H4.out.alloc (by omega) _) _⟩
          · have HQ2 : Hid (lexL s.data.toList = lexGo s.size (skipL x.2) (acc ++ [⟨x.1.kind, ⟨x.1.text.toArray⟩, x.1.n, j⟩])) := by
              show lexL _ = _
              rw [HQ.out, lexGo_more _ _ _ x hne hT hfull, HRL.out]
            have hlt' := tokenL_lt _ _ hT
            have hlen' : x.2.length < (rest s j).length := hlt'
            clear hT hlt'
            have hf : ((acc.length : Int) == 400) = false := by simp; omega
            go_wp2_with (at_builtin; (refine Kd.R_append kTok (w0 := w) g rfl (.tmp 40) (.tmp 42) 23 31 _ 40 rfl Try.underlying23 infoTok rfl (by decide) (by omega) (.slice A acc.length c) acc ⟨x.1.kind, ⟨x.1.text.toArray⟩, x.1.n, j⟩ [.int .i64 x.1.kind, .string ⟨x.1.text.toArray⟩, .int .i64 x.1.n, .int .i64 j] (fun k => k ≠ g) (fun _ => False) rfl ?aX ?aP (fun _ hk => hk.elim) ?aF ?aO ?aB ?aS ?aL ?_))
            case aX => show Value.slice _ _ _ = _; simp
            case aP => exact kTok_mkM _ _ _ _
            case aF => intro k hk; simp at hk; omega
            case aO => exact Kd.R_alloc H5.out _
            case aB => exact H4.out.alloc (by omega) _
            case aS => simp; omega
            case aL => omega
            intro v1 w5 hR5 hB5 hG5 _
            have hgl : g < w1.heap.size := by omega
            have hL5 : LxAt w5 g s j1 := (hG5.block g (by simp; omega) (Kd.R_away H5.out (fun _ h => h))).trans ((Below.heap_alloc w1 _ g hgl).trans H6.out)
            have hw5 := hG5.size
            have hw6 : g < w5.heap.size := by simp at hw5; omega
            have hrl := rest_len s j
            clear hG5 hw5
            have HR5 := Lib.hid hR5; clear hR5
            have HB5 := Lib.hid hB5; clear hB5
            have HL5 := Lib.hid hL5; clear hL5
            have hlen'' : (rest s j).length = s.size - j := hrl
            have HLN := Lib.hid hlen''; clear hlen'' hrl
            go_wp2_with (go_at_call 14; refine (skip_is g s j1 _ HL5.out hj1 hs).mono ?_; rintro e w7 ⟨rfl, j2, hj12, hj2, hr2, hl2, ho2⟩)
            have hsk := skipL_le (rest s j1)
            rw [H7.out] at hr2 hsk
            have hrl2 := rest_len s j2
            have hrl3 := HLN.out
            rw [hr2] at hrl2
            have hsz7 := ho2.size
            go_roundg (s.size - j2)
            case measure => omega
            case rel => exact ⟨j2, _, hj2, Nat.le_refl _, by simp; omega, by omega, hl2, Kd.R_step HR5.out (fun k hk1 hk2 => ho2.block k hk2 hk1), below_only HB5.out ho2 (Nat.le_refl _) (by omega), by rw [hr2]; exact HQ2⟩
      · have hd2 : decide ((j : Int) < s.size) = false := by simpa using hlj
        have hr : rest s j = [] := rest_end s j hlj
        have HQ2 : Hid (lexL s.data.toList = (acc, (s.size : Int), 0)) := by
          show lexL _ = _
          rw [HQ.out, hr, lexGo_nil]
        clear hr hrl
        go_wp2
        go_ret3
        rw [LexPost, HQ2.out]
        exact ⟨_, rfl, by rw [← HG.out]; exact Kd.R_mono H2.out (fun _ _ => trivial), by rw [← HG.out]; exact H3.out⟩
end Go.Proofs.Ytamlgkikjajcpaa
