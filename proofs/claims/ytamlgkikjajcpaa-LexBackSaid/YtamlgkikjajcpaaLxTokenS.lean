/- lex: a token (a sign). -/
import Derived.Test.YtamlgkikjajcpaaLxToken
import Derived.StillTailTactics
namespace Go.Proofs.Ytamlgkikjajcpaa
open Go.RowKit

set_option maxHeartbeats 1000000 in
theorem token_sign (g : Nat) (s : ByteArray) (i : Nat) (w : World) (hl : LxAt w g s i) (hi : i < s.size) (hs : s.size ≤ 140737488351232) (h1 : isLetter (s[i]).toNat = false) (h2 : isDigit (s[i]).toNat = false) (h3 : s[i] ≠ 39) :
   Calls Try.prog 15 #[.pointer (some ⟨g, 0, none⟩)] w (TokenPost s i g w) := by
  have hlt := hl.lt
  have c0 : ∀ o, (w.alloc o).cell? ⟨g, 0, none⟩ = some (.string s) := fun o => (World.cell?_of_block (Below.heap_alloc w o g hlt)).trans hl.c0
  have c1 : ∀ o, (w.alloc o).cell? ⟨g, 1, none⟩ = some (.int .i64 i) := fun o => (World.cell?_of_block (Below.heap_alloc w o g hlt)).trans hl.c1
  have hb := UInt8.toNat_lt s[i]
  have H := Lib.hid hl; clear hl
  go_enter Try.func15, Try.ntmps15
  go_wp2
  go_quiet (fail)
  go_wp2_with fail
  have ht : TkAt ((w.alloc (.cells #[.int .i64 0, .string ⟨#[]⟩, .int .i64 0, .int .i64 i] TKT)).drewN nq) w.heap.size 0 ⟨#[]⟩ 0 i := by
    show (w.alloc _).heap[w.heap.size]? = _
    exact heap_alloc_new w _
  have hL : LxAt ((w.alloc (.cells #[.int .i64 0, .string ⟨#[]⟩, .int .i64 0, .int .i64 i] TKT)).drewN nq) g s i := (Below.heap_alloc w _ g hlt).trans H.out
  have hO : Only g w ((w.alloc (.cells #[.int .i64 0, .string ⟨#[]⟩, .int .i64 0, .int .i64 i] TKT)).drewN nq) := ((Only.refl g w).alloc _).drewN _
  change Calls _ _ _ ((w.alloc (.cells #[.int .i64 0, .string ⟨#[]⟩, .int .i64 0, .int .i64 i] TKT)).drewN nq) _
  generalize (w.alloc (.cells #[.int .i64 0, .string ⟨#[]⟩, .int .i64 0, .int .i64 i] TKT)).drewN nq = W1 at ht hL hO ⊢
  obtain ⟨B, hB⟩ : ∃ B, B = w.heap.size := ⟨_, rfl⟩
  rw [← hB] at hlt ht ⊢
  clear c0 c1 H
  have HB := Lib.hid hB; clear hB
  refine (letter_is _ W1 (by omega) (by omega)).mono ?_
  rintro e w' ⟨rfl, rfl⟩
  rw [h1]
  have hdg := digit_is (s[i].toNat : Nat) w' (by omega) (by omega)
  rw [h2] at hdg
  have HDG := Lib.hid hdg; clear hdg
  obtain ⟨x0, x1, x2, x3⟩ := ht.cells
  obtain ⟨y0, y1, y2, y3⟩ := ht.free
  have HT := Lib.hid ht; clear ht
  have HL := Lib.hid hL; clear hL
  have HO := Lib.hid hO; clear hO
  have h3' : ((s[i].toNat : Int) == 39) = false := by
    have : ¬ (s[i].toNat = 39) := fun h => h3 (UInt8.toNat_inj.1 (by simpa using h))
    simp; omega
  have H3 := Lib.hid h3; clear h3
  obtain ⟨R, hR⟩ : ∃ R, R = signL (rest s i) := ⟨_, rfl⟩
  have hsg := sign_is g s i w' HL.out hi hs
  rw [← hR] at hsg
  have HR := Lib.hid hR; clear hR
  have HSG := Lib.hid hsg; clear hsg
  go_wp2_with (go_at_call 23; refine HDG.out.mono ?_; rintro e w' ⟨rfl, rfl⟩)
  refine HSG.out.mono ?_
  rintro e w3 ⟨rfl, h4, h5⟩
  have ht3 : TkAt w3 B 0 ⟨#[]⟩ 0 i := HT.out.only h5 (by omega)
  have hO3 := HO.out.trans h5
  clear x0 x1 x2 x3 y0 y1 y2 y3 HT HL HO
  obtain ⟨d0, d1, d2, d3⟩ := ht3.cells
  obtain ⟨e0, e1, e2, e3⟩ := ht3.free
  have a1 := h4.c1
  have f1 := h4.f1
  have HT3 := Lib.hid ht3; clear ht3
  have HL3 := Lib.hid h4; clear h4
  have HO3 := Lib.hid hO3; clear hO3
  clear h5
  have hRl : R.length ≤ s.size - i := by
    rw [HR.out, ← rest_len]; exact signL_le _
  go_wp2
  have ht4 : TkAt ((w3.setCell ⟨B, 0, none⟩ (.int .i64 4)).setCell ⟨B, 1, none⟩ (.string ⟨R.toArray⟩)) B 4 ⟨R.toArray⟩ 0 i := HT3.out.set0.set1
  have hL4 : LxAt ((w3.setCell ⟨B, 0, none⟩ (.int .i64 4)).setCell ⟨B, 1, none⟩ (.string ⟨R.toArray⟩)) g s i := (HL3.out.far (by omega) _ _).far (by omega) _ _
  have hO4 : Only g w ((w3.setCell ⟨B, 0, none⟩ (.int .i64 4)).setCell ⟨B, 1, none⟩ (.string ⟨R.toArray⟩)) := (HO3.out.setNew (by rw [HB.out]; exact Nat.le_refl _) _ _).setNew (by rw [HB.out]; exact Nat.le_refl _) _ _
  generalize (w3.setCell ⟨B, 0, none⟩ (.int .i64 4)).setCell ⟨B, 1, none⟩ (.string ⟨R.toArray⟩) = w4 at ht4 hL4 hO4 ⊢
  clear d0 d1 d2 d3 e0 e1 e2 e3 a1 f1 HT3 HL3 HO3
  obtain ⟨d0, d1, d2, d3⟩ := ht4.cells
  obtain ⟨e0, e1, e2, e3⟩ := ht4.free
  have a1 := hL4.c1
  have f1 := hL4.f1
  have HT4 := Lib.hid ht4; clear ht4
  have HL4 := Lib.hid hL4; clear hL4
  have HO4 := Lib.hid hO4; clear hO4
  have hij : 0 ≤ (i : Int) + R.length := by omega
  have hij2 : (i : Int) + R.length ≤ 140737488351232 := by omega
  go_still_tail 10, (by kernel_rfl)
  change wpList _ _ _ _ _ w4.drew
  go_wp2
  have ht5 : TkAt (w4.setCell ⟨g, 1, none⟩ (.int .i64 ((i : Int) + R.length))) B 4 ⟨R.toArray⟩ 0 i := HT4.out.only ((Only.refl g w4).setCell _ _) (by omega)
  have hL5 : LxAt (w4.setCell ⟨g, 1, none⟩ (.int .i64 ((i : Int) + R.length))) g s (i + R.length) := LxAt.set HL4.out (i + R.length)
  have hO5 : Only g w (w4.setCell ⟨g, 1, none⟩ (.int .i64 ((i : Int) + R.length))) := HO4.out.setCell _ _
  generalize w4.setCell ⟨g, 1, none⟩ (.int .i64 ((i : Int) + R.length)) = w5 at ht5 hL5 hO5 ⊢
  refine bodyPost_ret (results_tk (B := B) (k := 4) (t := ⟨R.toArray⟩) (n := 0) (a := i) (b := !R.isEmpty) ?_ rfl rfl) rfl ?_
  · refine TkAt.drewN1 ?_
    repeat (first | (with_reducible exact ht5) | (with_reducible apply TkAt.set0) | (with_reducible apply TkAt.set1) | (with_reducible apply TkAt.set2) | (with_reducible apply TkAt.set3))
  · refine ⟨?_, Only.drew1 (by repeat (first | (with_reducible exact hO5) | (with_reducible refine Only.setNew ?_ (by rw [HB.out]; exact Nat.le_refl _) _ _)))⟩
    have hLf : ∀ o1 o2 o3 o4 v1 v2 v3 v4, LxAt ((((w5.setCell ⟨B, o1, none⟩ v1).setCell ⟨B, o2, none⟩ v2).setCell ⟨B, o3, none⟩ v3).setCell ⟨B, o4, none⟩ v4).drew g s (i + R.length) := by
      intros; refine LxAt.drewN1 ?_; repeat (first | (with_reducible exact hL5) | (with_reducible refine LxAt.far ?_ (by omega) _ _))
    have hrc := rest_cons s i hi
    have hT := tokenL_sign s[i] (rest s (i+1)) h1 h2 H3.out
    rw [← hrc, ← HR.out] at hT
    rw [hT]
    have hrl := rest_len s i
    by_cases hem : R = []
    · rw [if_pos hem]
      refine ⟨⟨4, ⟨R.toArray⟩, 0, ?_⟩, i + R.length, by omega, hLf _ _ _ _ _ _ _ _⟩
      rw [hem]; rfl
    · rw [if_neg hem]
      refine ⟨?_, i + R.length, by omega, hLf _ _ _ _ _ _ _ _, by simp [rest, List.drop_drop]⟩
      have : R.isEmpty = false := by simp [hem]
      rw [this]; rfl
end Go.Proofs.Ytamlgkikjajcpaa
