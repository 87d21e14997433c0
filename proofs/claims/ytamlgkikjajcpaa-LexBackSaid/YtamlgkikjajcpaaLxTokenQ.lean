/- lex: a token (a text). -/
import Derived.Test.YtamlgkikjajcpaaLxToken
namespace Go.Proofs.Ytamlgkikjajcpaa
open Go.RowKit

set_option maxHeartbeats 1000000 in
theorem token_quote (g : Nat) (s : ByteArray) (i : Nat) (w : World) (hl : LxAt w g s i) (hi : i < s.size) (hs : s.size ≤ 140737488351232) (h1 : isLetter (s[i]).toNat = false) (h2 : isDigit (s[i]).toNat = false) (H3 : Hid (s[i] = 39)) :
   Calls Try.prog 15 #[.pointer (some ⟨g, 0, none⟩)] w (TokenPost s i g w) := by
  have hlt := hl.lt
  have c0 : ∀ o, (w.alloc o).cell? ⟨g, 0, none⟩ = some (.string s) := fun o => (World.cell?_of_block (Below.heap_alloc w o g hlt)).trans hl.c0
  have c1 : ∀ o, (w.alloc o).cell? ⟨g, 1, none⟩ = some (.int .i64 i) := fun o => (World.cell?_of_block (Below.heap_alloc w o g hlt)).trans hl.c1
  have hb := UInt8.toNat_lt s[i]
  have H := Lib.hid hl; clear hl
  go_enter Try.func15, Try.ntmps15
  go_wp2
  go_quiet (fail)
  go_wp2_with fail
  have ht : TkAt ((w.alloc (.cells #[.int .i64 0, .string ⟨#[]⟩, .int .i64 0, .int .i64 i] TKT)).drewN nq) w.heap.size 0 ⟨#[]⟩ 0 i := by
    show (w.alloc _).heap[w.heap.size]? = _
    exact heap_alloc_new w _
  have hL : LxAt ((w.alloc (.cells #[.int .i64 0, .string ⟨#[]⟩, .int .i64 0, .int .i64 i] TKT)).drewN nq) g s i := (Below.heap_alloc w _ g hlt).trans H.out
  have hO : Only g w ((w.alloc (.cells #[.int .i64 0, .string ⟨#[]⟩, .int .i64 0, .int .i64 i] TKT)).drewN nq) := ((Only.refl g w).alloc _).drewN _
  change Calls _ _ _ ((w.alloc (.cells #[.int .i64 0, .string ⟨#[]⟩, .int .i64 0, .int .i64 i] TKT)).drewN nq) _
  generalize (w.alloc (.cells #[.int .i64 0, .string ⟨#[]⟩, .int .i64 0, .int .i64 i] TKT)).drewN nq = W1 at ht hL hO ⊢
  obtain ⟨B, hB⟩ : ∃ B, B = w.heap.size := ⟨_, rfl⟩
  rw [← hB] at hlt ht ⊢
  clear c0 c1 H
  have HB := Lib.hid hB; clear hB
  refine (letter_is _ W1 (by omega) (by omega)).mono ?_
  rintro e w' ⟨rfl, rfl⟩
  rw [h1]
  have hdg := digit_is (s[i].toNat : Nat) w' (by omega) (by omega)
  rw [h2] at hdg
  have HDG := Lib.hid hdg; clear hdg
  obtain ⟨x0, x1, x2, x3⟩ := ht.cells
  obtain ⟨y0, y1, y2, y3⟩ := ht.free
  have HT := Lib.hid ht; clear ht
  have HL := Lib.hid hL; clear hL
  have HO := Lib.hid hO; clear hO
  have h3' : ((s[i].toNat : Int) == 39) = true := by rw [H3.out]; rfl
  go_wp2_with (go_at_call 23; refine HDG.out.mono ?_; rintro e w' ⟨rfl, rfl⟩)
  have ht : TkAt (w'.setCell ⟨B, 0, none⟩ (.int .i64 3)) B 3 ⟨#[]⟩ 0 i := HT.out.set0
  have hL : LxAt (w'.setCell ⟨B, 0, none⟩ (.int .i64 3)) g s i := HL.out.far (by omega) _ _
  have hO : Only g w (w'.setCell ⟨B, 0, none⟩ (.int .i64 3)) := HO.out.setNew (by rw [HB.out]; exact Nat.le_refl _) _ _
  generalize w'.setCell ⟨B, 0, none⟩ (.int .i64 3) = w1 at ht hL hO ⊢
  clear x0 x1 x2 x3 y0 y1 y2 y3 HT HL HO
  have hT := tokenL_quote (rest s (i+1))
  have hrc := rest_cons s i hi
  rw [← H3.out, ← hrc] at hT
  refine (quoted_is g s i w1 hL hi hs).mono ?_
  rintro e w3 ⟨hq, h4⟩
  have ht3 : TkAt w3 B 3 ⟨#[]⟩ 0 i := ht.only h4 (by omega)
  obtain ⟨d0, d1, d2, d3⟩ := ht3.cells
  obtain ⟨e0, e1, e2, e3⟩ := ht3.free
  have HT3 := Lib.hid ht3; clear ht3
  have HO3 := Lib.hid (hO.trans h4); clear h4
  clear ht hL hO hrc
  cases hQ : quotedL (rest s (i+1)) with
  | none =>
    rw [hQ] at hq hT
    obtain ⟨rfl, j, hj, hl3⟩ := hq
    have HT := Lib.hid hT; clear hT
    have HL3 := Lib.hid hl3; clear hl3
    clear hQ
    go_wp2
    refine bodyPost_ret (results_tk (B := B) (k := 3) (t := ⟨#[]⟩) (n := 0) (a := i) (b := false) ?_ rfl rfl) rfl ?_
    · repeat (first | (with_reducible exact HT3.out) | (with_reducible apply TkAt.set0) | (with_reducible apply TkAt.set1) | (with_reducible apply TkAt.set2) | (with_reducible apply TkAt.set3))
    · refine ⟨?_, by repeat (first | (with_reducible exact HO3.out) | (with_reducible refine Only.setNew ?_ (by rw [HB.out]; exact Nat.le_refl _) _ _))⟩
      rw [HT.out]
      exact ⟨⟨_, _, _, rfl⟩, j, hj, by repeat (first | (with_reducible exact HL3.out) | (with_reducible refine LxAt.far ?_ (by omega) _ _))⟩
  | some x =>
    rw [hQ] at hq hT
    obtain ⟨rfl, j, hj, hr, hl3⟩ := hq
    have HT := Lib.hid hT; clear hT
    have HL3 := Lib.hid hl3; clear hl3
    have HR := Lib.hid hr; clear hr
    clear hQ
    go_wp2
    refine bodyPost_ret (results_tk (B := B) (k := 3) (t := ⟨x.1.toArray⟩) (n := 0) (a := i) (b := decide (x.1.length ≤ 64)) ?_ rfl rfl) rfl ?_
    · repeat (first | (with_reducible exact HT3.out) | (with_reducible apply TkAt.set0) | (with_reducible apply TkAt.set1) | (with_reducible apply TkAt.set2) | (with_reducible apply TkAt.set3))
    · refine ⟨?_, by repeat (first | (with_reducible exact HO3.out) | (with_reducible refine Only.setNew ?_ (by rw [HB.out]; exact Nat.le_refl _) _ _))⟩
      rw [HT.out]
      have hLf : ∀ o1 o2 o3 o4 o5 v1 v2 v3 v4 v5, LxAt (((((w3.setCell ⟨B, o1, none⟩ v1).setCell ⟨B, o2, none⟩ v2).setCell ⟨B, o3, none⟩ v3).setCell ⟨B, o4, none⟩ v4).setCell ⟨B, o5, none⟩ v5) g s j := by
        intros; repeat (first | (with_reducible exact HL3.out) | (with_reducible refine LxAt.far ?_ (by omega) _ _))
      by_cases h64 : x.1.length ≤ 64
      · simp only [if_pos h64]
        exact ⟨by rw [decide_eq_true h64], j, hj, hLf _ _ _ _ _ _ _ _ _ _, HR.out⟩
      · simp only [if_neg h64]
        exact ⟨⟨3, ⟨x.1.toArray⟩, 0, by rw [decide_eq_false h64]⟩, j, hj, hLf _ _ _ _ _ _ _ _ _ _⟩
end Go.Proofs.Ytamlgkikjajcpaa
