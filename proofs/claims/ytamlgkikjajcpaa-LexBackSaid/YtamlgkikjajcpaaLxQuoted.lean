/- lex: a text between quotes. -/
import Derived.Test.YtamlgkikjajcpaaLxRun
import Derived.Test.YtamlgkikjajcpaaBld
namespace Go.Proofs.Ytamlgkikjajcpaa
open Go.RowKit

def QuotedPost (s : ByteArray) (i g : Nat) (w : World) (e : Ending) (w' : World) : Prop :=
   (match quotedL (rest s (i+1)) with
     | none => e = .returned (.tuple #[.string ⟨#[]⟩, .bool false]) ∧ (∃ j, j ≤ s.size ∧ LxAt w' g s j)
     | some x => e = .returned (.tuple #[.string ⟨x.1.toArray⟩, .bool (decide (x.1.length ≤ 64))]) ∧ (∃ j, j ≤ s.size ∧ rest s j = x.2 ∧ LxAt w' g s j)) ∧ Only g w w'

set_option maxHeartbeats 1000000 in
theorem quoted_is (g : Nat) (s : ByteArray) (i : Nat) (w : World) (hl : LxAt w g s i) (hi : i < s.size) (hs : s.size ≤ 140737488351232) :
   Calls Try.prog 25 #[.pointer (some ⟨g, 0, none⟩)] w (QuotedPost s i g w) := by
  have hlt := hl.lt
  have c1 : ∀ o, (w.alloc o).cell? ⟨g, 1, none⟩ = some (.int .i64 i) := fun o => (World.cell?_of_block (Below.heap_alloc w o g hlt)).trans hl.c1
  have f1 : ∀ o, (w.alloc o).frozen? ⟨g, 1, none⟩ = false := fun o => (World.frozen?_of_block (Below.heap_alloc w o g hlt)).trans hl.f1
  have H := Lib.hid hl; clear hl
  go_enter Try.func25, Try.ntmps25
  go_wp2
  have hb0 := Bld.fresh (w.setCell ⟨g, 1, none⟩ (.int .i64 ((i : Int) + 1)))
  have hsz : (w.setCell ⟨g, 1, none⟩ (.int .i64 ((i : Int) + 1))).heap.size = w.heap.size := by simp [World.setCell]
  rw [hsz] at hb0
  have hO : Only g w ((w.setCell ⟨g, 1, none⟩ (.int .i64 ((i : Int) + 1))).alloc (.cells #[.pointer none, .slice none 0 0] BLT)) := ((Only.refl g w).setCell _ _).alloc _
  have hL : LxAt ((w.setCell ⟨g, 1, none⟩ (.int .i64 ((i : Int) + 1))).alloc (.cells #[.pointer none, .slice none 0 0] BLT)) g s (i+1) :=
    (Below.heap_alloc _ _ _ (by rw [hsz]; exact hlt)).trans (LxAt.set H.out (i+1))
  have hW : w.heap.size < ((w.setCell ⟨g, 1, none⟩ (.int .i64 ((i : Int) + 1))).alloc (.cells #[.pointer none, .slice none 0 0] BLT)).heap.size := by simp [World.setCell]
  clear c1 f1 H hsz
  change Code.wp _ _ _ _ ((w.setCell ⟨g, 1, none⟩ (.int .i64 ((i : Int) + 1))).alloc (.cells #[.pointer none, .slice none 0 0] BLT))
  generalize (w.setCell ⟨g, 1, none⟩ (.int .i64 ((i : Int) + 1))).alloc (.cells #[.pointer none, .slice none 0 0] BLT) = W1 at hb0 hO hL hW ⊢
  obtain ⟨B, hB⟩ : ∃ B, B = w.heap.size := ⟨_, rfl⟩
  rw [← hB] at hb0 hlt hW ⊢
  have HB := Lib.hid hB; clear hB
  have HB0 := Lib.hid hb0; clear hb0
  have HO := Lib.hid hO; clear hO
  have HL := Lib.hid hL; clear hL
  go_loopg [5] s.size (fun k _ wr => ∃ (j : Nat) (acc : List UInt8), j ≤ s.size ∧ s.size - j ≤ k ∧ acc.length + (s.size - j) ≤ s.size ∧ B < wr.heap.size ∧ Hid (quotedL (rest s (i+1)) = (quotedL (rest s j)).map (fun x => (acc ++ x.1, x.2))) ∧ LxAt wr g s j ∧ Bld wr B B acc ∧ Only g w wr)
  case atStart => exact ⟨i+1, [], by omega, by omega, by simp, hW, by simp [Hid], HL.out, HB0.out, HO.out⟩
  case round =>
    obtain ⟨j, acc, hj, hk, hacc, hBw, HQ, hl, hb, ho⟩ := hrel
    have hrun := runQuote g s j wr hl hj hs
    have hge := runEnd_ge notQuote s j
    have hle := runEnd_le notQuote s j hj
    have hrr := rest_runEnd notQuote s j
    have hln : ((rest s j).takeWhile (by_ notQuote)).length = runEnd notQuote s j - j := by show runLen notQuote _ = _; unfold runEnd; omega
    change Calls _ _ _ _ (fun e w' => e = .returned (.string ⟨((rest s j).takeWhile (by_ notQuote)).toArray⟩) ∧ LxAt w' g s (runEnd notQuote s j) ∧ Only g wr w') at hrun
    change rest s (runEnd notQuote s j) = (rest s j).dropWhile (by_ notQuote) at hrr
    obtain ⟨l, hl'⟩ : ∃ l, l = (rest s j).takeWhile (by_ notQuote) := ⟨_, rfl⟩
    obtain ⟨j1, hj1⟩ : ∃ j1, j1 = runEnd notQuote s j := ⟨_, rfl⟩
    rw [← hl'] at hrun hln
    rw [← hj1] at hrun hge hle hrr hln
    have H1 := Lib.hid hl'; clear hl'
    have H2 := Lib.hid hj1; clear hj1
    have H3 := Lib.hid hrr; clear hrr
    have HRUN := Lib.hid hrun; clear hrun
    have H4 := Lib.hid hl; clear hl
    have H5 := Lib.hid hb; clear hb
    have H6 := Lib.hid ho; clear ho
    have H7 := Lib.hid hln; clear hln
    go_wp2_with (go_at_call 17; refine HRUN.out.mono ?_; rintro e w1 ⟨rfl, h1, h2⟩)
    have h5 := H5.out.only h2 hlt
    have hw1 := h2.size
    have hc : acc.length + (⟨l.toArray⟩ : ByteArray).size ≤ 140737488355328 := by
      have := H7.out
      have e : (⟨l.toArray⟩ : ByteArray).size = l.length := by simp [ByteArray.size]
      omega
    refine (bld_str B B acc ⟨l.toArray⟩ _ h5 hc (by omega)).mono ?_
    rintro e w2 ⟨rfl, h3, h4⟩
    have hl2 : LxAt w2 g s j1 := (h4.block g hlt).trans h1
    have ho2 : Only g w w2 := (H6.out.trans h2).then_below (h4.mono (by rw [HB.out]; exact Nat.le_refl _))
    have hw2 : B < w2.heap.size := by have := h4.size; omega
    have h3' : Bld w2 B B (acc ++ l) := h3
    clear h3 h5 hc
    have hln := H7.out
    have c0 := hl2.c0
    have c1 := hl2.c1
    have f1 := hl2.f1
    have H8 := Lib.hid hl2; clear hl2
    have H9 := Lib.hid ho2; clear ho2
    have H10 := Lib.hid h3'; clear h3'
    clear h1 h2 h4 HRUN H4 H5 H6 hln
    have hle' : (j1 : Int) ≤ s.size := by omega
    have hrl := rest_len s j1
    have H3' := H3.out
    obtain ⟨R, hR⟩ : ∃ R, R = rest s j1 := ⟨_, rfl⟩
    have HE : Hid (s.extract j1 s.size = ⟨R.toArray⟩) := by rw [hR]; exact extract_rest s j1
    rw [← hR] at hrl H3'
    have HR := Lib.hid hR; clear hR
    have H12 := Lib.hid H3'; clear H3'
    clear H3
    go_wp2
    go_quiet (fail)
    rw [HE.out]
    have one : ∀ r, (∀ t, r ≠ 39 :: t) → ∀ c, R = c :: r → Hid (quotedL (rest s (i+1)) = some (acc ++ l, r)) := by
      intro r hr c e
      have e2 := H12.out
      rw [e] at e2
      show quotedL (rest s (i+1)) = _
      rw [HQ.out, quotedL_one _ _ _ e2.symm hr, H1.out]; rfl
    have W3L : ∀ nq, LxAt ((w2.drewN nq).setCell ⟨g, 1, none⟩ (.int .i64 ((j1 : Int) + 1))) g s (j1+1) := fun nq => LxAt.set (H8.out.drewN nq) (j1+1)
    have W3O : ∀ nq, Only g w2 ((w2.drewN nq).setCell ⟨g, 1, none⟩ (.int .i64 ((j1 : Int) + 1))) := fun nq => ((Only.refl g w2).drewN nq).setCell _ _
    have W3s : ∀ nq, ((w2.drewN nq).setCell ⟨g, 1, none⟩ (.int .i64 ((j1 : Int) + 1))).heap.size = w2.heap.size := fun nq => by simp [World.setCell]
    have HONE := Lib.hid one; clear one
    have HL3 := Lib.hid W3L; clear W3L
    have HO3 := Lib.hid W3O; clear W3O
    have HS3 := Lib.hid W3s; clear W3s
    rcases R with _ | ⟨c, _ | ⟨d, t⟩⟩
    · clear hrl
      go_wp2
      go_ret2
      refine ⟨?_, (H9.out.drewN _)⟩
      rw [HQ.out, quotedL_nil _ H12.out.symm]
      exact ⟨rfl, j1, hle, H8.out⟩
    · have hj2 : j1 + 1 = s.size := by simp at hrl; omega
      have hj3 : j1 < s.size := by omega
      have H13 := Lib.hid hj2; clear hj2
      clear hrl
      have HF := HONE.out [] (by simp) c rfl
      have HR1 : Hid (rest s (j1+1) = []) := by
        have := rest_cons s j1 hj3
        rw [← HR.out] at this
        injection this with _ e
        exact e.symm
      go_wp2_with fail
      refine (bld_string B B (acc ++ l) _ (H10.out.only (HO3.out _) hlt) (by rw [HS3.out]; omega)).mono ?_
      rintro e w3 ⟨rfl, h1, h2⟩
      go_wp2_with (go_at_call 32; refine (bld_len B B (acc ++ l) _ h1).mono ?_; rintro e w4 ⟨rfl, rfl⟩)
      go_ret2
      refine ⟨?_, (H9.out.trans (HO3.out _)).then_below (h2.mono (by rw [HB.out]; exact Nat.le_refl _))⟩
      rw [HF.out]
      refine ⟨by simp; omega, j1+1, by omega, HR1.out, (h2.block g hlt).trans (HL3.out _)⟩
    · have hj2 : j1 + 1 < s.size := by simp at hrl; omega
      clear hrl
      have HR1 : Hid (rest s (j1+1) = d :: t) := by
        have := rest_cons s j1 (by omega)
        rw [← HR.out] at this
        injection this with _ e
        exact e.symm
      have HR2 : Hid (rest s (j1+2) = t) := by
        have := rest_cons s (j1+1) hj2
        rw [HR1.out] at this
        injection this with _ e
        exact e.symm
      have hix : (⟨(c :: d :: t).toArray⟩ : ByteArray)[1]'(by simp [ByteArray.size]) = d := rfl
      cases hd : ((d.toNat : Int) != 39)
      · have hd' : d = 39 := by
          have : (d.toNat : Int) = 39 := by simpa using hd
          exact UInt8.toNat_inj.1 (by simpa using (show d.toNat = 39 by omega))
        subst hd'
        have HF : Hid (quotedL (rest s (i+1)) = (quotedL t).map (fun x => ((acc ++ l ++ [39]) ++ x.1, x.2))) := by
          show quotedL (rest s (i+1)) = _
          rw [HQ.out, quotedL_two _ _ _ H12.out.symm, H1.out, Option.map_map]
          congr 1; funext x; simp
        clear hd
        go_wp2_with fail
        have hln := H7.out
        have hb4 : Bld (((w2.drewN nq).setCell ⟨g, 1, none⟩ (.int .i64 ((j1 : Int) + 1))).setCell ⟨g, 1, none⟩ (.int .i64 ((j1 : Int) + 1 + 1))) B B (acc ++ l) := H10.out.only ((HO3.out nq).setCell _ _) hlt
        have hl4 : LxAt (((w2.drewN nq).setCell ⟨g, 1, none⟩ (.int .i64 ((j1 : Int) + 1))).setCell ⟨g, 1, none⟩ (.int .i64 ((j1 : Int) + 1 + 1))) g s (j1+2) := LxAt.set (HL3.out nq) (j1+2)
        have ho4 : Only g w (((w2.drewN nq).setCell ⟨g, 1, none⟩ (.int .i64 ((j1 : Int) + 1))).setCell ⟨g, 1, none⟩ (.int .i64 ((j1 : Int) + 1 + 1))) := H9.out.trans ((HO3.out nq).setCell _ _)
        have hs4 : (((w2.drewN nq).setCell ⟨g, 1, none⟩ (.int .i64 ((j1 : Int) + 1))).setCell ⟨g, 1, none⟩ (.int .i64 ((j1 : Int) + 1 + 1))).heap.size = w2.heap.size := by simp [World.setCell]
        generalize ((w2.drewN nq).setCell ⟨g, 1, none⟩ (.int .i64 ((j1 : Int) + 1))).setCell ⟨g, 1, none⟩ (.int .i64 ((j1 : Int) + 1 + 1)) = w4 at hb4 hl4 ho4 hs4 ⊢
        refine (bld_byte B B (acc ++ l) 39 _ (by rfl) _ hb4 (by simp; omega) (by omega)).mono ?_
        rintro e w5 ⟨rfl, h1, h2⟩
        go_wp2
        have h2s := h2.size
        go_roundg (s.size - (j1+2))
        case measure => omega
        case rel => exact ⟨j1+2, acc ++ l ++ [39], by omega, by omega, by simp; omega, by omega, by rw [HR2.out]; exact HF, (h2.block g hlt).trans hl4, h1, ho4.then_below (h2.mono (by rw [HB.out]; exact Nat.le_refl _))⟩
      · have hd' : d ≠ 39 := by rintro rfl; simp at hd
        have HF := HONE.out (d :: t) (by simp [hd']) c rfl
        clear hd'
        go_wp2_with fail
        refine (bld_string B B (acc ++ l) _ (H10.out.only (HO3.out _) hlt) (by rw [HS3.out]; omega)).mono ?_
        rintro e w3 ⟨rfl, h1, h2⟩
        go_wp2_with (go_at_call 32; refine (bld_len B B (acc ++ l) _ h1).mono ?_; rintro e w4 ⟨rfl, rfl⟩)
        go_ret2
        refine ⟨?_, (H9.out.trans (HO3.out _)).then_below (h2.mono (by rw [HB.out]; exact Nat.le_refl _))⟩
        rw [HF.out]
        refine ⟨by simp; omega, j1+1, by omega, HR1.out, (h2.block g hlt).trans (HL3.out _)⟩
end Go.Proofs.Ytamlgkikjajcpaa
