/- lex: a token. -/
import Derived.Test.YtamlgkikjajcpaaLxLower
import Derived.Test.YtamlgkikjajcpaaLxNumber
import Derived.Test.YtamlgkikjajcpaaLxQuoted
import Derived.Test.YtamlgkikjajcpaaLxSign
namespace Go.Proofs.Ytamlgkikjajcpaa
open Go.RowKit

abbrev TKT : Nat := 31
def TkAt (w : World) (B : Nat) (k : Int) (t : ByteArray) (n a : Int) : Prop := w.heap[B]? = some (.cells #[.int .i64 k, .string t, .int .i64 n, .int .i64 a] TKT (0,0))
theorem TkAt.cells {w : World} {B : Nat} {k : Int} {t : ByteArray} {n a : Int} (h : TkAt w B k t n a) : w.cell? ⟨B, 0, none⟩ = some (.int .i64 k) ∧ w.cell? ⟨B, 1, none⟩ = some (.string t) ∧ w.cell? ⟨B, 2, none⟩ = some (.int .i64 n) ∧ w.cell? ⟨B, 3, none⟩ = some (.int .i64 a) := by
  unfold TkAt at h; simp [World.cell?, h]
theorem TkAt.free {w : World} {B : Nat} {k : Int} {t : ByteArray} {n a : Int} (h : TkAt w B k t n a) : w.frozen? ⟨B, 0, none⟩ = false ∧ w.frozen? ⟨B, 1, none⟩ = false ∧ w.frozen? ⟨B, 2, none⟩ = false ∧ w.frozen? ⟨B, 3, none⟩ = false := by
  unfold TkAt at h; simp [World.frozen?, h]
theorem TkAt.only {w w' : World} {B g : Nat} {k : Int} {t : ByteArray} {n a : Int} (h : TkAt w B k t n a) (ho : Only g w w') (hg : B ≠ g) : TkAt w' B k t n a :=
  (ho.block B (Array.getElem?_eq_some_iff.1 h).1 hg).trans h
theorem TkAt.below {w w' : World} {B : Nat} {k : Int} {t : ByteArray} {n a : Int} (h : TkAt w B k t n a) (ho : Below w.heap.size w w') : TkAt w' B k t n a :=
  (ho.block B (Array.getElem?_eq_some_iff.1 h).1).trans h
theorem TkAt.drewN1 {w : World} {B : Nat} {k : Int} {t : ByteArray} {n a : Int} (h : TkAt w B k t n a) : TkAt w.drew B k t n a := h
theorem LxAt.drewN1 {w : World} {g : Nat} {s : ByteArray} {i : Nat} (h : LxAt w g s i) : LxAt w.drew g s i := h
theorem TkAt.set0 {w : World} {B : Nat} {k k' : Int} {t : ByteArray} {n a : Int} (h : TkAt w B k' t n a) : TkAt (w.setCell ⟨B, 0, none⟩ (.int .i64 k)) B k t n a := by
  unfold TkAt at *; simp [World.setCell, Array.getElem?_modify, h]
theorem TkAt.set1 {w : World} {B : Nat} {k : Int} {t t' : ByteArray} {n a : Int} (h : TkAt w B k t' n a) : TkAt (w.setCell ⟨B, 1, none⟩ (.string t)) B k t n a := by
  unfold TkAt at *; simp [World.setCell, Array.getElem?_modify, h]
theorem TkAt.set2 {w : World} {B : Nat} {k : Int} {t : ByteArray} {n n' a : Int} (h : TkAt w B k t n' a) : TkAt (w.setCell ⟨B, 2, none⟩ (.int .i64 n)) B k t n a := by
  unfold TkAt at *; simp [World.setCell, Array.getElem?_modify, h]
theorem TkAt.set3 {w : World} {B : Nat} {k : Int} {t : ByteArray} {n a a' : Int} (h : TkAt w B k t n a') : TkAt (w.setCell ⟨B, 3, none⟩ (.int .i64 a)) B k t n a := by
  unfold TkAt at *; simp [World.setCell, Array.getElem?_modify, h]
theorem results_tk {tmps : Array Value} {W : World} {B : Nat} {k : Int} {t : ByteArray} {n a : Int} {b : Bool} (h : TkAt W B k t n a) (hp : tmps.getD 2 undef = .pointer (some ⟨B, 0, none⟩)) (hb : tmps.getD 3 undef = .bool b) :
    (results Try.f15 tmps).run Try.prog W = .ok (.tuple #[.agg #[.int .i64 k, .string t, .int .i64 n, .int .i64 a], .bool b]) W := by
  obtain ⟨d0, d1, d2, d3⟩ := h.cells
  simp only [Array.getD_eq_getD_getElem?] at hp hb
  simp [results, Try.results15, go_sem, d0, d1, d2, d3, hp, hb]
theorem LxAt.far {w : World} {g : Nat} {s : ByteArray} {i : Nat} (h : LxAt w g s i) {B : Nat} (hB : g ≠ B) (o : Nat) (u : Value) : LxAt (w.setCell ⟨B, o, none⟩ u) g s i :=
  (Below.heap_setCell w ⟨B, o, none⟩ u g hB).trans h
theorem LxAt.below {w w' : World} {g : Nat} {s : ByteArray} {i : Nat} (h : LxAt w g s i) (ho : Below w.heap.size w w') : LxAt w' g s i := (ho.block g h.lt).trans h
def TokenPost (s : ByteArray) (i g : Nat) (w : World) (e : Ending) (w' : World) : Prop :=
  (match tokenL (rest s i) with
   | none => (∃ k t n, e = .returned (.tuple #[.agg #[.int .i64 k, .string t, .int .i64 n, .int .i64 i], .bool false])) ∧ ∃ j, j ≤ s.size ∧ LxAt w' g s j
   | some x => e = .returned (.tuple #[.agg #[.int .i64 x.1.kind, .string ⟨x.1.text.toArray⟩, .int .i64 x.1.n, .int .i64 i], .bool true]) ∧ ∃ j, j ≤ s.size ∧ LxAt w' g s j ∧ rest s j = x.2) ∧ Only g w w'

set_option maxHeartbeats 1000000 in
theorem token_letter (g : Nat) (s : ByteArray) (i : Nat) (w : World) (hl : LxAt w g s i) (hi : i < s.size) (hs : s.size ≤ 140737488351232) (h1 : isLetter (s[i]).toNat = true) :
   Calls Try.prog 15 #[.pointer (some ⟨g, 0, none⟩)] w (TokenPost s i g w) := by
  have hlt := hl.lt
  have c0 : ∀ o, (w.alloc o).cell? ⟨g, 0, none⟩ = some (.string s) := fun o => (World.cell?_of_block (Below.heap_alloc w o g hlt)).trans hl.c0
  have c1 : ∀ o, (w.alloc o).cell? ⟨g, 1, none⟩ = some (.int .i64 i) := fun o => (World.cell?_of_block (Below.heap_alloc w o g hlt)).trans hl.c1
  have hb := UInt8.toNat_lt s[i]
  have H := Lib.hid hl; clear hl
  go_enter Try.func15, Try.ntmps15
  go_wp2
  go_quiet (fail)
  go_wp2_with fail
  have ht : TkAt ((w.alloc (.cells #[.int .i64 0, .string ⟨#[]⟩, .int .i64 0, .int .i64 i] TKT)).drewN nq) w.heap.size 0 ⟨#[]⟩ 0 i := by
    show (w.alloc _).heap[w.heap.size]? = _
    exact heap_alloc_new w _
  have hL : LxAt ((w.alloc (.cells #[.int .i64 0, .string ⟨#[]⟩, .int .i64 0, .int .i64 i] TKT)).drewN nq) g s i := (Below.heap_alloc w _ g hlt).trans H.out
  have hO : Only g w ((w.alloc (.cells #[.int .i64 0, .string ⟨#[]⟩, .int .i64 0, .int .i64 i] TKT)).drewN nq) := ((Only.refl g w).alloc _).drewN _
  change Calls _ _ _ ((w.alloc (.cells #[.int .i64 0, .string ⟨#[]⟩, .int .i64 0, .int .i64 i] TKT)).drewN nq) _
  generalize (w.alloc (.cells #[.int .i64 0, .string ⟨#[]⟩, .int .i64 0, .int .i64 i] TKT)).drewN nq = W1 at ht hL hO ⊢
  obtain ⟨B, hB⟩ : ∃ B, B = w.heap.size := ⟨_, rfl⟩
  rw [← hB] at hlt ht ⊢
  clear c0 c1 H
  have HB := Lib.hid hB; clear hB
  refine (letter_is _ W1 (by omega) (by omega)).mono ?_
  rintro e w' ⟨rfl, rfl⟩
  rw [h1]
  obtain ⟨R, hR⟩ : ∃ R, R = (rest s i).takeWhile (by_ isPart) := ⟨_, rfl⟩
  have hrun : Calls Try.prog 17 #[.pointer (some ⟨g, 0, none⟩), .func (.func 22) #[] #[]] w' fun e w'' => e = .returned (.string ⟨R.toArray⟩) ∧ LxAt w'' g s (runEnd isPart s i) ∧ Only g w' w'' := by
    rw [hR]; exact runPart g s i w' hL (by omega) hs
  have hRl : R.length ≤ 140737488351232 := by
    rw [hR]
    have := (List.takeWhile_sublist (by_ isPart) (l := rest s i)).length_le
    rw [rest_len] at this; omega
  have HR := Lib.hid hR; clear hR
  have HRUN := Lib.hid hrun; clear hrun
  have hlow : ∀ w, Calls Try.prog 12 #[.string ⟨R.toArray⟩] w fun e w' => e = .returned (.string ⟨(lowerL R).toArray⟩) ∧ Below w.heap.size w w' := fun w => lower_is ⟨R.toArray⟩ w (by simpa [ByteArray.size] using hRl)
  have HLOW := Lib.hid hlow; clear hlow
  go_wp2_with (go_at_call 17; refine HRUN.out.mono ?_; rintro e w2 ⟨rfl, h3, h4⟩)
  refine (HLOW.out w2).mono ?_
  rintro e w3 ⟨rfl, h5⟩
  have ht3 : TkAt w3 B 0 ⟨#[]⟩ 0 i := (ht.only h4 (by omega)).below h5
  have hL3 : LxAt w3 g s (runEnd isPart s i) := h3.below h5
  have hO3 : Only g w w3 := (hO.trans h4).of_below h5
  obtain ⟨d0, d1, d2, d3⟩ := ht3.cells
  obtain ⟨e0, e1, e2, e3⟩ := ht3.free
  clear h3 h4 h5
  have HT3 := Lib.hid ht3; clear ht3
  have HL3 := Lib.hid hL3; clear hL3
  have HO3 := Lib.hid hO3; clear hO3
  go_wp2
  refine bodyPost_ret (results_tk (B := B) (k := 1) (t := ⟨(lowerL R).toArray⟩) (n := 0) (a := i) (b := decide (((lowerL R).length : Int) ≤ 16)) ?_ rfl rfl) rfl ?_
  · repeat (first | (with_reducible exact HT3.out) | (with_reducible apply TkAt.set0) | (with_reducible apply TkAt.set1) | (with_reducible apply TkAt.set2) | (with_reducible apply TkAt.set3))
  · have hrun := rest_runEnd isPart s i
    have hrc := rest_cons s i hi
    have hlen : (lowerL R).length = R.length := by simp [lowerL]
    have hle := runEnd_le isPart s i (by omega)
    refine ⟨?_, by repeat (first | (with_reducible exact HO3.out) | (with_reducible refine Only.setNew ?_ (by rw [HB.out]; exact Nat.le_refl _) _ _))⟩
    have hLf : ∀ o1 o2 o3 o4 o5 o6 v1 v2 v3 v4 v5 v6, LxAt ((((((w3.setCell ⟨B, o1, none⟩ v1).setCell ⟨B, o2, none⟩ v2).setCell ⟨B, o3, none⟩ v3).setCell ⟨B, o4, none⟩ v4).setCell ⟨B, o5, none⟩ v5).setCell ⟨B, o6, none⟩ v6) g s (runEnd isPart s i) := by
      intros; repeat (first | (with_reducible exact HL3.out) | (with_reducible refine LxAt.far ?_ (by omega) _ _))
    have hT := tokenL_word s[i] (rest s (i+1)) h1
    rw [← hrc, ← HR.out] at hT
    rw [hT]
    by_cases h16 : R.length ≤ 16
    · rw [if_pos h16]
      refine ⟨?_, runEnd isPart s i, hle, hLf _ _ _ _ _ _ _ _ _ _ _ _, hrun⟩
      rw [hlen, decide_eq_true (by omega)]
    · rw [if_neg h16]
      refine ⟨⟨1, ⟨(lowerL R).toArray⟩, 0, ?_⟩, runEnd isPart s i, hle, hLf _ _ _ _ _ _ _ _ _ _ _ _⟩
      rw [hlen, decide_eq_false (by omega)]

set_option maxHeartbeats 1000000 in
theorem token_digit (g : Nat) (s : ByteArray) (i : Nat) (w : World) (hl : LxAt w g s i) (hi : i < s.size) (hs : s.size ≤ 140737488351232) (h1 : isLetter (s[i]).toNat = false) (h2 : isDigit (s[i]).toNat = true) :
   Calls Try.prog 15 #[.pointer (some ⟨g, 0, none⟩)] w (TokenPost s i g w) := by
  have hlt := hl.lt
  have c0 : ∀ o, (w.alloc o).cell? ⟨g, 0, none⟩ = some (.string s) := fun o => (World.cell?_of_block (Below.heap_alloc w o g hlt)).trans hl.c0
  have c1 : ∀ o, (w.alloc o).cell? ⟨g, 1, none⟩ = some (.int .i64 i) := fun o => (World.cell?_of_block (Below.heap_alloc w o g hlt)).trans hl.c1
  have hb := UInt8.toNat_lt s[i]
  have H := Lib.hid hl; clear hl
  go_enter Try.func15, Try.ntmps15
  go_wp2
  go_quiet (fail)
  go_wp2_with fail
  have ht : TkAt ((w.alloc (.cells #[.int .i64 0, .string ⟨#[]⟩, .int .i64 0, .int .i64 i] TKT)).drewN nq) w.heap.size 0 ⟨#[]⟩ 0 i := by
    show (w.alloc _).heap[w.heap.size]? = _
    exact heap_alloc_new w _
  have hL : LxAt ((w.alloc (.cells #[.int .i64 0, .string ⟨#[]⟩, .int .i64 0, .int .i64 i] TKT)).drewN nq) g s i := (Below.heap_alloc w _ g hlt).trans H.out
  have hO : Only g w ((w.alloc (.cells #[.int .i64 0, .string ⟨#[]⟩, .int .i64 0, .int .i64 i] TKT)).drewN nq) := ((Only.refl g w).alloc _).drewN _
  change Calls _ _ _ ((w.alloc (.cells #[.int .i64 0, .string ⟨#[]⟩, .int .i64 0, .int .i64 i] TKT)).drewN nq) _
  generalize (w.alloc (.cells #[.int .i64 0, .string ⟨#[]⟩, .int .i64 0, .int .i64 i] TKT)).drewN nq = W1 at ht hL hO ⊢
  obtain ⟨B, hB⟩ : ∃ B, B = w.heap.size := ⟨_, rfl⟩
  rw [← hB] at hlt ht ⊢
  clear c0 c1 H
  have HB := Lib.hid hB; clear hB
  refine (letter_is _ W1 (by omega) (by omega)).mono ?_
  rintro e w' ⟨rfl, rfl⟩
  rw [h1]
  have hdg := digit_is (s[i].toNat : Nat) w' (by omega) (by omega)
  rw [h2] at hdg
  have HDG := Lib.hid hdg; clear hdg
  obtain ⟨x0, x1, x2, x3⟩ := ht.cells
  obtain ⟨y0, y1, y2, y3⟩ := ht.free
  have HT := Lib.hid ht; clear ht
  have HL := Lib.hid hL; clear hL
  have HO := Lib.hid hO; clear hO
  go_wp2_with (go_at_call 23; refine HDG.out.mono ?_; rintro e w' ⟨rfl, rfl⟩)
  have ht : TkAt (w'.setCell ⟨B, 0, none⟩ (.int .i64 2)) B 2 ⟨#[]⟩ 0 i := HT.out.set0
  have hL : LxAt (w'.setCell ⟨B, 0, none⟩ (.int .i64 2)) g s i := HL.out.far (by omega) _ _
  have hO : Only g w (w'.setCell ⟨B, 0, none⟩ (.int .i64 2)) := HO.out.setNew (by rw [HB.out]; exact Nat.le_refl _) _ _
  generalize w'.setCell ⟨B, 0, none⟩ (.int .i64 2) = w1 at ht hL hO ⊢
  clear x0 x1 x2 x3 y0 y1 y2 y3 HT HL HO
  obtain ⟨R, hR⟩ : ∃ R, R = numL ((rest s i).takeWhile (by_ isDigit)) := ⟨_, rfl⟩
  have hnum := number_is g s i w1 hL (by omega) hs
  rw [← hR] at hnum
  have HR := Lib.hid hR; clear hR
  refine hnum.mono ?_
  rintro e w3 ⟨rfl, h3, h4⟩
  have ht3 : TkAt w3 B 2 ⟨#[]⟩ 0 i := ht.only h4 (by omega)
  obtain ⟨d0, d1, d2, d3⟩ := ht3.cells
  obtain ⟨e0, e1, e2, e3⟩ := ht3.free
  have HT3 := Lib.hid ht3; clear ht3
  have HL3 := Lib.hid h3; clear h3
  have HO3 := Lib.hid (hO.trans h4); clear h4
  clear hnum ht hL hO
  go_wp2
  refine bodyPost_ret (results_tk (B := B) (k := 2) (t := ⟨#[]⟩) (n := R.1) (a := i) (b := R.2) ?_ rfl rfl) rfl ?_
  · repeat (first | (with_reducible exact HT3.out) | (with_reducible apply TkAt.set0) | (with_reducible apply TkAt.set1) | (with_reducible apply TkAt.set2) | (with_reducible apply TkAt.set3))
  · have hrun := rest_runEnd isDigit s i
    have hrc := rest_cons s i hi
    have hle := runEnd_le isDigit s i (by omega)
    refine ⟨?_, by repeat (first | (with_reducible exact HO3.out) | (with_reducible refine Only.setNew ?_ (by rw [HB.out]; exact Nat.le_refl _) _ _))⟩
    have hLf : ∀ o1 o2 o3 o4 o5 v1 v2 v3 v4 v5, LxAt (((((w3.setCell ⟨B, o1, none⟩ v1).setCell ⟨B, o2, none⟩ v2).setCell ⟨B, o3, none⟩ v3).setCell ⟨B, o4, none⟩ v4).setCell ⟨B, o5, none⟩ v5) g s (runEnd isDigit s i) := by
      intros; repeat (first | (with_reducible exact HL3.out) | (with_reducible refine LxAt.far ?_ (by omega) _ _))
    have hT := tokenL_number s[i] (rest s (i+1)) h1 h2
    rw [← hrc, ← HR.out] at hT
    rw [hT]
    by_cases hok : R.2 = true
    · rw [if_pos hok]
      refine ⟨?_, runEnd isDigit s i, hle, hLf _ _ _ _ _ _ _ _ _ _, hrun⟩
      rw [hok]
    · rw [if_neg hok]
      refine ⟨⟨2, ⟨#[]⟩, R.1, ?_⟩, runEnd isDigit s i, hle, hLf _ _ _ _ _ _ _ _ _ _⟩
      rw [Bool.eq_false_iff.2 hok]
end Go.Proofs.Ytamlgkikjajcpaa
