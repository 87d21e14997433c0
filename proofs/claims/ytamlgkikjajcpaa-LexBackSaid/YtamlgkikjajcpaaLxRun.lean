/- lex: letters, digits, the runs of a text and what stands between its tokens: each call tells what the plain function tells. -/
import Derived.Test.YtamlgkikjajcpaaProg
import Derived.Test.YtamlgkikjajcpaaLxPlain
namespace Go.Proofs.Ytamlgkikjajcpaa
open Go.RowKit

abbrev LXT : Nat := 39
def LxAt (w : World) (g : Nat) (s : ByteArray) (i : Nat) : Prop := w.heap[g]? = some (.cells #[.string s, .int .i64 i] LXT (0,0))
theorem LxAt.c0 {w : World} {g : Nat} {s : ByteArray} {i : Nat} (h : LxAt w g s i) : w.cell? ⟨g, 0, none⟩ = some (.string s) := by unfold LxAt at h; simp [World.cell?, h]
theorem LxAt.c1 {w : World} {g : Nat} {s : ByteArray} {i : Nat} (h : LxAt w g s i) : w.cell? ⟨g, 1, none⟩ = some (.int .i64 i) := by unfold LxAt at h; simp [World.cell?, h]
theorem LxAt.f1 {w : World} {g : Nat} {s : ByteArray} {i : Nat} (h : LxAt w g s i) : w.frozen? ⟨g, 1, none⟩ = false := by unfold LxAt at h; simp [World.frozen?, h]
theorem LxAt.drewN {w : World} {g : Nat} {s : ByteArray} {i : Nat} (h : LxAt w g s i) (n : Nat) : LxAt (w.drewN n) g s i := h
theorem LxAt.set {w : World} {g : Nat} {s : ByteArray} {i : Nat} (h : LxAt w g s i) (j : Nat) : LxAt (w.setCell ⟨g, 1, none⟩ (.int .i64 j)) g s j := by
  unfold LxAt at *
  simp [World.setCell, Array.getElem?_modify, h]
theorem LxAt.lt {w : World} {g : Nat} {s : ByteArray} {i : Nat} (h : LxAt w g s i) : g < w.heap.size := (Array.getElem?_eq_some_iff.1 h).1

/-- the bytes from i on -/
def rest (s : ByteArray) (i : Nat) : List UInt8 := s.data.toList.drop i
theorem rest_len (s : ByteArray) (i : Nat) : (rest s i).length = s.size - i := by simp [rest]
theorem rest_cons (s : ByteArray) (i : Nat) (h : i < s.size) : rest s i = s[i] :: rest s (i+1) := by
  unfold rest
  rw [List.drop_eq_getElem_cons (by simpa using h)]
  rfl
theorem rest_end (s : ByteArray) (i : Nat) (h : ¬ i < s.size) : rest s i = [] := by
  unfold rest; exact List.drop_eq_nil_of_le (by simpa using h)
/-- how long the run from i on is -/
def runLen (q : Int → Bool) (l : List UInt8) : Nat := (l.takeWhile fun c => q c.toNat).length
def runEnd (q : Int → Bool) (s : ByteArray) (i : Nat) : Nat := i + runLen q (rest s i)
theorem runEnd_yes (q : Int → Bool) (s : ByteArray) (i : Nat) (h : i < s.size) (hq : q (s[i]).toNat = true) : runEnd q s i = runEnd q s (i+1) := by
  unfold runEnd; rw [rest_cons s i h]; simp [runLen, hq]; omega
theorem runEnd_no (q : Int → Bool) (s : ByteArray) (i : Nat) (h : i < s.size) (hq : q (s[i]).toNat = false) : runEnd q s i = i := by
  unfold runEnd; rw [rest_cons s i h]; simp [runLen, hq]
theorem runEnd_end (q : Int → Bool) (s : ByteArray) (i : Nat) (h : ¬ i < s.size) : runEnd q s i = i := by
  unfold runEnd; rw [rest_end s i h]; rfl
theorem runEnd_ge (q : Int → Bool) (s : ByteArray) (i : Nat) : i ≤ runEnd q s i := by unfold runEnd; omega
theorem runEnd_le (q : Int → Bool) (s : ByteArray) (i : Nat) (h : i ≤ s.size) : runEnd q s i ≤ s.size := by
  unfold runEnd runLen
  have := (List.takeWhile_sublist (fun c : UInt8 => q c.toNat) (l := rest s i)).length_le
  rw [rest_len] at this; omega
theorem rest_runEnd (q : Int → Bool) (s : ByteArray) (i : Nat) : rest s (runEnd q s i) = (rest s i).dropWhile fun c => q c.toNat := by
  unfold runEnd runLen
  have : rest s (i + ((rest s i).takeWhile fun c => q c.toNat).length) = (rest s i).drop ((rest s i).takeWhile fun c => q c.toNat).length := by
    simp [rest, List.drop_drop]
  rw [this]
  generalize rest s i = l
  induction l with
  | nil => rfl
  | cons a l ih => simp only [List.takeWhile_cons, List.dropWhile_cons]; split <;> simp_all
theorem extract_run (q : Int → Bool) (s : ByteArray) (i : Nat) : s.extract i (runEnd q s i) = ⟨((rest s i).takeWhile fun c => q c.toNat).toArray⟩ := by
  have h : (s.extract i (runEnd q s i)).data.toList = ((rest s i).takeWhile fun c => q c.toNat) := by
    rw [Lib.extract_data]
    unfold runEnd runLen
    simp only [Nat.add_sub_cancel_left]
    show (rest s i).take _ = _
    generalize rest s i = l
    induction l with
    | nil => rfl
    | cons a l ih => simp only [List.takeWhile_cons]; split <;> simp_all
  rw [← h]

theorem extract_rest (s : ByteArray) (i : Nat) : s.extract i s.size = ⟨(rest s i).toArray⟩ := by
  have h : (s.extract i s.size).data.toList = rest s i := Lib.extract_to_end s i
  rw [← h]

set_option maxHeartbeats 400000 in
theorem run_is (fid : Nat) (hcf : ∀ (args : Array Value) (w : World), (callFunc fid args).run Try.prog w = .ok (.enter fid args) w) (q : Int → Bool) (his : ∀ (c : Int) (w : World), 0 ≤ c → c ≤ 255 → Calls Try.prog fid #[.int .u8 c] w fun e w' => e = .returned (.bool (q c)) ∧ w' = w)
  (g : Nat) (s : ByteArray) (i : Nat) (w : World) (hl : LxAt w g s i) (hi : i ≤ s.size) (hs : s.size ≤ 140737488351232) :
   Calls Try.prog 17 #[.pointer (some ⟨g, 0, none⟩), .func (.func fid) #[] #[]] w fun e w' => e = .returned (.string ⟨((rest s i).takeWhile fun c => q c.toNat).toArray⟩) ∧ LxAt w' g s (runEnd q s i) ∧ Only g w w' := by
  rw [← extract_run]
  have c0 := hl.c0
  have c1 := hl.c1
  have H := Lib.hid hl; clear hl
  have HS := Lib.hid his; clear his
  go_enter Try.func17, Try.ntmps17
  go_wp2
  go_loopg [32] (s.size - i) (fun k _ wr => ∃ j : Nat, i ≤ j ∧ j ≤ s.size ∧ s.size - j = k ∧ runEnd q s i = runEnd q s j ∧ LxAt wr g s j ∧ Only g w wr)
  case atStart => exact ⟨i, Nat.le_refl _, hi, rfl, rfl, H.out, Only.refl _ _⟩
  case round =>
    obtain ⟨j, hij, hj, hk, hr, hl, ho⟩ := hrel
    have c0' := hl.c0
    have c1' := hl.c1
    have f1' := hl.f1
    have H1 := Lib.hid hk; clear hk
    have H2 := Lib.hid hr; clear hr
    have H3 := Lib.hid hl; clear hl
    have H4 := Lib.hid ho; clear ho
    clear c0 c1
    have hij' : (i : Int) ≤ j := by omega
    by_cases hlt : j < s.size
    · have hd : decide ((j : Int) < s.size) = true := by simpa using hlt
      have hb := UInt8.toNat_lt s[j]
      go_wp2
      go_quiet ((exact Calls.quiet_of_same (HS.out _ _ (by omega) (by omega))))
      cases hq : q (s[j].toNat : Int)
      · have HR := Lib.hid (runEnd_no q s j hlt hq)
        go_wp2
        go_quiet (fail)
        go_wp2
        go_ret
        rw [H2.out, HR.out]
        exact ⟨rfl, H3.out, by repeat (first | exact H4.out | apply Only.drewN)⟩
      · have HR := Lib.hid (runEnd_yes q s j hlt hq)
        go_wp2
        go_roundg (s.size - (j+1))
        case measure => have := H1.out; omega
        case rel => exact ⟨j+1, by omega, by omega, rfl, by rw [H2.out, HR.out], LxAt.set (i := j) H3.out (j+1), by repeat (first | exact H4.out | apply Only.drewN | apply Only.setCell)⟩
    · have hd : decide ((j : Int) < s.size) = false := by simpa using hlt
      have HR := Lib.hid (runEnd_end q s j hlt)
      go_wp2
      go_quiet (fail)
      go_wp2
      go_quiet (fail)
      go_wp2
      go_ret
      rw [H2.out, HR.out]
      exact ⟨rfl, H3.out, by repeat (first | exact H4.out | apply Only.drewN)⟩

theorem blank_is (c : Int) (w : World) : Calls Try.prog 18 #[.int .u8 c] w fun e w' => e = .returned (.bool (isBlank c)) ∧ w' = w := by
  go_enter Try.func18, Try.ntmps18
  by_cases h1 : c = 32
  · subst h1; go_wp2; go_ret; exact ⟨rfl, rfl⟩
  · by_cases h2 : c = 9
    · subst h2; go_wp2; go_ret; exact ⟨rfl, rfl⟩
    · have e1 : (c == 32) = false := by simp [h1]
      have e2 : (c == 9) = false := by simp [h2]
      go_wp2; go_ret; exact ⟨by simp [isBlank, e1, e2], rfl⟩
theorem notNl_is (c : Int) (w : World) : Calls Try.prog 20 #[.int .u8 c] w fun e w' => e = .returned (.bool (notNl c)) ∧ w' = w := by
  go_enter Try.func20, Try.ntmps20
  go_wp2; go_ret; exact ⟨by simp [notNl], rfl⟩
theorem notQuote_is (c : Int) (w : World) : Calls Try.prog 30 #[.int .u8 c] w fun e w' => e = .returned (.bool (notQuote c)) ∧ w' = w := by
  go_enter Try.func30, Try.ntmps30
  go_wp2; go_ret; exact ⟨by simp [notQuote], rfl⟩
theorem digit_fact : ∀ n : Fin 256, (decide ((((n.val : Nat) : Int) - 48) % 256 < 10)) = isDigit (n.val : Nat) := by decide +kernel
theorem letter_fact : ∀ n : Fin 256, (decide ((Go.bits .or .u8 ((n.val : Nat) : Int) 32 - 97) % 256 < 26) || (((n.val : Nat) : Int) == 95)) = isLetter (n.val : Nat) := by decide +kernel
theorem fin_of {c : Int} (h0 : 0 ≤ c) (h1 : c ≤ 255) : ∃ n : Fin 256, c = (n.val : Nat) := ⟨⟨c.toNat, by omega⟩, by simp; omega⟩
theorem digit_is (c : Int) (w : World) (h0 : 0 ≤ c) (h1 : c ≤ 255) : Calls Try.prog 23 #[.int .u8 c] w fun e w' => e = .returned (.bool (isDigit c)) ∧ w' = w := by
  obtain ⟨n, rfl⟩ := fin_of h0 h1
  rw [← digit_fact n]
  go_enter Try.func23, Try.ntmps23
  go_wp2; go_ret; exact ⟨rfl, rfl⟩
theorem letter_is (c : Int) (w : World) (h0 : 0 ≤ c) (h1 : c ≤ 255) : Calls Try.prog 21 #[.int .u8 c] w fun e w' => e = .returned (.bool (isLetter c)) ∧ w' = w := by
  have hf : (decide ((Go.bits .or .u8 c 32 - 97) % 256 < 26) || (c == 95)) = isLetter c := by
    obtain ⟨n, rfl⟩ := fin_of h0 h1; exact letter_fact n
  have HF := Lib.hid hf
  clear hf
  cases hd : decide ((Go.bits .or .u8 c 32 - 97) % 256 < 26)
  · go_enter Try.func21, Try.ntmps21
    go_wp2; go_ret; rw [← HF.out]; exact ⟨by simp [hd], rfl⟩
  · go_enter Try.func21, Try.ntmps21
    go_wp2; go_ret; rw [← HF.out]; exact ⟨by simp [hd], rfl⟩
theorem part_is (c : Int) (w : World) (h0 : 0 ≤ c) (h1 : c ≤ 255) : Calls Try.prog 22 #[.int .u8 c] w fun e w' => e = .returned (.bool (isPart c)) ∧ w' = w := by
  cases hd : isLetter c
  · go_enter Try.func22, Try.ntmps22
    go_wp2_with (first | (go_at_call 21; refine (letter_is _ _ h0 h1).mono ?_; rintro e w' ⟨rfl, rfl⟩) | (go_at_call 23; refine (digit_is _ _ h0 h1).mono ?_; rintro e w' ⟨rfl, rfl⟩))
    go_ret; exact ⟨by simp [isPart, hd], rfl⟩
  · go_enter Try.func22, Try.ntmps22
    go_wp2_with (first | (go_at_call 21; refine (letter_is _ _ h0 h1).mono ?_; rintro e w' ⟨rfl, rfl⟩) | (go_at_call 23; refine (digit_is _ _ h0 h1).mono ?_; rintro e w' ⟨rfl, rfl⟩))
    go_ret; exact ⟨by simp [isPart, hd], rfl⟩
theorem cf_goes (fid : Nat) (fn : Func) (hf : Try.prog.funcs[fid]? = some fn) (hn : (fn.name == "runtime.NumGoroutine") = false) (hb : fn.body.isNone = false) (args : Array Value) (w : World) : (callFunc fid args).run Try.prog w = .ok (.enter fid args) w := by
  have hn' : ¬ fn.name = "runtime.NumGoroutine" := by simpa using hn
  have hb' : ¬ fn.body = none := fun h => by simp [h] at hb
  simp [callFunc, hf, hn', hb', go_sem]
theorem runBlank (g : Nat) (s : ByteArray) (i : Nat) (w : World) (hl : LxAt w g s i) (hi : i ≤ s.size) (hs : s.size ≤ 140737488351232) :
   Calls Try.prog 17 #[.pointer (some ⟨g, 0, none⟩), .func (.func 18) #[] #[]] w fun e w' => e = .returned (.string ⟨((rest s i).takeWhile fun c => isBlank c.toNat).toArray⟩) ∧ LxAt w' g s (runEnd isBlank s i) ∧ Only g w w' :=
  run_is _ (cf_goes _ _ Try.func18 (by kernel_rfl) (by kernel_rfl)) _ (fun c w _ _ => blank_is c w) g s i w hl hi hs
theorem runNl (g : Nat) (s : ByteArray) (i : Nat) (w : World) (hl : LxAt w g s i) (hi : i ≤ s.size) (hs : s.size ≤ 140737488351232) :
   Calls Try.prog 17 #[.pointer (some ⟨g, 0, none⟩), .func (.func 20) #[] #[]] w fun e w' => e = .returned (.string ⟨((rest s i).takeWhile fun c => notNl c.toNat).toArray⟩) ∧ LxAt w' g s (runEnd notNl s i) ∧ Only g w w' :=
  run_is _ (cf_goes _ _ Try.func20 (by kernel_rfl) (by kernel_rfl)) _ (fun c w _ _ => notNl_is c w) g s i w hl hi hs
theorem runQuote (g : Nat) (s : ByteArray) (i : Nat) (w : World) (hl : LxAt w g s i) (hi : i ≤ s.size) (hs : s.size ≤ 140737488351232) :
   Calls Try.prog 17 #[.pointer (some ⟨g, 0, none⟩), .func (.func 30) #[] #[]] w fun e w' => e = .returned (.string ⟨((rest s i).takeWhile fun c => notQuote c.toNat).toArray⟩) ∧ LxAt w' g s (runEnd notQuote s i) ∧ Only g w w' :=
  run_is _ (cf_goes _ _ Try.func30 (by kernel_rfl) (by kernel_rfl)) _ (fun c w _ _ => notQuote_is c w) g s i w hl hi hs
theorem runDigit (g : Nat) (s : ByteArray) (i : Nat) (w : World) (hl : LxAt w g s i) (hi : i ≤ s.size) (hs : s.size ≤ 140737488351232) :
   Calls Try.prog 17 #[.pointer (some ⟨g, 0, none⟩), .func (.func 23) #[] #[]] w fun e w' => e = .returned (.string ⟨((rest s i).takeWhile fun c => isDigit c.toNat).toArray⟩) ∧ LxAt w' g s (runEnd isDigit s i) ∧ Only g w w' :=
  run_is _ (cf_goes _ _ Try.func23 (by kernel_rfl) (by kernel_rfl)) _ (fun c w h0 h1 => digit_is c w h0 h1) g s i w hl hi hs
theorem runPart (g : Nat) (s : ByteArray) (i : Nat) (w : World) (hl : LxAt w g s i) (hi : i ≤ s.size) (hs : s.size ≤ 140737488351232) :
   Calls Try.prog 17 #[.pointer (some ⟨g, 0, none⟩), .func (.func 22) #[] #[]] w fun e w' => e = .returned (.string ⟨((rest s i).takeWhile fun c => isPart c.toNat).toArray⟩) ∧ LxAt w' g s (runEnd isPart s i) ∧ Only g w w' :=
  run_is _ (cf_goes _ _ Try.func22 (by kernel_rfl) (by kernel_rfl)) _ (fun c w h0 h1 => part_is c w h0 h1) g s i w hl hi hs
end Go.Proofs.Ytamlgkikjajcpaa
