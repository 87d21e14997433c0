/- syntax.Name: may a text be a name? -/
import Derived.Test.YtlhnncmflnjinaaLxKeyword
set_option linter.unusedSimpArgs false
set_option linter.unusedVariables false
namespace Go.Proofs.Ytlhnncmflnjinaa
open Go.RowKit

theorem cf_go (fid : Nat) (fn : Func) (hf : Try.prog.funcs[fid]? = some fn) (hn : (fn.name == "runtime.NumGoroutine") = false) (hb : fn.body.isNone = false) (args : Array Value) (w : World) : (callFunc fid args).run Try.prog w = .ok (.enter fid args) w := by
  have hn' : ¬ fn.name = "runtime.NumGoroutine" := by simpa using hn
  have hb' : ¬ fn.body = none := fun h => by simp [h] at hb
  simp [callFunc, hf, hn', hb', go_sem]

/-- the first place at which a list is so; -1: none -/
def ixL {α : Type} (q : α → Bool) (l : List α) : Int := if l.any q then (l.findIdx q : Nat) else -1
theorem ixL_at {α : Type} (q : α → Bool) (l : List α) (k : Nat) (hk : k < l.length) (h : ∀ j (hj : j < k), q (l[j]'(by omega)) = false) (hq : q l[k] = true) : ixL q l = k := by
  unfold ixL
  rw [if_pos (List.any_eq_true.2 ⟨l[k], List.getElem_mem hk, hq⟩)]
  have : l.findIdx q = k := (List.findIdx_eq hk).2 ⟨hq, fun j hj => h j hj⟩
  rw [this]
theorem ixL_none {α : Type} (q : α → Bool) (l : List α) (h : ∀ j (hj : j < l.length), q l[j] = false) : ixL q l = -1 := by
  unfold ixL
  rw [if_neg]
  intro hc
  obtain ⟨x, hx, hq⟩ := List.any_eq_true.1 hc
  obtain ⟨j, hj, rfl⟩ := List.getElem_of_mem hx
  rw [h j hj] at hq; cases hq
theorem ixL_any {α : Type} (q : α → Bool) (l : List α) : decide (0 ≤ ixL q l) = l.any q := by
  unfold ixL
  cases h : l.any q <;> simp

set_option maxHeartbeats 1000000 in
theorem ixBytes_is (fid : Nat) (hcf : ∀ (args : Array Value) (w : World), (callFunc fid args).run Try.prog w = .ok (.enter fid args) w) (q : Int → Bool) (his : ∀ (c : Int) (w : World), 0 ≤ c → c ≤ 255 → Calls Try.prog fid #[.int .u8 c] w fun e w' => e = .returned (.bool (q c)) ∧ w' = w)
    (g cap : Nat) (l : List UInt8) (w : World) (hr : Row8 w g l) (hl : l.length ≤ 140737488351232) :
    Calls Try.prog 179 #[.slice (some ⟨g, 0, none⟩) l.length cap, .func (.func fid) #[] #[]] w fun e w' => e = .returned (.int .i64 (ixL (by_ q) l)) ∧ Below w.heap.size w w' := by
  have HR := Lib.hid hr; clear hr
  have HS := Lib.hid his; clear his
  go_enter Try.func179, Try.ntmps179
  go_wp2_with fail
  go_loopg [8] l.length (fun m v wr => ∃ k : Nat, v = .int .i64 k ∧ k ≤ l.length ∧ m = l.length - k ∧ Hid (∀ j (hj : j < l.length), j < k → by_ q l[j] = false) ∧ wr = w)
  case atStart => exact ⟨0, rfl, by omega, rfl, (fun j hj h => absurd h (by omega)), rfl⟩
  case round =>
    obtain ⟨k, rfl, hk, hm, HJ, rfl⟩ := hrel
    have HM := Lib.hid hm; clear hm
    by_cases hlt : k < l.length
    · have hc := HR.out.cell (List.getElem?_eq_getElem hlt)
      have hb := UInt8.toNat_lt l[k]
      have hq : ∀ w, Calls Try.prog fid #[.int .u8 (l[k].toNat : Int)] w fun e w' => e = .returned (.bool (by_ q l[k])) ∧ w' = w := fun w => HS.out _ _ (by omega) (by omega)
      have HQ := Lib.hid hq; clear hq
      cases hbq : by_ q l[k] with
      | true =>
        rw [hbq] at HQ
        have hix := ixL_at (by_ q) l k hlt (fun j hj => HJ.out j (by omega) hj) hbq
        have HIX := Lib.hid hix; clear hix hbq
        go_wp2_with fail
        refine (HQ.out _).mono ?_
        rintro e w1 ⟨rfl, rfl⟩
        go_wp2_with fail
        go_ret
        exact ⟨by rw [HIX.out]; rfl, Below.refl _ _⟩
      | false =>
        rw [hbq] at HQ
        have HIX := Lib.hid hbq; clear hbq
        go_wp2_with fail
        refine (HQ.out _).mono ?_
        rintro e w1 ⟨rfl, rfl⟩
        go_wp2_with fail
        go_roundg (l.length - (k+1))
        case measure => have := HM.out; omega
        case rel =>
          refine ⟨k+1, by go_num, by omega, rfl, ?_, rfl⟩
          intro j hj h
          by_cases e : j = k
          · subst e; exact HIX.out
          · exact HJ.out j hj (by omega)
    · have hix := ixL_none (by_ q) l (fun j hj => HJ.out j hj (by omega))
      have HIX := Lib.hid hix; clear hix
      go_wp2_with fail
      go_ret
      exact ⟨by rw [HIX.out]; rfl, Below.refl _ _⟩

theorem cfBytes_is (fid : Nat) (hcf : ∀ (args : Array Value) (w : World), (callFunc fid args).run Try.prog w = .ok (.enter fid args) w) (q : Int → Bool) (his : ∀ (c : Int) (w : World), 0 ≤ c → c ≤ 255 → Calls Try.prog fid #[.int .u8 c] w fun e w' => e = .returned (.bool (q c)) ∧ w' = w)
    (g cap : Nat) (l : List UInt8) (w : World) (hr : Row8 w g l) (hl : l.length ≤ 140737488351232) :
    Calls Try.prog 161 #[.slice (some ⟨g, 0, none⟩) l.length cap, .func (.func fid) #[] #[]] w fun e w' => e = .returned (.bool (l.any (by_ q))) ∧ Below w.heap.size w w' := by
  have h := ixBytes_is fid hcf q his g cap l w hr hl
  have ha := ixL_any (by_ q) l
  generalize ixL (by_ q) l = i at h ha
  have H := Lib.hid h; clear h
  have HA := Lib.hid ha; clear ha
  go_enter Try.func161, Try.ntmps161
  go_wp2_with fail
  refine H.out.mono ?_
  rintro e w1 ⟨rfl, hB⟩
  have HB := Lib.hid hB; clear hB
  go_wp2_with fail
  go_ret
  exact ⟨by rw [← HA.out]; rfl, HB.out⟩

/-- a sign that no name has -/
def noName (c : Int) : Bool := !((97 ≤ c && c ≤ 122) || (48 ≤ c && c ≤ 57) || c == 95)
theorem noName_fact : ∀ n : Fin 256, (!decide ((((n.val : Nat) : Int) - 97) % 256 < 26) && (!decide ((((n.val : Nat) : Int) - 48) % 256 < 10) && !(((n.val : Nat) : Int) == 95))) = noName (n.val : Nat) := by decide +kernel
theorem noName_is (c : Int) (w : World) (h0 : 0 ≤ c) (h1 : c ≤ 255) : Calls Try.prog 162 #[.int .u8 c] w fun e w' => e = .returned (.bool (noName c)) ∧ w' = w := by
  have hf : (!decide ((c - 97) % 256 < 26) && (!decide ((c - 48) % 256 < 10) && !(c == 95))) = noName c := by
    have := noName_fact ⟨c.toNat, by omega⟩
    simpa [show ((c.toNat : Nat) : Int) = c by omega] using this
  have HF := Lib.hid hf; clear hf
  by_cases h1 : (c - 97) % 256 < 26
  · go_enter Try.func162, Try.ntmps162
    go_wp2_with fail
    go_ret
    rw [← HF.out]
    exact ⟨by simp [h1], rfl⟩
  · by_cases h2 : (c - 48) % 256 < 10
    · go_enter Try.func162, Try.ntmps162
      go_wp2_with fail
      go_ret
      rw [← HF.out]
      exact ⟨by simp [h2], rfl⟩
    · go_enter Try.func162, Try.ntmps162
      go_wp2_with fail
      go_ret
      rw [← HF.out]
      exact ⟨by simp [show ¬ (c - 97) % 256 < 26 by omega, show ¬ (c - 48) % 256 < 10 by omega, bne], rfl⟩

/-- may a text be a name? -/
def nameL (l : List UInt8) : Bool :=
  match l with
  | [] => false
  | c :: r => decide ((c :: r).length ≤ 16) && !(decide (48 ≤ c.toNat ∧ c.toNat ≤ 57)) && !(kwL (c :: r)) && !((c :: r).any (by_ noName))

set_option maxRecDepth 100000 in
set_option maxHeartbeats 1000000 in
theorem nameL_is (l : List UInt8) (m : Int) (w : World) (hl : l.length ≤ 140737488351232) (hm : w.cell? ⟨0, 0, none⟩ = some (.int .i64 m)) :
    Calls Try.prog 123 #[.string ⟨l.toArray⟩] w fun e w' => e = .returned (.bool (nameL l)) ∧ Below w.heap.size w w' := by
  have hkw := fun w => keyword_is ⟨l.toArray⟩ m w (by rw [size_mk]; exact hl)
  rw [show (⟨l.toArray⟩ : ByteArray).data.toList = l from rfl] at hkw
  have HKW := Lib.hid hkw; clear hkw
  have HM := Lib.hid hm; clear hm
  cases l with
  | nil =>
    go_enter Try.func123, Try.ntmps123
    go_wp2_with fail
    go_ret
    exact ⟨rfl, Below.refl _ _⟩
  | cons c r =>
    rw [List.length_cons] at hl
    have hcb := UInt8.toNat_lt c
    have hix : (⟨(c :: r).toArray⟩ : ByteArray)[0]'(Nat.succ_pos _) = c := rfl
    by_cases h16 : 16 < r.length + 1
    · have hN : nameL (c :: r) = false := by unfold nameL; simp only [List.length_cons]; rw [decide_eq_false (by omega)]; rfl
      have HN := Lib.hid hN; clear hN
      go_enter Try.func123, Try.ntmps123
      go_wp2_with fail
      go_ret
      exact ⟨by rw [HN.out]; rfl, Below.refl _ _⟩
    · by_cases hd : 48 ≤ c.toNat ∧ c.toNat ≤ 57
      · have hN : nameL (c :: r) = false := by unfold nameL; simp [hd.1, hd.2]
        have HN := Lib.hid hN; clear hN
        obtain ⟨hd1, hd2⟩ := hd
        go_enter Try.func123, Try.ntmps123
        go_wp2_with fail
        go_ret
        exact ⟨by rw [HN.out]; rfl, Below.refl _ _⟩
      · have hdd : ¬ ((c.toNat : Int) - 48) % 256 < 10 := by omega
        have HD := Lib.hid hd; clear hd
        cases hk : kwL (c :: r) with
        | true =>
          have hN : nameL (c :: r) = false := by unfold nameL; simp [hk]
          have HN := Lib.hid hN; clear hN
          rw [hk] at HKW
          clear hk
          go_enter Try.func123, Try.ntmps123
          go_wp2_with fail
          refine (HKW.out _ HM.out).mono ?_
          rintro e w1 ⟨rfl, hB⟩
          have HB := Lib.hid hB; clear hB
          go_wp2_with fail
          go_ret
          exact ⟨by rw [HN.out]; rfl, HB.out⟩
        | false =>
          have hN : nameL (c :: r) = !((c :: r).any (by_ noName)) := by
            unfold nameL; simp only; rw [hk, decide_eq_true (by simp; omega), decide_eq_false HD.out]; simp
          have HN := Lib.hid hN; clear hN
          rw [hk] at HKW
          clear hk
          have hconv := fun W : World => Lib.run_convert_string_bytes (P := Try.prog) W 9 217 5 ⟨(c :: r).toArray⟩ Try.underlying9 Try.underlying217 Try.underlying5
          go_enter Try.func123, Try.ntmps123
          go_wp2_with fail
          refine (HKW.out _ HM.out).mono ?_
          rintro e w1 ⟨rfl, hB⟩
          have HB := Lib.hid hB; clear hB
          go_wp2_with fail
          have hR := Row8.made w1 5 ⟨(c :: r).toArray⟩
          have hB2 := below_bytes (Below.refl w1.heap.size w1) (Nat.le_refl _) 5 ⟨(c :: r).toArray⟩
          rw [show (⟨(c :: r).toArray⟩ : ByteArray).data.toList = c :: r from rfl] at hR
          have hsz := Lib.bytesWorld_size w1 5 ⟨(c :: r).toArray⟩
          refine (cfBytes_is _ (cf_go _ _ Try.func162 (by kernel_rfl) (by kernel_rfl)) noName (fun c w h0 h1 => noName_is c w h0 h1) w1.heap.size _ (c :: r) _ hR (by simp; omega)).mono ?_
          rintro e w2 ⟨rfl, hB3⟩
          have HB3 := Lib.hid (HB.out.trans ((hB2.trans (hB3.mono hB2.size)).mono HB.out.size)); clear hB2 hB3 hR hsz hconv
          go_wp2_with fail
          go_ret
          exact ⟨by rw [HN.out]; simp, HB3.out⟩

theorem name_is (s : ByteArray) (m : Int) (w : World) (hs : s.size ≤ 140737488351232) (hm : w.cell? ⟨0, 0, none⟩ = some (.int .i64 m)) :
    Calls Try.prog 123 #[.string s] w fun e w' => e = .returned (.bool (nameL s.data.toList)) ∧ Below w.heap.size w w' :=
  nameL_is s.data.toList m w (by simpa using hs) hm
end Go.Proofs.Ytlhnncmflnjinaa
