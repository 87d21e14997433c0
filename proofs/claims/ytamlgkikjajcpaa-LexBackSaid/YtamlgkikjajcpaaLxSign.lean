/- lex: a sign. -/
import Derived.Test.YtamlgkikjajcpaaLxRun
import Derived.Test.YtamlgkikjajcpaaBld
namespace Go.Proofs.Ytamlgkikjajcpaa
open Go.RowKit

abbrev signArr : Value := .agg #[.string ⟨#[60, 61]⟩, .string ⟨#[62, 61]⟩, .string ⟨#[60, 62]⟩]
set_option maxHeartbeats 1000000 in
theorem sign_is (g : Nat) (s : ByteArray) (i : Nat) (w : World) (hl : LxAt w g s i) (hi : i < s.size) (_hs : s.size ≤ 140737488351232) :
   Calls Try.prog 26 #[.pointer (some ⟨g, 0, none⟩)] w fun e w' => e = .returned (.string ⟨(signL (rest s i)).toArray⟩) ∧ LxAt w' g s i ∧ Only g w w' := by
  have c0 := hl.c0
  have c1 := hl.c1
  have H := Lib.hid hl; clear hl
  have i0 : ∀ w, (Instr.index 60 signArr (.int .i64 0)).run Try.prog w = .ok (.string ⟨#[60, 61]⟩) w := fun _ => by kernel_rfl
  have i1 : ∀ w, (Instr.index 60 signArr (.int .i64 1)).run Try.prog w = .ok (.string ⟨#[62, 61]⟩) w := fun _ => by kernel_rfl
  have i2 : ∀ w, (Instr.index 60 signArr (.int .i64 2)).run Try.prog w = .ok (.string ⟨#[60, 62]⟩) w := fun _ => by kernel_rfl
  have hle : (i : Int) ≤ s.size := by omega
  obtain ⟨R, hR⟩ : ∃ R, R = rest s i := ⟨_, rfl⟩
  have HE : Hid (s.extract i s.size = ⟨R.toArray⟩) := by rw [hR]; exact extract_rest s i
  have hrl := rest_len s i
  rw [← hR] at hrl ⊢
  clear hR
  go_enter Try.func26, Try.ntmps26
  go_wp2
  go_quiet (fail)
  rw [HE.out]
  go_wp2
  have hrl' : 1 ≤ R.length := by omega
  clear hrl c0 c1
  obtain ⟨p0, hp0⟩ : ∃ p, p = Lib.hasPrefix R [60, 61] := ⟨_, rfl⟩
  obtain ⟨p1, hp1⟩ : ∃ p, p = Lib.hasPrefix R [62, 61] := ⟨_, rfl⟩
  obtain ⟨p2, hp2⟩ : ∃ p, p = Lib.hasPrefix R [60, 62] := ⟨_, rfl⟩
  have q0 : ∀ w, Calls Try.prog 19 #[.string ⟨R.toArray⟩, .string ⟨#[60, 61]⟩] w fun e w' => e = .returned (.bool p0) ∧ w' = w := fun w => by rw [hp0]; exact sh_HasPrefix ⟨R.toArray⟩ ⟨#[60, 61]⟩ w
  have q1 : ∀ w, Calls Try.prog 19 #[.string ⟨R.toArray⟩, .string ⟨#[62, 61]⟩] w fun e w' => e = .returned (.bool p1) ∧ w' = w := fun w => by rw [hp1]; exact sh_HasPrefix ⟨R.toArray⟩ ⟨#[62, 61]⟩ w
  have q2 : ∀ w, Calls Try.prog 19 #[.string ⟨R.toArray⟩, .string ⟨#[60, 62]⟩] w fun e w' => e = .returned (.bool p2) ∧ w' = w := fun w => by rw [hp2]; exact sh_HasPrefix ⟨R.toArray⟩ ⟨#[60, 62]⟩ w
  have HS : Hid (signL R = if p0 then [60, 61] else if p1 then [62, 61] else if p2 then [60, 62] else match R with
    | [] => []
    | c :: _ => if Lib.indexByte [40, 41, 44, 46, 42, 43, 45, 47, 61, 60, 62, 59] c < 0 then [] else [c]) := by
    rw [hp0, hp1, hp2]; rfl
  clear hp0 hp1 hp2
  have Q0 := Lib.hid q0; have Q1 := Lib.hid q1; have Q2 := Lib.hid q2
  clear q0 q1 q2
  go_loop [16] (fun v => ∃ k : Nat, v = .int .i64 k ∧ k ≤ 3 ∧ (1 ≤ k → p0 = false) ∧ (2 ≤ k → p1 = false) ∧ (3 ≤ k → p2 = false)) (fun v => 3 - (intOf v).toNat)
  case atStart => exact ⟨0, rfl, by omega, by omega, by omega, by omega⟩
  case round =>
    obtain ⟨k, rfl, hk, h0, h1, h2⟩ := hrel
    obtain rfl | rfl | rfl | rfl : k = 0 ∨ k = 1 ∨ k = 2 ∨ k = 3 := by omega
    · clear h0 h1 h2
      cases p0
      · go_wp2_with (go_at_call 19; refine (Q0.out _).mono ?_; rintro e w' ⟨rfl, rfl⟩)
        exact ⟨⟨1, rfl, by omega, by simp, by omega, by omega⟩, by decide⟩
      · go_wp2_with (go_at_call 19; refine (Q0.out _).mono ?_; rintro e w' ⟨rfl, rfl⟩)
        go_ret
        rw [HS.out]
        exact ⟨rfl, H.out, by repeat (first | exact Only.refl _ _ | apply Only.drewN)⟩
    · obtain rfl := h0 (by omega)
      clear h0 h1 h2
      cases p1
      · go_wp2_with (go_at_call 19; refine (Q1.out _).mono ?_; rintro e w' ⟨rfl, rfl⟩)
        exact ⟨⟨2, rfl, by omega, by simp, by simp, by omega⟩, by decide⟩
      · go_wp2_with (go_at_call 19; refine (Q1.out _).mono ?_; rintro e w' ⟨rfl, rfl⟩)
        go_ret
        rw [HS.out]
        exact ⟨rfl, H.out, by repeat (first | exact Only.refl _ _ | apply Only.drewN)⟩
    · obtain rfl := h0 (by omega)
      obtain rfl := h1 (by omega)
      clear h0 h1 h2
      cases p2
      · go_wp2_with (go_at_call 19; refine (Q2.out _).mono ?_; rintro e w' ⟨rfl, rfl⟩)
        exact ⟨⟨3, rfl, by omega, by simp, by simp, by simp⟩, by decide⟩
      · go_wp2_with (go_at_call 19; refine (Q2.out _).mono ?_; rintro e w' ⟨rfl, rfl⟩)
        go_ret
        rw [HS.out]
        exact ⟨rfl, H.out, by repeat (first | exact Only.refl _ _ | apply Only.drewN)⟩
    · obtain rfl := h0 (by omega)
      obtain rfl := h1 (by omega)
      obtain rfl := h2 (by omega)
      clear h0 h1 h2
      obtain ⟨c, t, rfl⟩ : ∃ c t, R = c :: t := by cases R with | nil => simp at hrl' | cons c t => exact ⟨c, t, rfl⟩
      have hix : (⟨(c :: t).toArray⟩ : ByteArray)[0]'(by simp [ByteArray.size]) = c := rfl
      have hsl : 1 ≤ (⟨(c :: t).toArray⟩ : ByteArray).size := by simp [ByteArray.size]
      have hex : (⟨(c :: t).toArray⟩ : ByteArray).extract 0 1 = ⟨[c].toArray⟩ := by
        have h : ((⟨(c :: t).toArray⟩ : ByteArray).extract 0 1).data.toList = [c] := by rw [Lib.extract_data]; simp
        rw [← h]
      obtain ⟨n, hn⟩ : ∃ n, n = Lib.indexByte [40, 41, 44, 46, 42, 43, 45, 47, 61, 60, 62, 59] c := ⟨_, rfl⟩
      have hib : ∀ w, Calls Try.prog 34 #[.string ⟨#[40, 41, 44, 46, 42, 43, 45, 47, 61, 60, 62, 59]⟩, .int .u8 (c.toNat : Nat)] w fun e w' => e = .returned (.int .i64 n) ∧ w' = w := fun w => by
        have h := sh_IndexByte ⟨#[40, 41, 44, 46, 42, 43, 45, 47, 61, 60, 62, 59]⟩ (c.toNat : Nat) w
        have hcc : ((c.toNat : Nat) : Int).toNat.toUInt8 = c := by simp
        rw [hcc] at h
        rw [hn]; exact h
      have HIB := Lib.hid hib; clear hib
      have HN := Lib.hid hn; clear hn
      by_cases hneg : n < 0
      · go_wp2_with (go_at_call 34; refine (HIB.out _).mono ?_; rintro e w' ⟨rfl, rfl⟩)
        go_ret
        rw [HS.out]
        simp only [Bool.false_eq_true, if_false]
        rw [if_pos (by rw [← HN.out]; exact hneg)]
        exact ⟨rfl, H.out, by repeat (first | exact Only.refl _ _ | apply Only.drewN)⟩
      · go_wp2_with (go_at_call 34; refine (HIB.out _).mono ?_; rintro e w' ⟨rfl, rfl⟩)
        go_ret
        rw [HS.out]
        simp only [Bool.false_eq_true, if_false]
        rw [if_neg (by rw [← HN.out]; omega)]
        refine ⟨?_, H.out, by repeat (first | exact Only.refl _ _ | apply Only.drewN)⟩
        first | rfl | (simp; done)
end Go.Proofs.Ytamlgkikjajcpaa
