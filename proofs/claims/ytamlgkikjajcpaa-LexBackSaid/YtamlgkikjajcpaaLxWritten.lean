/- the law's own: a token as a text. -/
import Derived.Test.YtamlgkikjajcpaaLxAlive
import Derived.Test.YtamlgkikjajcpaaLxBackLaws
namespace Go.Proofs.Ytamlgkikjajcpaa
open Go.RowKit Go.Proofs.YtamlgkikjajcpaaW.PrintWords

/-- a token that lies in a block of its own -/
def Tk4 (w : World) (B : Nat) (k : Int) (t : ByteArray) (n a : Int) : Prop := w.cell? ⟨B, 0, none⟩ = some (.int .i64 k) ∧ w.cell? ⟨B, 1, none⟩ = some (.string t) ∧ w.cell? ⟨B, 2, none⟩ = some (.int .i64 n) ∧ w.cell? ⟨B, 3, none⟩ = some (.int .i64 a)
theorem tk4_new (w : World) (k : Int) (t : ByteArray) (n a : Int) (T : TypeId) : Tk4 (w.alloc (.cells #[.int .i64 k, .string t, .int .i64 n, .int .i64 a] T)) w.heap.size k t n a := by
  have := heap_alloc_new w (.cells #[.int .i64 k, .string t, .int .i64 n, .int .i64 a] T)
  simp only [Tk4, World.cell?, this]
  exact ⟨rfl, rfl, rfl, rfl⟩

/-- what is left to be written of a number, once its last digits stand -/
def restN (m : Nat) (s : List UInt8) : List UInt8 := if m = 0 ∧ s ≠ [] then [] else decN m
theorem restN_step (m : Nat) (s : List UInt8) (h : 0 < m ∨ s = []) : restN (m / 10) (UInt8.ofNat (48 + m % 10) :: s) ++ (UInt8.ofNat (48 + m % 10) :: s) = restN m s ++ s := by
  unfold restN
  rw [if_neg (show ¬ (m = 0 ∧ s ≠ []) by rcases h with h | h <;> simp [h] <;> omega)]
  by_cases hm : m < 10
  · rw [if_pos ⟨by omega, by simp⟩, decN_small m hm, show m % 10 = m by omega]; rfl
  · rw [if_neg (by omega), decN_more m hm]; simp

theorem digit_byte : ∀ k : Fin 10, (IntKind.u8.wrap (IntKind.i64.wrap (48 + ((k.val : Nat) : Int)))) = (((UInt8.ofNat (48 + k.val)).toNat : Nat) : Int) := by decide +kernel

theorem conv_one (W : World) (d : Nat) (hd : d < 10) : (convert 42 9 (.slice (some ⟨W.heap.size, 0, none⟩) 1 1)).run Try.prog (W.alloc (.cells #[.int .u8 (48 + (d : Int))] 5)) = .ok (.string ⟨[UInt8.ofNat (48 + d)].toArray⟩) (W.alloc (.cells #[.int .u8 (48 + (d : Int))] 5)) := by
  have hn : ((UInt8.ofNat (48 + d)).toNat : Int) = 48 + d := by
    have := digit_val d hd; omega
  have := run_convert_bytes_back (P := Try.prog) (W.alloc (.cells #[.int .u8 (48 + (d : Int))] 5)) 42 9 5 ⟨W.heap.size, 0, none⟩ 1 [UInt8.ofNat (48 + d)] Try.underlying42 Try.underlying5 Try.underlying9 (fun j hj => by
    obtain rfl : j = 0 := by simpa using hj
    have e := heap_alloc_new W (.cells #[.int .u8 (48 + (d : Int))] 5)
    rw [add_plain']
    simp only [World.cell?, e]
    simp only [List.getElem_cons_zero, hn]
    rfl)
  exact this

theorem dblL_snoc (l : List UInt8) (c : UInt8) : dblL (l ++ [c]) = dblL l ++ (if c = 39 then [39, 39] else [c]) := by
  induction l with
  | nil => simp only [dblL, List.nil_append]
  | cons a l ih =>
    rw [List.cons_append]
    unfold dblL
    rw [ih]
    split <;> simp

set_option maxRecDepth 100000 in
set_option maxHeartbeats 1000000 in
theorem written_is (tk : Int) (tt : ByteArray) (tn ta : Int) (w : World) (hg : Good tk tt.data.toList tn) :
    Calls Try.prog 10 #[.agg #[.int .i64 tk, .string tt, .int .i64 tn, .int .i64 ta]] w fun e w' => e = .returned (.string ⟨(writL tk tt.data.toList tn).toArray⟩) ∧ Below w.heap.size w w' := by
  have hkk : tk = 1 ∨ tk = 2 ∨ tk = 3 ∨ tk = 4 := by
    rcases hg with ⟨h, _⟩ | ⟨h, _⟩ | ⟨h, _⟩ | ⟨h, _⟩ <;> simp [h]
  have HG := Lib.hid hg; clear hg
  rcases hkk with rfl | rfl | rfl | rfl
  · go_enter Try.func10, Try.ntmps10
    go_wp2
    go_ret
    exact ⟨rfl, Below.alloc (Below.refl _ _) (Nat.le_refl _) _⟩
  · obtain ⟨m, rfl, hm⟩ : ∃ m : Nat, tn = m ∧ m ≤ 9223372036854775807 := by
      rcases HG.out with ⟨h, _⟩ | ⟨_, _, h0, h1⟩ | ⟨h, _⟩ | ⟨h, _⟩
      · simp at h
      · exact ⟨tn.toNat, by omega, by omega⟩
      · simp at h
      · simp at h
    go_enter Try.func10, Try.ntmps10
    go_wp2
    have hb := Below.alloc (Below.refl w.heap.size w) (Nat.le_refl _) (.cells #[.int .i64 2, .string tt, .int .i64 m, .int .i64 ta] 30)
    generalize w.alloc (.cells #[.int .i64 2, .string tt, .int .i64 m, .int .i64 ta] 30) = W1 at hb ⊢
    have HB := Lib.hid hb; clear hb
    go_loopg [3, 4] (m + 1) (fun q vs vn wr => ∃ (s : List UInt8) (j : Nat), vs = .string ⟨s.toArray⟩ ∧ vn = .int .i64 j ∧ restN j s ++ s = decN m ∧ q = (if j = 0 ∧ s ≠ [] then 0 else j + 1) ∧ j ≤ m ∧ Below w.heap.size w wr)
    case atStart => exact ⟨[], m, rfl, rfl, by simp [restN], by simp, Nat.le_refl _, HB.out⟩
    case round =>
      obtain ⟨s, j, rfl, rfl, hs, hq, hjm, hb⟩ := hrel
      have hsl : s.length ≤ 20 := by
        have h1 := congrArg List.length hs
        have h2 := decN_len m m 19 (Nat.le_refl _) (by
          have : (10 : Nat) ^ 20 = 100000000000000000000 := by decide
          simp only [Nat.reduceAdd]; omega)
        rw [List.length_append] at h1
        omega
      have HS := Lib.hid hs; clear hs
      have HQ := Lib.hid hq; clear hq
      have HBw := Lib.hid hb; clear hb
      by_cases hj : 0 < j
      · have hcv := conv_one wr (j % 10) (by omega)
        rw [show (((j % 10 : Nat)) : Int) = (j : Int) % 10 by omega] at hcv
        obtain ⟨d, hd⟩ : ∃ d, d = UInt8.ofNat (48 + j % 10) := ⟨_, rfl⟩
        rw [← hd] at hcv
        have HD := Lib.hid hd; clear hd
        have hcat : (⟨#[d]⟩ : ByteArray) ++ ⟨s.toArray⟩ = ⟨(d :: s).toArray⟩ := by
          apply bytes_ext; simp only [data_append']; simp
        have HCAT := Lib.hid hcat; clear hcat
        go_wp2
        rw [HCAT.out]
        go_roundg (if j / 10 = 0 then 0 else j / 10 + 1)
        case measure => have := HQ.out; rw [if_neg (by omega)] at this; split <;> omega
        case rel =>
          refine ⟨d :: s, j / 10, rfl, by go_num, ?_, by simp, by omega, HBw.out.alloc HBw.out.size _⟩
          rw [HD.out, restN_step j s (.inl hj)]; exact HS.out
      · obtain rfl : j = 0 := by omega
        cases s with
        | nil =>
          have hcv := conv_one wr 0 (by omega)
          obtain ⟨d, hd⟩ : ∃ d, d = UInt8.ofNat (48 + 0) := ⟨_, rfl⟩
          rw [← hd] at hcv
          have HD := Lib.hid hd; clear hd
          have hcat : (⟨#[d]⟩ : ByteArray) ++ ⟨#[]⟩ = ⟨[d].toArray⟩ := by
            apply bytes_ext; simp only [data_append']; simp
          have HCAT := Lib.hid hcat; clear hcat
          rw [show (48 : Int) + ((0 : Nat) : Int) = 48 from rfl] at hcv
          go_wp2
          rw [HCAT.out]
          go_roundg 0
          case measure => have := HQ.out; rw [if_neg (by simp)] at this; omega
          case rel =>
            refine ⟨[d], 0, rfl, by go_num, ?_, by simp, by omega, HBw.out.alloc HBw.out.size _⟩
            have := restN_step 0 [] (.inr rfl)
            rw [HD.out]
            exact this.trans HS.out
        | cons c s =>
          go_wp2
          go_ret
          exact ⟨by have := HS.out; simp [restN] at this; simp [writL, this], HBw.out⟩
  · go_enter Try.func10, Try.ntmps10
    have hlt64 : tt.size ≤ 64 := by
      rcases HG.out with ⟨h, _⟩ | ⟨h, _⟩ | ⟨_, _, h⟩ | ⟨h, _⟩
      · simp at h
      · simp at h
      · simpa using h
      · simp at h
    go_wp2
    obtain ⟨_, y1, _, _⟩ := tk4_new w 3 tt tn ta 30
    have hb := Below.alloc (Below.refl w.heap.size w) (Nat.le_refl _) (.cells #[.int .i64 3, .string tt, .int .i64 tn, .int .i64 ta] 30)
    have hB : w.heap.size < (w.alloc (.cells #[.int .i64 3, .string tt, .int .i64 tn, .int .i64 ta] 30)).heap.size := (Array.getElem?_eq_some_iff.1 (heap_alloc_new w _)).1
    generalize w.alloc (.cells #[.int .i64 3, .string tt, .int .i64 tn, .int .i64 ta] 30) = W1 at hb y1 hB ⊢
    have HB := Lib.hid hb; clear hb
    have hdb := dblL_snoc
    have HDB := Lib.hid hdb; clear hdb
    go_loopg [5, 6] tt.size (fun q vs vn wr => ∃ k : Nat, vs = .string ⟨(39 :: dblL (tt.data.toList.take k)).toArray⟩ ∧ vn = .int .i64 k ∧ k ≤ tt.size ∧ q = tt.size - k ∧ Below W1.heap.size W1 wr)
    case atStart => exact ⟨0, rfl, rfl, by omega, rfl, Below.refl _ _⟩
    case round =>
      obtain ⟨k, rfl, rfl, hk, hq, hb⟩ := hrel
      have z1 := row_below hb hB y1
      have HQ := Lib.hid hq; clear hq
      have HBw := Lib.hid hb; clear hb
      have hsl := dblL_len (tt.data.toList.take k)
      have hsl2 : (tt.data.toList.take k).length ≤ 64 := by simp; omega
      have hsl3 : (dblL (tt.data.toList.take k)).length ≤ 128 := by omega
      clear hsl hsl2
      by_cases hlt : k < tt.size
      · have hsn : dblL (tt.data.toList.take (k+1)) = dblL (tt.data.toList.take k) ++ (if tt[k] = 39 then [39, 39] else [tt[k]]) := by
          rw [List.take_succ_eq_append_getElem (by simpa using hlt), HDB.out]; rfl
        have hex : (tt.extract k (k+1)) = ⟨[tt[k]].toArray⟩ := by
          apply bytes_ext
          rw [Lib.extract_data]
          have : List.take (k + 1 - k) (List.drop k tt.data.toList) = [tt[k]] := by
            rw [List.drop_eq_getElem_cons (by simpa using hlt), show k + 1 - k = 1 by omega]; rfl
          exact this
        generalize dblL (tt.data.toList.take k) = s at hsn hsl3 ⊢
        have HSN := Lib.hid hsn; clear hsn
        have HEX := Lib.hid hex; clear hex
        by_cases hc : tt[k] = 39
        · have hx : ((tt[k].toNat : Int) == 39) = true := by rw [hc]; rfl
          have HC := Lib.hid hc; clear hc
          go_wp2
          go_roundg (tt.size - (k+1))
          case measure => have := HQ.out; omega
          case rel =>
            refine ⟨k+1, ?_, by go_num, by omega, rfl, HBw.out⟩
            rw [HSN.out, if_pos HC.out, HEX.out]
            refine congrArg Value.string (bytes_ext ?_)
            simp only [data_append']
            simp [HC.out]
        · have hx : ((tt[k].toNat : Int) == 39) = false := by
            have : ¬ tt[k].toNat = 39 := fun h => hc (UInt8.toNat_inj.1 (by simpa using h))
            simp; omega
          have HC := Lib.hid hc; clear hc
          go_wp2
          go_roundg (tt.size - (k+1))
          case measure => have := HQ.out; omega
          case rel =>
            refine ⟨k+1, ?_, by go_num, by omega, rfl, HBw.out⟩
            rw [HSN.out, if_neg HC.out, HEX.out]
            refine congrArg Value.string (bytes_ext ?_)
            simp only [data_append']
            simp
      · have htk : tt.data.toList.take k = tt.data.toList := List.take_of_length_le (by simpa using hlt)
        rw [htk] at hsl3 ⊢
        clear htk
        go_wp2
        go_ret
        refine ⟨?_, HB.out.trans (HBw.out.mono HB.out.size)⟩
        refine ret_congr (congrArg Value.string (bytes_ext ?_))
        simp only [data_append']
        simp [writL]
  · go_enter Try.func10, Try.ntmps10
    go_wp2
    go_ret
    exact ⟨rfl, Below.alloc (Below.refl _ _) (Nat.le_refl _) _⟩
end Go.Proofs.Ytamlgkikjajcpaa
