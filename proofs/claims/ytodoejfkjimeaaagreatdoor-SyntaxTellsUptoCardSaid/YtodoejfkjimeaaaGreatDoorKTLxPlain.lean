/- Packed by a program of this repo: LxPlain LxLower Shk LxKeyword SynName. -/
import Derived.Test.YtodoejfkjimeaaaGreatDoorKTBase
import Derived.Lib.Bytealg
import Derived.Test.YtodoejfkjimeaaaGreatDoorProg
import Derived.Shelf.Strings.Search3
import Derived.Shelf.Vars
import Derived.WalkSpells
set_option linter.unusedSimpArgs false
set_option linter.unusedVariables false
namespace Go.Proofs.YtodoejfkjimeaaaGreatDoor

def by_ (q : Int → Bool) (c : UInt8) : Bool := q c.toNat

def lowerB (c : UInt8) : UInt8 := if 65 ≤ c.toNat ∧ c.toNat ≤ 90 then c ||| 32 else c
def lowerL (l : List UInt8) : List UInt8 := l.map lowerB
structure Tk where
  kind : Int
  text : List UInt8
  n : Int
end Go.Proofs.YtodoejfkjimeaaaGreatDoor

set_option linter.unusedSimpArgs false
set_option linter.unusedVariables false
namespace Go.Proofs.YtodoejfkjimeaaaGreatDoor
open Go.RowKit

theorem upper_test : ∀ n : Fin 256, decide ((((n.val : Nat) : Int) - 65) % 256 < 26) = decide (65 ≤ n.val ∧ n.val ≤ 90) := by decide +kernel
theorem upper_or : ∀ n : Fin 256, Go.bits .or .u8 ((n.val : Nat) : Int) 32 = (((UInt8.ofNat n.val) ||| 32).toNat : Nat) := by decide +kernel
theorem low_test (c : UInt8) : decide (((c.toNat : Int) - 65) % 256 < 26) = decide (65 ≤ c.toNat ∧ c.toNat ≤ 90) := upper_test ⟨c.toNat, UInt8.toNat_lt c⟩
theorem low_or (c : UInt8) : Go.bits .or .u8 (c.toNat : Int) 32 = ((c ||| 32).toNat : Nat) := by
  have := upper_or ⟨c.toNat, UInt8.toNat_lt c⟩
  simpa using this

def mixL (l : List UInt8) (k : Nat) : List UInt8 := (l.take k).map lowerB ++ l.drop k
theorem mix_cons (l : List UInt8) (k : Nat) (h : k < l.length) : mixL l k = (l.take k).map lowerB ++ l[k] :: l.drop (k+1) := by
  unfold mixL; rw [List.drop_eq_getElem_cons h]
theorem mix_next (l : List UInt8) (k : Nat) (h : k < l.length) : mixL l (k+1) = (l.take k).map lowerB ++ lowerB l[k] :: l.drop (k+1) := by
  unfold mixL; rw [List.take_succ_eq_append_getElem h]
  simp only [List.map_append, List.map_cons, List.map_nil, List.append_assoc, List.cons_append, List.nil_append]
theorem mix_len (l : List UInt8) (k : Nat) (h : k ≤ l.length) : (mixL l k).length = l.length := by simp [mixL]; omega
theorem mix_at (l : List UInt8) (k : Nat) (h : k < l.length) : (mixL l k)[k]? = some l[k] := by
  rw [mix_cons l k h, List.getElem?_append_right (by simp; omega)]; simp [Nat.min_eq_left (Nat.le_of_lt h)]
theorem mix_set (l : List UInt8) (k : Nat) (h : k < l.length) : (mixL l k).set k (lowerB l[k]) = mixL l (k+1) := by
  rw [mix_cons l k h, mix_next l k h, List.set_append_right _ _ (by simp; omega)]
  simp only [List.length_map, List.length_take, Nat.min_eq_left (Nat.le_of_lt h), Nat.sub_self, List.set_cons_zero]
theorem mix_keep (l : List UInt8) (k : Nat) (h : k < l.length) (e : lowerB l[k] = l[k]) : mixL l k = mixL l (k+1) := by
  rw [mix_cons l k h, mix_next l k h, e]
theorem mix_all (l : List UInt8) (k : Nat) (h : l.length ≤ k) : mixL l k = lowerL l := by
  unfold mixL lowerL; rw [List.take_of_length_le h, List.drop_eq_nil_of_le h]; simp

set_option maxHeartbeats 400000 in
theorem lower_is (s : ByteArray) (w : World) (hs : s.size ≤ 140737488351232) :
   Calls Tryz.prog 66 #[.string s] w fun e w' => e = .returned (.string ⟨(lowerL s.data.toList).toArray⟩) ∧ Below w.heap.size w w' := by
  have hconv := fun W : World => Lib.run_convert_string_bytes (P := Tryz.prog) W 9 51 5 s Tryz.underlying9 Tryz.underlying51 Tryz.underlying5
  go_enter Tryz.func66, Tryz.ntmps66
  go_wp2
  have hR := Row8.made w 5 s
  have hB := below_bytes (Below.refl w.heap.size w) (Nat.le_refl _) 5 s
  have hsz := Lib.bytesWorld_size w 5 s
  generalize Lib.bytesWorld w 5 s = W1 at hR hB hsz ⊢
  have hgl : w.heap.size < W1.heap.size := by omega
  clear hsz hconv
  have hn : s.data.toList.length = s.size := by simp
  have HN := Lib.hid hn; clear hn
  obtain ⟨l, hl⟩ : ∃ l, l = s.data.toList := ⟨_, rfl⟩
  have HL := Lib.hid hl; clear hl
  have HR := Lib.hid hR; clear hR
  have HB := Lib.hid hB; clear hB
  obtain ⟨g, hg⟩ : ∃ g, g = w.heap.size := ⟨_, rfl⟩
  rw [← hg]
  have HG := Lib.hid hg; clear hg
  go_loopg [10] s.size (fun q v wr => ∃ k : Nat, v = .int .i64 k ∧ k ≤ s.size ∧ q = s.size - k ∧ Row8 wr g (mixL l k) ∧ Only g W1 wr)
  case atStart => exact ⟨0, rfl, by omega, rfl, by rw [HG.out, HL.out]; simpa [mixL] using HR.out, Only.refl _ _⟩
  case round =>
    obtain ⟨k, rfl, hk, hq, hrow, ho⟩ := hrel
    have H1 := Lib.hid hq; clear hq
    have H3 := Lib.hid ho; clear ho
    by_cases hlt : k < s.size
    · have hlk : k < l.length := by rw [HL.out, HN.out]; exact hlt
      have hc := hrow.cell (mix_at l k hlk)
      have hf := hrow.free (j := k) (by rw [mix_len l k (by omega)]; exact hlk)
      have H2 := Lib.hid hrow; clear hrow
      have ht := low_test l[k]
      have hor := low_or l[k]
      have hb := UInt8.toNat_lt l[k]
      have HT := Lib.hid ht; clear ht
      have HO := Lib.hid hor; clear hor
      cases hd : decide (((((l[k]).toNat : Nat) : Int) - 65) % 256 < 26)
      · go_wp2
        go_roundg (s.size - (k+1))
        case measure => have := H1.out; omega
        case rel =>
          refine ⟨k+1, by go_num, by omega, rfl, ?_, H3.out⟩
          rw [← mix_keep l k hlk ?_]
          · exact H2.out
          · have e := HT.out
            rw [hd] at e
            unfold lowerB; rw [if_neg (of_decide_eq_false e.symm)]
      · go_wp2
        go_roundg (s.size - (k+1))
        case measure => have := H1.out; omega
        case rel =>
          refine ⟨k+1, by go_num, by omega, rfl, ?_, Only.setCell H3.out _ _⟩
          rw [← mix_set l k hlk]
          refine H2.out.set k (by rw [mix_len l k (by omega)]; exact hlk) _ _ ?_
          have e := HT.out
          rw [hd] at e
          rw [HO.out]; unfold lowerB; rw [if_pos (of_decide_eq_true e.symm)]
    · have hc := run_convert_bytes_back (P := Tryz.prog) wr 51 9 5 ⟨g, 0, none⟩ (grownCap w s.size 0 5) (mixL l k) Tryz.underlying51 Tryz.underlying5 Tryz.underlying9 (fun j hj => by
        have := hrow.cell (List.getElem?_eq_getElem hj)
        rw [add_plain']; exact this)
      rw [mix_len l k (by rw [HL.out, HN.out]; exact hk), mix_all l k (by rw [HL.out, HN.out]; omega)] at hc
      have hc' : (convert 51 9 (.slice (some ⟨g, 0, none⟩) s.size (grownCap w s.size 0 5))).run Tryz.prog wr = .ok (.string ⟨(lowerL l).toArray⟩) wr := by
        rw [← hc, HL.out, HN.out]
      clear hc hrow
      go_wp2
      go_ret
      refine ⟨by rw [HL.out]; rfl, below_only HB.out H3.out (by rw [HG.out]; exact Nat.le_refl _) (by omega)⟩
end Go.Proofs.YtodoejfkjimeaaaGreatDoor

set_option linter.unusedSimpArgs false
set_option linter.unusedVariables false
namespace Go.Proofs.YtodoejfkjimeaaaGreatDoor
open Go.RowKit Go.Shelf
def sh144_ren : Go.Shelf.Ren := ⟨fun | 143 => 85 | 144 => 67 | 217 => 97 | 219 => 93 | 224 => 99 | 225 => 98 | 266 => 104 | 267 => 100 | 314 => 105 | n => n, fun | 3 => 3 | 4 => 4 | 5 => 5 | 9 => 9 | 46 => 140 | 51 => 145 | 146 => 146 | n => n, fun | 1 => 0 | n => n⟩
theorem sh144 : Go.Proofs.Lays.n144 Tryz.prog sh144_ren := {
  mixed := by kernel_rfl
  f143 := Tryz.func85.trans (congrArg some (by kernel_rfl))
  f144 := Tryz.func67.trans (congrArg some (by kernel_rfl))
  f217 := Tryz.func97.trans (congrArg some (by kernel_rfl))
  f219 := Tryz.func93.trans (congrArg some (by kernel_rfl))
  f224 := Tryz.func99.trans (congrArg some (by kernel_rfl))
  f225 := Tryz.func98.trans (congrArg some (by kernel_rfl))
  f266 := Tryz.func104.trans (congrArg some (by kernel_rfl))
  f267 := Tryz.func100.trans (congrArg some (by kernel_rfl))
  f314 := Tryz.func105.trans (congrArg some (by kernel_rfl))
  t3 := Tryz.underlying3
  a3 := Tryz.isAgg3
  z3 := Tryz.sizeOf3
  v3 := Tryz.zeroValue3
  t4 := Tryz.underlying4
  a4 := Tryz.isAgg4
  z4 := Tryz.sizeOf4
  v4 := Tryz.zeroValue4
  t5 := Tryz.underlying5
  a5 := Tryz.isAgg5
  z5 := Tryz.sizeOf5
  v5 := Tryz.zeroValue5
  t9 := Tryz.underlying9
  a9 := Tryz.isAgg9
  z9 := Tryz.sizeOf9
  v9 := Tryz.zeroValue9
  t46 := Tryz.underlying140
  a46 := Tryz.isAgg140
  z46 := Tryz.sizeOf140
  v46 := Tryz.zeroValue140
  t51 := Tryz.underlying145
  a51 := Tryz.isAgg145
  z51 := Tryz.sizeOf145
  v51 := Tryz.zeroValue145
  t146 := Tryz.underlying146
  a146 := Tryz.isAgg146
  z146 := Tryz.sizeOf146
  v146 := Tryz.zeroValue146
  g1 := by kernel_rfl }
theorem sh_Contains_one (s : ByteArray) (c : UInt8) (w : World) :
    Calls Tryz.prog 67 #[.string s, .string ⟨#[c]⟩] w fun e w' => e = .returned (.bool (decide (0 ≤ Lib.indexByte s.data.toList c))) ∧ w' = w := Any.strings_Contains_one sh144 s c w
theorem sh_Contains (s sub : ByteArray) (m : Int) (w : World) (hs : s.size < 4294967281) (hm : w.cell? ⟨0, 0, none⟩ = some (.int .i64 m)) :
    Calls Tryz.prog 67 #[.string s, .string sub] w fun e w' => e = .returned (.bool (Lib.contains s.data.toList sub.data.toList)) ∧ w' = w := Any.strings_Contains sh144 s sub m w hs hm
theorem sh_MaxLen {w : World} (h : w.ShapedOpen Tryz.prog) : ∃ m, w.cell? ⟨0, 0, none⟩ = some (.int .i64 m) :=
  Go.Proofs.cell_of_shapedOpen_int (zero := #[.int .i64 0]) (t := 3) h (of_decide_eq_true (by kernel_rfl)) (by kernel_rfl) rfl (by kernel_rfl) (by kernel_rfl) Tryz.underlying3
end Go.Proofs.YtodoejfkjimeaaaGreatDoor

set_option linter.unusedSimpArgs false
set_option linter.unusedVariables false
namespace Go.Proofs.YtodoejfkjimeaaaGreatDoor
open Go.RowKit

def kwAll : List UInt8 := [32, 99, 114, 101, 97, 116, 101, 32, 116, 97, 98, 108, 101, 32, 105, 110, 100, 101, 120, 32, 111, 110, 32, 100, 114, 111, 112, 32, 105, 110, 115, 101, 114, 116, 32, 105, 110, 116, 111, 32, 118, 97, 108, 117, 101, 115, 32, 117, 112, 100, 97, 116, 101, 32, 115, 101, 116, 32, 100, 101, 108, 101, 116, 101, 32, 102, 114, 111, 109, 32, 119, 104, 101, 114, 101, 32, 115, 101, 108, 101, 99, 116, 32, 106, 111, 105, 110, 32, 103, 114, 111, 117, 112, 32, 98, 121, 32, 111, 114, 100, 101, 114, 32, 100, 101, 115, 99, 32, 108, 105, 109, 105, 116, 32, 98, 101, 103, 105, 110, 32, 99, 111, 109, 109, 105, 116, 32, 114, 111, 108, 108, 98, 97, 99, 107, 32, 112, 114, 105, 109, 97, 114, 121, 32, 107, 101, 121, 32, 110, 111, 116, 32, 110, 117, 108, 108, 32, 105, 115, 32, 97, 110, 100, 32, 111, 114, 32, 116, 114, 117, 101, 32, 102, 97, 108, 115, 101, 32, 105, 110, 116, 32, 98, 111, 111, 108, 32, 116, 101, 120, 116, 32, 99, 111, 117, 110, 116, 32, 115, 117, 109, 32, 109, 105, 110, 32, 109, 97, 120, 32]
def kwL (l : List UInt8) : Bool := (lowerL l != []) && ((!decide (0 ≤ Lib.indexByte (lowerL l) 32)) && Lib.contains kwAll (32 :: (lowerL l ++ [32])))

set_option maxRecDepth 100000 in
set_option maxHeartbeats 1000000 in
theorem keyword_is (s : ByteArray) (m : Int) (w : World) (hs : s.size ≤ 140737488351232) (hm : w.cell? ⟨0, 0, none⟩ = some (.int .i64 m)) :
    Calls Tryz.prog 32 #[.string s] w fun e w' => e = .returned (.bool (kwL s.data.toList)) ∧ Below w.heap.size w w' := by
  have hlo := fun w => lower_is s w hs
  have hlen : (lowerL s.data.toList).length ≤ 140737488351232 := by simpa [lowerL] using hs
  have hk : kwL s.data.toList = ((lowerL s.data.toList != []) && ((!decide (0 ≤ Lib.indexByte (lowerL s.data.toList) 32)) && Lib.contains kwAll (32 :: (lowerL s.data.toList ++ [32])))) := rfl
  generalize kwL s.data.toList = k at hk ⊢
  generalize lowerL s.data.toList = a at hk hlo hlen
  have HK := Lib.hid hk; clear hk
  have HLO := Lib.hid hlo; clear hlo
  go_enter Tryz.func32, Tryz.ntmps32
  go_wp2_with fail
  refine (HLO.out _).mono ?_
  rintro e w1 ⟨rfl, hB⟩
  have hm1 : w1.cell? ⟨0, 0, none⟩ = some (.int .i64 m) := cell_later hB hm
  have HB := Lib.hid hB; clear hB
  have HM := Lib.hid hm1; clear hm1 hm
  cases a with
  | nil =>
    go_wp2
    go_ret
    exact ⟨by rw [HK.out]; rfl, HB.out⟩
  | cons c a =>
    rw [List.length_cons] at hlen
    have hsub : ((⟨#[32]⟩ : ByteArray) ++ ⟨(c :: a).toArray⟩ ++ ⟨#[32]⟩) = ⟨(32 :: ((c :: a) ++ [32])).toArray⟩ := by
      apply bytes_ext; simp only [data_append']; simp
    have HSUB := Lib.hid hsub; clear hsub
    cases h1 : decide (0 ≤ Lib.indexByte (c :: a) 32) with
    | true =>
      go_wp2_with (go_at_call 67; refine (sh_Contains_one _ _ _).mono ?_; rintro e w' ⟨rfl, rfl⟩)
      go_ret
      exact ⟨by rw [HK.out, h1]; rfl, HB.out⟩
    | false =>
      go_wp2_with fail
      refine (sh_Contains_one _ _ _).mono ?_
      rintro e w' ⟨rfl, rfl⟩
      go_wp2_with fail
      rw [HSUB.out]
      refine (sh_Contains ⟨kwAll.toArray⟩ _ m _ (of_decide_eq_true (by kernel_rfl)) HM.out).mono ?_
      rintro e w' ⟨rfl, rfl⟩
      go_wp2
      go_ret
      exact ⟨by rw [HK.out, h1]; rfl, HB.out⟩
end Go.Proofs.YtodoejfkjimeaaaGreatDoor

set_option linter.unusedSimpArgs false
set_option linter.unusedVariables false
namespace Go.Proofs.YtodoejfkjimeaaaGreatDoor
open Go.RowKit

theorem cf_go (fid : Nat) (fn : Func) (hf : Tryz.prog.funcs[fid]? = some fn) (hn : (fn.name == "runtime.NumGoroutine") = false) (hb : fn.body.isNone = false) (args : Array Value) (w : World) : (callFunc fid args).run Tryz.prog w = .ok (.enter fid args) w := by
  have hn' : ¬ fn.name = "runtime.NumGoroutine" := by simpa using hn
  have hb' : ¬ fn.body = none := fun h => by simp [h] at hb
  simp [callFunc, hf, hn', hb', go_sem]

def ixL {α : Type} (q : α → Bool) (l : List α) : Int := if l.any q then (l.findIdx q : Nat) else -1
theorem ixL_at {α : Type} (q : α → Bool) (l : List α) (k : Nat) (hk : k < l.length) (h : ∀ j (hj : j < k), q (l[j]'(by omega)) = false) (hq : q l[k] = true) : ixL q l = k := by
  unfold ixL
  rw [if_pos (List.any_eq_true.2 ⟨l[k], List.getElem_mem hk, hq⟩)]
  have : l.findIdx q = k := (List.findIdx_eq hk).2 ⟨hq, fun j hj => h j hj⟩
  rw [this]
theorem ixL_none {α : Type} (q : α → Bool) (l : List α) (h : ∀ j (hj : j < l.length), q l[j] = false) : ixL q l = -1 := by
  unfold ixL
  rw [if_neg]
  intro hc
  obtain ⟨x, hx, hq⟩ := List.any_eq_true.1 hc
  obtain ⟨j, hj, rfl⟩ := List.getElem_of_mem hx
  rw [h j hj] at hq; cases hq
theorem ixL_any {α : Type} (q : α → Bool) (l : List α) : decide (0 ≤ ixL q l) = l.any q := by
  unfold ixL
  cases h : l.any q <;> simp

set_option maxHeartbeats 1000000 in
theorem ixBytes_is (fid : Nat) (hcf : ∀ (args : Array Value) (w : World), (callFunc fid args).run Tryz.prog w = .ok (.enter fid args) w) (q : Int → Bool) (his : ∀ (c : Int) (w : World), 0 ≤ c → c ≤ 255 → Calls Tryz.prog fid #[.int .u8 c] w fun e w' => e = .returned (.bool (q c)) ∧ w' = w)
    (g cap : Nat) (l : List UInt8) (w : World) (hr : Row8 w g l) (hl : l.length ≤ 140737488351232) :
    Calls Tryz.prog 68 #[.slice (some ⟨g, 0, none⟩) l.length cap, .func (.func fid) #[] #[]] w fun e w' => e = .returned (.int .i64 (ixL (by_ q) l)) ∧ Below w.heap.size w w' := by
  have HR := Lib.hid hr; clear hr
  have HS := Lib.hid his; clear his
  go_enter Tryz.func68, Tryz.ntmps68
  go_wp2_with fail
  go_loopg [8] l.length (fun m v wr => ∃ k : Nat, v = .int .i64 k ∧ k ≤ l.length ∧ m = l.length - k ∧ Hid (∀ j (hj : j < l.length), j < k → by_ q l[j] = false) ∧ wr = w)
  case atStart => exact ⟨0, rfl, by omega, rfl, (fun j hj h => absurd h (by omega)), rfl⟩
  case round =>
    obtain ⟨k, rfl, hk, hm, HJ, rfl⟩ := hrel
    have HM := Lib.hid hm; clear hm
    by_cases hlt : k < l.length
    · have hc := HR.out.cell (List.getElem?_eq_getElem hlt)
      have hb := UInt8.toNat_lt l[k]
      have hq : ∀ w, Calls Tryz.prog fid #[.int .u8 (l[k].toNat : Int)] w fun e w' => e = .returned (.bool (by_ q l[k])) ∧ w' = w := fun w => HS.out _ _ (by omega) (by omega)
      have HQ := Lib.hid hq; clear hq
      cases hbq : by_ q l[k] with
      | true =>
        rw [hbq] at HQ
        have hix := ixL_at (by_ q) l k hlt (fun j hj => HJ.out j (by omega) hj) hbq
        have HIX := Lib.hid hix; clear hix hbq
        go_wp2_with fail
        refine (HQ.out _).mono ?_
        rintro e w1 ⟨rfl, rfl⟩
        go_wp2_with fail
        go_ret
        exact ⟨by rw [HIX.out]; rfl, Below.refl _ _⟩
      | false =>
        rw [hbq] at HQ
        have HIX := Lib.hid hbq; clear hbq
        go_wp2_with fail
        refine (HQ.out _).mono ?_
        rintro e w1 ⟨rfl, rfl⟩
        go_wp2_with fail
        go_roundg (l.length - (k+1))
        case measure => have := HM.out; omega
        case rel =>
          refine ⟨k+1, by go_num, by omega, rfl, ?_, rfl⟩
          intro j hj h
          by_cases e : j = k
          · subst e; exact HIX.out
          · exact HJ.out j hj (by omega)
    · have hix := ixL_none (by_ q) l (fun j hj => HJ.out j hj (by omega))
      have HIX := Lib.hid hix; clear hix
      go_wp2_with fail
      go_ret
      exact ⟨by rw [HIX.out]; rfl, Below.refl _ _⟩

theorem cfBytes_is (fid : Nat) (hcf : ∀ (args : Array Value) (w : World), (callFunc fid args).run Tryz.prog w = .ok (.enter fid args) w) (q : Int → Bool) (his : ∀ (c : Int) (w : World), 0 ≤ c → c ≤ 255 → Calls Tryz.prog fid #[.int .u8 c] w fun e w' => e = .returned (.bool (q c)) ∧ w' = w)
    (g cap : Nat) (l : List UInt8) (w : World) (hr : Row8 w g l) (hl : l.length ≤ 140737488351232) :
    Calls Tryz.prog 33 #[.slice (some ⟨g, 0, none⟩) l.length cap, .func (.func fid) #[] #[]] w fun e w' => e = .returned (.bool (l.any (by_ q))) ∧ Below w.heap.size w w' := by
  have h := ixBytes_is fid hcf q his g cap l w hr hl
  have ha := ixL_any (by_ q) l
  generalize ixL (by_ q) l = i at h ha
  have H := Lib.hid h; clear h
  have HA := Lib.hid ha; clear ha
  go_enter Tryz.func33, Tryz.ntmps33
  go_wp2_with fail
  refine H.out.mono ?_
  rintro e w1 ⟨rfl, hB⟩
  have HB := Lib.hid hB; clear hB
  go_wp2_with fail
  go_ret
  exact ⟨by rw [← HA.out]; rfl, HB.out⟩

def noName (c : Int) : Bool := !((97 ≤ c && c ≤ 122) || (48 ≤ c && c ≤ 57) || c == 95)
theorem noName_fact : ∀ n : Fin 256, (!decide ((((n.val : Nat) : Int) - 97) % 256 < 26) && (!decide ((((n.val : Nat) : Int) - 48) % 256 < 10) && !(((n.val : Nat) : Int) == 95))) = noName (n.val : Nat) := by decide +kernel
theorem noName_is (c : Int) (w : World) (h0 : 0 ≤ c) (h1 : c ≤ 255) : Calls Tryz.prog 34 #[.int .u8 c] w fun e w' => e = .returned (.bool (noName c)) ∧ w' = w := by
  have hf : (!decide ((c - 97) % 256 < 26) && (!decide ((c - 48) % 256 < 10) && !(c == 95))) = noName c := by
    have := noName_fact ⟨c.toNat, by omega⟩
    simpa [show ((c.toNat : Nat) : Int) = c by omega] using this
  have HF := Lib.hid hf; clear hf
  by_cases h1 : (c - 97) % 256 < 26
  · go_enter Tryz.func34, Tryz.ntmps34
    go_wp2_with fail
    go_ret
    rw [← HF.out]
    exact ⟨by simp [h1], rfl⟩
  · by_cases h2 : (c - 48) % 256 < 10
    · go_enter Tryz.func34, Tryz.ntmps34
      go_wp2_with fail
      go_ret
      rw [← HF.out]
      exact ⟨by simp [h2], rfl⟩
    · go_enter Tryz.func34, Tryz.ntmps34
      go_wp2_with fail
      go_ret
      rw [← HF.out]
      exact ⟨by simp [show ¬ (c - 97) % 256 < 26 by omega, show ¬ (c - 48) % 256 < 10 by omega, bne], rfl⟩

def nameL (l : List UInt8) : Bool :=
  match l with
  | [] => false
  | c :: r => decide ((c :: r).length ≤ 16) && !(decide (48 ≤ c.toNat ∧ c.toNat ≤ 57)) && !(kwL (c :: r)) && !((c :: r).any (by_ noName))

set_option maxRecDepth 100000 in
set_option maxHeartbeats 1000000 in
theorem nameL_is (l : List UInt8) (m : Int) (w : World) (hl : l.length ≤ 140737488351232) (hm : w.cell? ⟨0, 0, none⟩ = some (.int .i64 m)) :
    Calls Tryz.prog 10 #[.string ⟨l.toArray⟩] w fun e w' => e = .returned (.bool (nameL l)) ∧ Below w.heap.size w w' := by
  have hkw := fun w => keyword_is ⟨l.toArray⟩ m w (by rw [size_mk]; exact hl)
  rw [show (⟨l.toArray⟩ : ByteArray).data.toList = l from rfl] at hkw
  have HKW := Lib.hid hkw; clear hkw
  have HM := Lib.hid hm; clear hm
  cases l with
  | nil =>
    go_enter Tryz.func10, Tryz.ntmps10
    go_wp2_with fail
    go_ret
    exact ⟨rfl, Below.refl _ _⟩
  | cons c r =>
    rw [List.length_cons] at hl
    have hcb := UInt8.toNat_lt c
    have hix : (⟨(c :: r).toArray⟩ : ByteArray)[0]'(Nat.succ_pos _) = c := rfl
    by_cases h16 : 16 < r.length + 1
    · have hN : nameL (c :: r) = false := by unfold nameL; simp only [List.length_cons]; rw [decide_eq_false (by omega)]; rfl
      have HN := Lib.hid hN; clear hN
      go_enter Tryz.func10, Tryz.ntmps10
      go_wp2_with fail
      go_ret
      exact ⟨by rw [HN.out]; rfl, Below.refl _ _⟩
    · by_cases hd : 48 ≤ c.toNat ∧ c.toNat ≤ 57
      · have hN : nameL (c :: r) = false := by unfold nameL; simp [hd.1, hd.2]
        have HN := Lib.hid hN; clear hN
        obtain ⟨hd1, hd2⟩ := hd
        go_enter Tryz.func10, Tryz.ntmps10
        go_wp2_with fail
        go_ret
        exact ⟨by rw [HN.out]; rfl, Below.refl _ _⟩
      · have hdd : ¬ ((c.toNat : Int) - 48) % 256 < 10 := by omega
        have HD := Lib.hid hd; clear hd
        cases hk : kwL (c :: r) with
        | true =>
          have hN : nameL (c :: r) = false := by unfold nameL; simp [hk]
          have HN := Lib.hid hN; clear hN
          rw [hk] at HKW
          clear hk
          go_enter Tryz.func10, Tryz.ntmps10
          go_wp2_with fail
          refine (HKW.out _ HM.out).mono ?_
          rintro e w1 ⟨rfl, hB⟩
          have HB := Lib.hid hB; clear hB
          go_wp2_with fail
          go_ret
          exact ⟨by rw [HN.out]; rfl, HB.out⟩
        | false =>
          have hN : nameL (c :: r) = !((c :: r).any (by_ noName)) := by
            unfold nameL; simp only; rw [hk, decide_eq_true (by simp; omega), decide_eq_false HD.out]; simp
          have HN := Lib.hid hN; clear hN
          rw [hk] at HKW
          clear hk
          have hconv := fun W : World => Lib.run_convert_string_bytes (P := Tryz.prog) W 9 51 5 ⟨(c :: r).toArray⟩ Tryz.underlying9 Tryz.underlying51 Tryz.underlying5
          go_enter Tryz.func10, Tryz.ntmps10
          go_wp2_with fail
          refine (HKW.out _ HM.out).mono ?_
          rintro e w1 ⟨rfl, hB⟩
          have HB := Lib.hid hB; clear hB
          go_wp2_with fail
          have hR := Row8.made w1 5 ⟨(c :: r).toArray⟩
          have hB2 := below_bytes (Below.refl w1.heap.size w1) (Nat.le_refl _) 5 ⟨(c :: r).toArray⟩
          rw [show (⟨(c :: r).toArray⟩ : ByteArray).data.toList = c :: r from rfl] at hR
          have hsz := Lib.bytesWorld_size w1 5 ⟨(c :: r).toArray⟩
          refine (cfBytes_is _ (cf_go _ _ Tryz.func34 (by kernel_rfl) (by kernel_rfl)) noName (fun c w h0 h1 => noName_is c w h0 h1) w1.heap.size _ (c :: r) _ hR (by simp; omega)).mono ?_
          rintro e w2 ⟨rfl, hB3⟩
          have HB3 := Lib.hid (HB.out.trans ((hB2.trans (hB3.mono hB2.size)).mono HB.out.size)); clear hB2 hB3 hR hsz hconv
          go_wp2_with fail
          go_ret
          exact ⟨by rw [HN.out]; simp, HB3.out⟩

theorem name_is (s : ByteArray) (m : Int) (w : World) (hs : s.size ≤ 140737488351232) (hm : w.cell? ⟨0, 0, none⟩ = some (.int .i64 m)) :
    Calls Tryz.prog 10 #[.string s] w fun e w' => e = .returned (.bool (nameL s.data.toList)) ∧ Below w.heap.size w w' :=
  nameL_is s.data.toList m w (by simpa using hs) hm
end Go.Proofs.YtodoejfkjimeaaaGreatDoor
