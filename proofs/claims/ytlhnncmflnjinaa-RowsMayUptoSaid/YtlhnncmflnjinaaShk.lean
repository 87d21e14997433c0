/- The shelf's contracts of strings.Contains at this seat's own numbers. -/
import Derived.Shelf.Strings.Search3
import Derived.Shelf.Vars
import Derived.Test.YtlhnncmflnjinaaProg
import Derived.Test.YtlhnncmflnjinaaBase
set_option linter.unusedSimpArgs false
set_option linter.unusedVariables false
namespace Go.Proofs.Ytlhnncmflnjinaa
open Go.RowKit Go.Shelf
def sh144_ren : Go.Shelf.Ren := ⟨fun | 143 => 182 | 144 => 178 | 217 => 185 | 219 => 184 | 224 => 187 | 225 => 186 | 266 => 189 | 267 => 188 | 314 => 190 | n => n, fun | 3 => 3 | 4 => 4 | 5 => 5 | 9 => 9 | 46 => 190 | 51 => 235 | 146 => 236 | n => n, fun | 1 => 0 | n => n⟩
theorem sh144 : Go.Proofs.Lays.n144 Try.prog sh144_ren := {
  mixed := by kernel_rfl
  f143 := Try.func182.trans (congrArg some (by kernel_rfl))
  f144 := Try.func178.trans (congrArg some (by kernel_rfl))
  f217 := Try.func185.trans (congrArg some (by kernel_rfl))
  f219 := Try.func184.trans (congrArg some (by kernel_rfl))
  f224 := Try.func187.trans (congrArg some (by kernel_rfl))
  f225 := Try.func186.trans (congrArg some (by kernel_rfl))
  f266 := Try.func189.trans (congrArg some (by kernel_rfl))
  f267 := Try.func188.trans (congrArg some (by kernel_rfl))
  f314 := Try.func190.trans (congrArg some (by kernel_rfl))
  t3 := Try.underlying3
  a3 := Try.isAgg3
  z3 := Try.sizeOf3
  v3 := Try.zeroValue3
  t4 := Try.underlying4
  a4 := Try.isAgg4
  z4 := Try.sizeOf4
  v4 := Try.zeroValue4
  t5 := Try.underlying5
  a5 := Try.isAgg5
  z5 := Try.sizeOf5
  v5 := Try.zeroValue5
  t9 := Try.underlying9
  a9 := Try.isAgg9
  z9 := Try.sizeOf9
  v9 := Try.zeroValue9
  t46 := Try.underlying190
  a46 := Try.isAgg190
  z46 := Try.sizeOf190
  v46 := Try.zeroValue190
  t51 := Try.underlying235
  a51 := Try.isAgg235
  z51 := Try.sizeOf235
  v51 := Try.zeroValue235
  t146 := Try.underlying236
  a146 := Try.isAgg236
  z146 := Try.sizeOf236
  v146 := Try.zeroValue236
  g1 := by kernel_rfl }
theorem sh_Contains_one (s : ByteArray) (c : UInt8) (w : World) :
    Calls Try.prog 178 #[.string s, .string ⟨#[c]⟩] w fun e w' => e = .returned (.bool (decide (0 ≤ Lib.indexByte s.data.toList c))) ∧ w' = w := Any.strings_Contains_one sh144 s c w
theorem sh_Contains (s sub : ByteArray) (m : Int) (w : World) (hs : s.size < 4294967281) (hm : w.cell? ⟨0, 0, none⟩ = some (.int .i64 m)) :
    Calls Try.prog 178 #[.string s, .string sub] w fun e w' => e = .returned (.bool (Lib.contains s.data.toList sub.data.toList)) ∧ w' = w := Any.strings_Contains sh144 s sub m w hs hm
/-- what the world's shape tells of the length up to which the machine searches by itself -/
theorem sh_MaxLen {w : World} (h : w.ShapedOpen Try.prog) : ∃ m, w.cell? ⟨0, 0, none⟩ = some (.int .i64 m) :=
  Go.Proofs.cell_of_shapedOpen_int (zero := #[.int .i64 0]) (t := 3) h (of_decide_eq_true (by kernel_rfl)) (by kernel_rfl) rfl (by kernel_rfl) (by kernel_rfl) Try.underlying3
end Go.Proofs.Ytlhnncmflnjinaa
