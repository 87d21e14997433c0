/- strings.Builder, in short words. -/
import Derived.Test.YtamlgkikjajcpaaBase
import Derived.Test.YtamlgkikjajcpaaShb
namespace Go.Proofs.Ytamlgkikjajcpaa
open Go.RowKit

abbrev BLT : Nat := 53
abbrev U8T : Nat := 5
/-- the builder in block b holds the bytes l; all that it owns lies from block B on -/
def Bld (w : World) (B b : Nat) (l : List UInt8) : Prop := Lib.IsBuilderF BLT U8T B b (Lib.byteCells l) w

theorem Bld.only {w w' : World} {B b g : Nat} {l : List UInt8} (h : Bld w B b l) (ho : Only g w w') (hg : g < B) : Bld w' B b l := by
  have key : ∀ p bs, Lib.BuilderAtF BLT U8T B b p bs w → Lib.BuilderAtF BLT U8T B b p bs w' := by
    rintro p bs ⟨hB, v, hb, hown, hne⟩
    have hlt : b < w.heap.size := (Array.getElem?_eq_some_iff.1 hb).1
    refine ⟨hB, v, (ho.block b hlt (by omega)).trans hb, ⟨hown.1, ?_⟩, hne⟩
    rcases hown.2 with h | ⟨g', cap, cur, fz, hv, hg', hh, rest⟩
    · exact .inl h
    · have hlt' : g' < w.heap.size := (Array.getElem?_eq_some_iff.1 hh).1
      exact .inr ⟨g', cap, cur, fz, hv, hg', (ho.block g' hlt' (by omega)).trans hh, rest⟩
  rcases h with h | h
  · exact .inl (key _ _ h)
  · exact .inr (key _ _ h)
theorem Bld.fresh (w : World) : Bld (w.alloc (.cells #[.pointer none, .slice none 0 0] BLT)) w.heap.size w.heap.size [] := Lib.IsBuilderF.of (Lib.fresh_isBuilder _ _ w)
theorem Bld.drewN {w : World} {B b : Nat} {l : List UInt8} (h : Bld w B b l) (n : Nat) : Bld (w.drewN n) B b l := h

theorem bld_str (B b : Nat) (l : List UInt8) (s : ByteArray) (w : World) (h : Bld w B b l) (hlen : l.length + s.size ≤ 140737488355328) (hB : B ≤ w.heap.size) :
    Calls Try.prog 29 #[.pointer (some ⟨b, 0, none⟩), .string s] w fun e w' => e = .returned (.tuple #[.int .i64 s.size, .nilIface]) ∧ Bld w' B b (l ++ s.data.toList) ∧ Below B w w' :=
  (sh_WriteString B b _ s w h (by rw [Lib.byteCells_length]; exact hlen) hB).mono fun e w' ⟨h1, h2, h3, _⟩ => ⟨h1, .inr (by
    have e : Lib.byteCells (l ++ s.data.toList) = Lib.byteCells l ++ Lib.strCells s := by simp [Lib.byteCells, Lib.strCells]
    rw [e]; exact h2), h3⟩
theorem bld_byte (B b : Nat) (l : List UInt8) (c : UInt8) (n : Int) (hn : n = c.toNat) (w : World) (h : Bld w B b l) (hlen : l.length + 1 ≤ 140737488355328) (hB : B ≤ w.heap.size) :
    Calls Try.prog 33 #[.pointer (some ⟨b, 0, none⟩), .int .u8 n] w fun e w' => e = .returned .nilIface ∧ Bld w' B b (l ++ [c]) ∧ Below B w w' := by
  subst hn
  exact (sh_WriteByte B b _ _ w h (by rw [Lib.byteCells_length]; exact hlen) hB).mono fun e w' ⟨h1, h2, h3, _⟩ => ⟨h1, .inr (by
    have e : Lib.byteCells (l ++ [c]) = Lib.byteCells l ++ [.int .u8 c.toNat] := by simp [Lib.byteCells]
    rw [e]; exact h2), h3⟩
theorem bld_string (B b : Nat) (l : List UInt8) (w : World) (h : Bld w B b l) (hB : B ≤ w.heap.size) :
    Calls Try.prog 31 #[.pointer (some ⟨b, 0, none⟩)] w fun e w' => e = .returned (.string ⟨l.toArray⟩) ∧ Bld w' B b l ∧ Below B w w' :=
  (sh_String B b l w h hB).mono fun _ _ ⟨h1, h2, h3, _⟩ => ⟨h1, h2, h3⟩
theorem bld_len (B b : Nat) (l : List UInt8) (w : World) (h : Bld w B b l) :
    Calls Try.prog 32 #[.pointer (some ⟨b, 0, none⟩)] w fun e w' => e = .returned (.int .i64 l.length) ∧ w' = w :=
  (sh_Len B b _ w h).mono fun e w' ⟨h1, h2⟩ => ⟨by rw [Lib.byteCells_length] at h1; exact h1, h2⟩
end Go.Proofs.Ytamlgkikjajcpaa
