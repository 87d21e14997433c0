/-
  NARROWER THAN 'FOR EVERY INPUT', by the rows' own cells (each row's printed sentence says how): CheckExprs: loops · CheckBare: loops · CheckKinds: loops · CheckTables: loops · CatalogOwn: loops · CatalogNames: loops · CatalogMay: loops.
  DERIVED. THE GIVEN ROWS OF THIS SEAT. 10 by the template 'for every input the law returns true; each argument reads behind the call as it read before'; 0 by the template 'total and deterministic' (their statements: YtlhnncmflnjinaaTotals.lean).
  GIVEN WITH THE SEED: the statements are not yours to turn. If you find one false, say at which input.
  Laid BY PROGRAM, IN A SANDBOX (cutbox-rows.mjs): the forced cells as the released guide's own fill.sh prints them over the translation 5870bdb2373d975b… (all of the seat's roots in one cut). By AI agents, Wed Nov 11 2026. No macro, syntax, notation, axiom, sorry.
-/
import Derived.Test.YtlhnncmflnjinaaChecked
import GoSem.Claim
import GoSem.ClaimJoined
import GoSem.ClaimMapViews
import Derived.JoinedTies
import Derived.KernelRfl
namespace Go.Proofs.Ytlhnncmflnjinaa
/- THE CELL 'sum', in the pinned program and in every row, IS THE sha256 OF THE DUMP (.gsa) THAT YtlhnncmflnjinaaProg.lean LOADS. Nothing in Lean hashes anything: it is a label: what it is worth is what the hold of that sum in a sandbox is worth. -/
noncomputable def Try.pinned : Pinned := { name := "ytlhnncmflnjinaa", sum := "5870bdb2373d975b85c88f6c9c78072fa76661a91016020b9c6baef8bf566e0b", checked := Try.checked }
namespace Rows
def none {H : Type} : Left H := { results := [], args := [] }

/-- 'switchbacklaw07.CheckExprs': WHATEVER THE INPUT: true; the input reads as it did. -/
def checkExprsSpec : ChangeSpec := { name := "checkExprs", fn := fun _ => fun
  | [d1, d2, d3] => { results := [.lit (.bool true)], args := [d1, d2, d3] }
  | _ => none }
def checkExprsRow : OpenClaim := { program := "ytlhnncmflnjinaa", sum := "5870bdb2373d975b85c88f6c9c78072fa76661a91016020b9c6baef8bf566e0b", func := "switchback/switchbacklaw07.CheckExprs", spec := "checkExprs", inPlace := ["internal/bytealg.IndexByteString", "internal/bytealg.IndexString"], unfollowed := true, recurses := true, named := ["internal/bytealg.MaxLen"], loops := true, apart := false }
def CheckExprsSaid : Prop := checkExprsRow.holds Try.pinned (OpenSpec.ofChange checkExprsSpec)

/-- ITS FALSE NEIGHBOUR: 'it returns false'. Refute it at one input. -/
def checkExprsWrong : ChangeSpec := { name := "checkExprs", fn := fun _ => fun
  | [d1, d2, d3] => { results := [.lit (.bool false)], args := [d1, d2, d3] }
  | _ => none }
def CheckExprsWrongFalsely : Prop := checkExprsRow.holds Try.pinned (OpenSpec.ofChange checkExprsWrong)

/-- 'switchbacklaw07.CheckBare': WHATEVER THE INPUT: true; the input reads as it did. -/
def checkBareSpec : ChangeSpec := { name := "checkBare", fn := fun _ => fun
  | [d1, d2, d3] => { results := [.lit (.bool true)], args := [d1, d2, d3] }
  | _ => none }
def checkBareRow : OpenClaim := { program := "ytlhnncmflnjinaa", sum := "5870bdb2373d975b85c88f6c9c78072fa76661a91016020b9c6baef8bf566e0b", func := "switchback/switchbacklaw07.CheckBare", spec := "checkBare", inPlace := ["internal/bytealg.IndexByteString", "internal/bytealg.IndexString"], unfollowed := true, recurses := true, named := ["internal/bytealg.MaxLen"], loops := true, apart := false }
def CheckBareSaid : Prop := checkBareRow.holds Try.pinned (OpenSpec.ofChange checkBareSpec)

/-- ITS FALSE NEIGHBOUR: 'it returns false'. Refute it at one input. -/
def checkBareWrong : ChangeSpec := { name := "checkBare", fn := fun _ => fun
  | [d1, d2, d3] => { results := [.lit (.bool false)], args := [d1, d2, d3] }
  | _ => none }
def CheckBareWrongFalsely : Prop := checkBareRow.holds Try.pinned (OpenSpec.ofChange checkBareWrong)

/-- 'switchbacklaw07.CheckKinds': WHATEVER THE INPUT: true; the input reads as it did. -/
def checkKindsSpec : ChangeSpec := { name := "checkKinds", fn := fun _ => fun
  | [d1, d2] => { results := [.lit (.bool true)], args := [d1, d2] }
  | _ => none }
def checkKindsRow : OpenClaim := { program := "ytlhnncmflnjinaa", sum := "5870bdb2373d975b85c88f6c9c78072fa76661a91016020b9c6baef8bf566e0b", func := "switchback/switchbacklaw07.CheckKinds", spec := "checkKinds", inPlace := ["internal/bytealg.IndexByteString", "internal/bytealg.IndexString"], unfollowed := true, recurses := true, named := ["internal/bytealg.MaxLen"], loops := true, apart := false }
def CheckKindsSaid : Prop := checkKindsRow.holds Try.pinned (OpenSpec.ofChange checkKindsSpec)

/-- ITS FALSE NEIGHBOUR: 'it returns false'. Refute it at one input. -/
def checkKindsWrong : ChangeSpec := { name := "checkKinds", fn := fun _ => fun
  | [d1, d2] => { results := [.lit (.bool false)], args := [d1, d2] }
  | _ => none }
def CheckKindsWrongFalsely : Prop := checkKindsRow.holds Try.pinned (OpenSpec.ofChange checkKindsWrong)

/-- 'switchbacklaw07.CheckTables': WHATEVER THE INPUT: true; the input reads as it did. -/
def checkTablesSpec : ChangeSpec := { name := "checkTables", fn := fun _ => fun
  | [d1, d2] => { results := [.lit (.bool true)], args := [d1, d2] }
  | _ => none }
def checkTablesRow : OpenClaim := { program := "ytlhnncmflnjinaa", sum := "5870bdb2373d975b85c88f6c9c78072fa76661a91016020b9c6baef8bf566e0b", func := "switchback/switchbacklaw07.CheckTables", spec := "checkTables", inPlace := ["internal/bytealg.IndexByteString", "internal/bytealg.IndexString", "slices.overlaps[switchback/catalog.Table]"], unfollowed := true, recurses := true, named := ["internal/bytealg.MaxLen"], loops := true, apart := false }
def CheckTablesSaid : Prop := checkTablesRow.holds Try.pinned (OpenSpec.ofChange checkTablesSpec)

/-- ITS FALSE NEIGHBOUR: 'it returns false'. Refute it at one input. -/
def checkTablesWrong : ChangeSpec := { name := "checkTables", fn := fun _ => fun
  | [d1, d2] => { results := [.lit (.bool false)], args := [d1, d2] }
  | _ => none }
def CheckTablesWrongFalsely : Prop := checkTablesRow.holds Try.pinned (OpenSpec.ofChange checkTablesWrong)

/-- 'switchbacklaw09.RowsTwice': WHATEVER THE INPUT: true; the input reads as it did. -/
def rowsTwiceSpec : ChangeSpec := { name := "rowsTwice", fn := fun _ => fun
  | [d1, d2, d3] => { results := [.lit (.bool true)], args := [d1, d2, d3] }
  | _ => none }
def rowsTwiceRow : OpenClaim := { program := "ytlhnncmflnjinaa", sum := "5870bdb2373d975b85c88f6c9c78072fa76661a91016020b9c6baef8bf566e0b", func := "switchback/switchbacklaw09.RowsTwice", spec := "rowsTwice", inPlace := ["slices.overlaps[[]switchback/api.Value]", "internal/bytealg.IndexByteString", "internal/bytealg.IndexString"], unfollowed := true, recurses := true, named := ["internal/bytealg.MaxLen"], apart := false }
def RowsTwiceSaid : Prop := rowsTwiceRow.holds Try.pinned (OpenSpec.ofChange rowsTwiceSpec)

/-- ITS FALSE NEIGHBOUR: 'it returns false'. Refute it at one input. -/
def rowsTwiceWrong : ChangeSpec := { name := "rowsTwice", fn := fun _ => fun
  | [d1, d2, d3] => { results := [.lit (.bool false)], args := [d1, d2, d3] }
  | _ => none }
def RowsTwiceWrongFalsely : Prop := rowsTwiceRow.holds Try.pinned (OpenSpec.ofChange rowsTwiceWrong)

/-- 'switchbacklaw09.RowsMay': WHATEVER THE INPUT: true; the input reads as it did. -/
def rowsMaySpec : ChangeSpec := { name := "rowsMay", fn := fun _ => fun
  | [d1, d2, d3] => { results := [.lit (.bool true)], args := [d1, d2, d3] }
  | _ => none }
def rowsMayRow : OpenClaim := { program := "ytlhnncmflnjinaa", sum := "5870bdb2373d975b85c88f6c9c78072fa76661a91016020b9c6baef8bf566e0b", func := "switchback/switchbacklaw09.RowsMay", spec := "rowsMay", inPlace := ["slices.overlaps[[]switchback/api.Value]", "internal/bytealg.IndexByteString", "internal/bytealg.IndexString"], unfollowed := true, recurses := true, named := ["internal/bytealg.MaxLen"], apart := false }
def RowsMaySaid : Prop := rowsMayRow.holds Try.pinned (OpenSpec.ofChange rowsMaySpec)

/-- ITS FALSE NEIGHBOUR: 'it returns false'. Refute it at one input. -/
def rowsMayWrong : ChangeSpec := { name := "rowsMay", fn := fun _ => fun
  | [d1, d2, d3] => { results := [.lit (.bool false)], args := [d1, d2, d3] }
  | _ => none }
def RowsMayWrongFalsely : Prop := rowsMayRow.holds Try.pinned (OpenSpec.ofChange rowsMayWrong)

/-- 'switchbacklaw06.CatalogOwn': WHATEVER THE INPUT: true; the input reads as it did. -/
def catalogOwnSpec : ChangeSpec := { name := "catalogOwn", fn := fun _ => fun
  | [d1, d2] => { results := [.lit (.bool true)], args := [d1, d2] }
  | _ => none }
def catalogOwnRow : OpenClaim := { program := "ytlhnncmflnjinaa", sum := "5870bdb2373d975b85c88f6c9c78072fa76661a91016020b9c6baef8bf566e0b", func := "switchback/switchbacklaw06.CatalogOwn", spec := "catalogOwn", inPlace := ["internal/bytealg.IndexByteString", "internal/bytealg.IndexString", "slices.overlaps[switchback/catalog.Table]"], unfollowed := true, recurses := true, named := ["internal/bytealg.MaxLen"], loops := true, apart := false }
def CatalogOwnSaid : Prop := catalogOwnRow.holds Try.pinned (OpenSpec.ofChange catalogOwnSpec)

/-- ITS FALSE NEIGHBOUR: 'it returns false'. Refute it at one input. -/
def catalogOwnWrong : ChangeSpec := { name := "catalogOwn", fn := fun _ => fun
  | [d1, d2] => { results := [.lit (.bool false)], args := [d1, d2] }
  | _ => none }
def CatalogOwnWrongFalsely : Prop := catalogOwnRow.holds Try.pinned (OpenSpec.ofChange catalogOwnWrong)

/-- 'switchbacklaw06.CatalogNames': WHATEVER THE INPUT: true; the input reads as it did. -/
def catalogNamesSpec : ChangeSpec := { name := "catalogNames", fn := fun _ => fun
  | [d1, d2, d3] => { results := [.lit (.bool true)], args := [d1, d2, d3] }
  | _ => none }
def catalogNamesRow : OpenClaim := { program := "ytlhnncmflnjinaa", sum := "5870bdb2373d975b85c88f6c9c78072fa76661a91016020b9c6baef8bf566e0b", func := "switchback/switchbacklaw06.CatalogNames", spec := "catalogNames", inPlace := ["internal/bytealg.IndexByteString", "internal/bytealg.IndexString", "slices.overlaps[switchback/catalog.Table]"], unfollowed := true, recurses := true, named := ["internal/bytealg.MaxLen"], loops := true, apart := false }
def CatalogNamesSaid : Prop := catalogNamesRow.holds Try.pinned (OpenSpec.ofChange catalogNamesSpec)

/-- ITS FALSE NEIGHBOUR: 'it returns false'. Refute it at one input. -/
def catalogNamesWrong : ChangeSpec := { name := "catalogNames", fn := fun _ => fun
  | [d1, d2, d3] => { results := [.lit (.bool false)], args := [d1, d2, d3] }
  | _ => none }
def CatalogNamesWrongFalsely : Prop := catalogNamesRow.holds Try.pinned (OpenSpec.ofChange catalogNamesWrong)

/-- 'switchbacklaw06.CatalogBack': WHATEVER THE INPUT: true; the input reads as it did. -/
def catalogBackSpec : ChangeSpec := { name := "catalogBack", fn := fun _ => fun
  | [d] => { results := [.lit (.bool true)], args := [d] }
  | _ => none }
def catalogBackRow : OpenClaim := { program := "ytlhnncmflnjinaa", sum := "5870bdb2373d975b85c88f6c9c78072fa76661a91016020b9c6baef8bf566e0b", func := "switchback/switchbacklaw06.CatalogBack", spec := "catalogBack", inPlace := ["internal/bytealg.IndexByteString", "internal/bytealg.IndexString", "slices.overlaps[switchback/catalog.Table]"], unfollowed := true, recurses := true, named := ["internal/bytealg.MaxLen"], apart := false }
def CatalogBackSaid : Prop := catalogBackRow.holds Try.pinned (OpenSpec.ofChange catalogBackSpec)

/-- ITS FALSE NEIGHBOUR: 'it returns false'. Refute it at one input. -/
def catalogBackWrong : ChangeSpec := { name := "catalogBack", fn := fun _ => fun
  | [d] => { results := [.lit (.bool false)], args := [d] }
  | _ => none }
def CatalogBackWrongFalsely : Prop := catalogBackRow.holds Try.pinned (OpenSpec.ofChange catalogBackWrong)

/-- 'switchbacklaw06.CatalogMay': WHATEVER THE INPUT: true; the input reads as it did. -/
def catalogMaySpec : ChangeSpec := { name := "catalogMay", fn := fun _ => fun
  | [d1, d2, d3] => { results := [.lit (.bool true)], args := [d1, d2, d3] }
  | _ => none }
def catalogMayRow : OpenClaim := { program := "ytlhnncmflnjinaa", sum := "5870bdb2373d975b85c88f6c9c78072fa76661a91016020b9c6baef8bf566e0b", func := "switchback/switchbacklaw06.CatalogMay", spec := "catalogMay", inPlace := ["internal/bytealg.IndexByteString", "internal/bytealg.IndexString", "slices.overlaps[switchback/catalog.Table]"], unfollowed := true, recurses := true, named := ["internal/bytealg.MaxLen"], loops := true, apart := false }
def CatalogMaySaid : Prop := catalogMayRow.holds Try.pinned (OpenSpec.ofChange catalogMaySpec)

/-- ITS FALSE NEIGHBOUR: 'it returns false'. Refute it at one input. -/
def catalogMayWrong : ChangeSpec := { name := "catalogMay", fn := fun _ => fun
  | [d1, d2, d3] => { results := [.lit (.bool false)], args := [d1, d2, d3] }
  | _ => none }
def CatalogMayWrongFalsely : Prop := catalogMayRow.holds Try.pinned (OpenSpec.ofChange catalogMayWrong)

/- THE SECOND FORM. 'bulk': how many values and letters a reading holds, each counted each time it is reached (what is shared counts as often as it is met; a slice's spare places count too). A statement '..UptoSaid' is the law's where the arguments, and the package variables that the reading takes, are together of bulk at most 1048576: NARROWER than '..Said'. Prove '..Said' where nothing that the law and all that it calls make is longer than what came in: it says more and counts as full. Else prove '..UptoSaid'. A law counts once. -/
mutual
def uptoBulk {H : Type} : DataW H → Nat
  | .lit (.string bytes) => bytes.length + 1
  | .lit _ => 1
  | .nil => 1
  | .ptr d => uptoBulk d + 1
  | .slice elems spare => uptoBulkAll elems + uptoBulkAll spare + 1
  | .agg parts => uptoBulkAll parts + 1
  | .iface _ d => uptoBulk d + 1
  | .map entries => uptoBulkEntries entries + 1
  | .held _ => 1
def uptoBulkAll {H : Type} : List (DataW H) → Nat
  | [] => 0
  | d :: r => uptoBulk d + uptoBulkAll r
def uptoBulkEntries {H : Type} : List (Lit × DataW H) → Nat
  | [] => 0
  | x :: r => uptoBulkEntry x + uptoBulkEntries r
def uptoBulkEntry {H : Type} : Lit × DataW H → Nat
  | (.string bytes, d) => bytes.length + uptoBulk d + 1
  | (_, d) => uptoBulk d + 1
 end
def uptoSmall : (H : Type) → List (DataW H) → Bool := fun _ ds => decide (uptoBulkAll ds ≤ 1048576)
def OpenSpec.upto (s : _root_.Go.ChangeSpec) : _root_.Go.OpenSpec := { _root_.Go.OpenSpec.ofChange s with cond := some uptoSmall }

/-- 'switchbacklaw07.CheckExprs', WHERE WHAT IT READS IS OF BULK AT MOST 1048576: true; the input reads as it did. -/
def checkExprsUptoRow : OpenClaim := { program := "ytlhnncmflnjinaa", sum := "5870bdb2373d975b85c88f6c9c78072fa76661a91016020b9c6baef8bf566e0b", func := "switchback/switchbacklaw07.CheckExprs", spec := "checkExprs", inPlace := ["internal/bytealg.IndexByteString", "internal/bytealg.IndexString"], unfollowed := true, recurses := true, named := ["internal/bytealg.MaxLen"], loops := true, apart := false, narrowed := true }
def CheckExprsUptoSaid : Prop := checkExprsUptoRow.holds Try.pinned (OpenSpec.upto checkExprsSpec)

/-- 'switchbacklaw07.CheckBare', WHERE WHAT IT READS IS OF BULK AT MOST 1048576: true; the input reads as it did. -/
def checkBareUptoRow : OpenClaim := { program := "ytlhnncmflnjinaa", sum := "5870bdb2373d975b85c88f6c9c78072fa76661a91016020b9c6baef8bf566e0b", func := "switchback/switchbacklaw07.CheckBare", spec := "checkBare", inPlace := ["internal/bytealg.IndexByteString", "internal/bytealg.IndexString"], unfollowed := true, recurses := true, named := ["internal/bytealg.MaxLen"], loops := true, apart := false, narrowed := true }
def CheckBareUptoSaid : Prop := checkBareUptoRow.holds Try.pinned (OpenSpec.upto checkBareSpec)

/-- 'switchbacklaw07.CheckKinds', WHERE WHAT IT READS IS OF BULK AT MOST 1048576: true; the input reads as it did. -/
def checkKindsUptoRow : OpenClaim := { program := "ytlhnncmflnjinaa", sum := "5870bdb2373d975b85c88f6c9c78072fa76661a91016020b9c6baef8bf566e0b", func := "switchback/switchbacklaw07.CheckKinds", spec := "checkKinds", inPlace := ["internal/bytealg.IndexByteString", "internal/bytealg.IndexString"], unfollowed := true, recurses := true, named := ["internal/bytealg.MaxLen"], loops := true, apart := false, narrowed := true }
def CheckKindsUptoSaid : Prop := checkKindsUptoRow.holds Try.pinned (OpenSpec.upto checkKindsSpec)

/-- 'switchbacklaw07.CheckTables', WHERE WHAT IT READS IS OF BULK AT MOST 1048576: true; the input reads as it did. -/
def checkTablesUptoRow : OpenClaim := { program := "ytlhnncmflnjinaa", sum := "5870bdb2373d975b85c88f6c9c78072fa76661a91016020b9c6baef8bf566e0b", func := "switchback/switchbacklaw07.CheckTables", spec := "checkTables", inPlace := ["internal/bytealg.IndexByteString", "internal/bytealg.IndexString", "slices.overlaps[switchback/catalog.Table]"], unfollowed := true, recurses := true, named := ["internal/bytealg.MaxLen"], loops := true, apart := false, narrowed := true }
def CheckTablesUptoSaid : Prop := checkTablesUptoRow.holds Try.pinned (OpenSpec.upto checkTablesSpec)

/-- 'switchbacklaw09.RowsTwice', WHERE WHAT IT READS IS OF BULK AT MOST 1048576: true; the input reads as it did. -/
def rowsTwiceUptoRow : OpenClaim := { program := "ytlhnncmflnjinaa", sum := "5870bdb2373d975b85c88f6c9c78072fa76661a91016020b9c6baef8bf566e0b", func := "switchback/switchbacklaw09.RowsTwice", spec := "rowsTwice", inPlace := ["slices.overlaps[[]switchback/api.Value]", "internal/bytealg.IndexByteString", "internal/bytealg.IndexString"], unfollowed := true, recurses := true, named := ["internal/bytealg.MaxLen"], apart := false, narrowed := true }
def RowsTwiceUptoSaid : Prop := rowsTwiceUptoRow.holds Try.pinned (OpenSpec.upto rowsTwiceSpec)

/-- 'switchbacklaw09.RowsMay', WHERE WHAT IT READS IS OF BULK AT MOST 1048576: true; the input reads as it did. -/
def rowsMayUptoRow : OpenClaim := { program := "ytlhnncmflnjinaa", sum := "5870bdb2373d975b85c88f6c9c78072fa76661a91016020b9c6baef8bf566e0b", func := "switchback/switchbacklaw09.RowsMay", spec := "rowsMay", inPlace := ["slices.overlaps[[]switchback/api.Value]", "internal/bytealg.IndexByteString", "internal/bytealg.IndexString"], unfollowed := true, recurses := true, named := ["internal/bytealg.MaxLen"], apart := false, narrowed := true }
def RowsMayUptoSaid : Prop := rowsMayUptoRow.holds Try.pinned (OpenSpec.upto rowsMaySpec)

/-- 'switchbacklaw06.CatalogOwn', WHERE WHAT IT READS IS OF BULK AT MOST 1048576: true; the input reads as it did. -/
def catalogOwnUptoRow : OpenClaim := { program := "ytlhnncmflnjinaa", sum := "5870bdb2373d975b85c88f6c9c78072fa76661a91016020b9c6baef8bf566e0b", func := "switchback/switchbacklaw06.CatalogOwn", spec := "catalogOwn", inPlace := ["internal/bytealg.IndexByteString", "internal/bytealg.IndexString", "slices.overlaps[switchback/catalog.Table]"], unfollowed := true, recurses := true, named := ["internal/bytealg.MaxLen"], loops := true, apart := false, narrowed := true }
def CatalogOwnUptoSaid : Prop := catalogOwnUptoRow.holds Try.pinned (OpenSpec.upto catalogOwnSpec)

/-- 'switchbacklaw06.CatalogNames', WHERE WHAT IT READS IS OF BULK AT MOST 1048576: true; the input reads as it did. -/
def catalogNamesUptoRow : OpenClaim := { program := "ytlhnncmflnjinaa", sum := "5870bdb2373d975b85c88f6c9c78072fa76661a91016020b9c6baef8bf566e0b", func := "switchback/switchbacklaw06.CatalogNames", spec := "catalogNames", inPlace := ["internal/bytealg.IndexByteString", "internal/bytealg.IndexString", "slices.overlaps[switchback/catalog.Table]"], unfollowed := true, recurses := true, named := ["internal/bytealg.MaxLen"], loops := true, apart := false, narrowed := true }
def CatalogNamesUptoSaid : Prop := catalogNamesUptoRow.holds Try.pinned (OpenSpec.upto catalogNamesSpec)

/-- 'switchbacklaw06.CatalogBack', WHERE WHAT IT READS IS OF BULK AT MOST 1048576: true; the input reads as it did. -/
def catalogBackUptoRow : OpenClaim := { program := "ytlhnncmflnjinaa", sum := "5870bdb2373d975b85c88f6c9c78072fa76661a91016020b9c6baef8bf566e0b", func := "switchback/switchbacklaw06.CatalogBack", spec := "catalogBack", inPlace := ["internal/bytealg.IndexByteString", "internal/bytealg.IndexString", "slices.overlaps[switchback/catalog.Table]"], unfollowed := true, recurses := true, named := ["internal/bytealg.MaxLen"], apart := false, narrowed := true }
def CatalogBackUptoSaid : Prop := catalogBackUptoRow.holds Try.pinned (OpenSpec.upto catalogBackSpec)

/-- 'switchbacklaw06.CatalogMay', WHERE WHAT IT READS IS OF BULK AT MOST 1048576: true; the input reads as it did. -/
def catalogMayUptoRow : OpenClaim := { program := "ytlhnncmflnjinaa", sum := "5870bdb2373d975b85c88f6c9c78072fa76661a91016020b9c6baef8bf566e0b", func := "switchback/switchbacklaw06.CatalogMay", spec := "catalogMay", inPlace := ["internal/bytealg.IndexByteString", "internal/bytealg.IndexString", "slices.overlaps[switchback/catalog.Table]"], unfollowed := true, recurses := true, named := ["internal/bytealg.MaxLen"], loops := true, apart := false, narrowed := true }
def CatalogMayUptoSaid : Prop := catalogMayUptoRow.holds Try.pinned (OpenSpec.upto catalogMaySpec)

end Rows
end Go.Proofs.Ytlhnncmflnjinaa
