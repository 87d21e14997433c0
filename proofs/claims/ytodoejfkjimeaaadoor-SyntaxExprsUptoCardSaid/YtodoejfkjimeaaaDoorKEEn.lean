/- Packed by a program of this repo: En. -/
import Derived.Test.YtodoejfkjimeaaaDoorKEMu
set_option linter.unusedSimpArgs false
set_option linter.unusedVariables false
namespace Go.Proofs.YtodoejfkjimeaaaDoor
open Go Go.RowKit Am

abbrev Tx := List UInt8
structure Vl where
  kind : Int
  n : Int
  text : Tx
inductive Ep where
  | mk (op kind n : Int) (text table name : Tx) (args : List Ep)
def Ep.op : Ep → Int | .mk o _ _ _ _ _ _ => o
def Ep.kind : Ep → Int | .mk _ k _ _ _ _ _ => k
def Ep.n : Ep → Int | .mk _ _ n _ _ _ _ => n
def Ep.text : Ep → Tx | .mk _ _ _ t _ _ _ => t
def Ep.table : Ep → Tx | .mk _ _ _ _ t _ _ => t
def Ep.name : Ep → Tx | .mk _ _ _ _ _ t _ => t
def Ep.args : Ep → List Ep | .mk _ _ _ _ _ _ l => l
def Ep.zero : Ep := .mk 0 0 0 [] [] [] []
mutual
def encE : Ep → List AV
  | .mk op kind n text table name args => [.sc (.int .i64 op), .sc (.int .i64 kind), .sc (.int .i64 n), .s text, .s table, .s name, .tr (encL args)]
def encL : List Ep → List (List AV)
  | [] => []
  | e :: l => encE e :: encL l
end
theorem encL_map (l : List Ep) : encL l = l.map encE := by
  induction l with
  | nil => rfl
  | cons e l ih => rw [encL, ih]; rfl
theorem encE_eq (e : Ep) : encE e = [.sc (.int .i64 e.op), .sc (.int .i64 e.kind), .sc (.int .i64 e.n), .s e.text, .s e.table, .s e.name, .tr (e.args.map encE)] := by
  cases e; rw [encE, encL_map]; rfl
theorem encE_len (e : Ep) : (encE e).length = 7 := by rw [encE_eq]; rfl
structure Cl where
  name : Tx
  kind : Int
  notNull : Bool
def encC (c : Cl) : List AV := [.s c.name, .sc (.int .i64 c.kind), .sc (.bool c.notNull)]
structure Ix where
  name : Tx
  at_ : Int
def encX (x : Ix) : List AV := [.s x.name, .sc (.int .i64 x.at_)]
structure Tb where
  name : Tx
  columns : List Cl
  key : Int
  indexes : List Ix
def encT (t : Tb) : List AV := [.s t.name, .tr (t.columns.map encC), .sc (.int .i64 t.key), .tr (t.indexes.map encX)]
attribute [go_sem] encE_len
theorem all_enc {α : Type} (f : α → List AV) (k : Nat) (h : ∀ x, (f x).length = k) (l : List α) : ((l.map f).all fun r => r.length == k) = true := by simp [h]
end Go.Proofs.YtodoejfkjimeaaaDoor
