/- The abstract machine's operations. -/
import Derived.Test.YtlhnncmflnjinaaMa
import Derived.Deep.AppendSrc
import Derived.Laws.CopyRow
set_option linter.unusedSimpArgs false
set_option linter.unusedVariables false
namespace Go.Proofs.Ytlhnncmflnjinaa.Am
open Go Go.RowKit

inductive Opd where
  | t (i : Nat)
  | c (a : AV)
def Opd.get (fr : Regs) : Opd → AV
  | .t i => fr i
  | .c a => a
/-- a cell's value -/
def ofC : Value → AV
  | .string b => if b.data.toList.length ≤ 9223372036854775807 then .s b.data.toList else .any
  | .slice _ 0 0 => .em
  | v => .sc v
def ofV : Value → AV
  | .agg cs => .ag (cs.toList.map ofC)
  | .tuple cs => .tp (cs.toList.map ofC)
  | v => ofC v
def cOpd : Operand → Opd
  | .tmp t => .t t
  | .const v => .c (ofV v)
  | .global g => .c (.sc (.pointer (some ⟨g, 0, none⟩)))
  | .func f => .c (.fn f [])
inductive SOp where
  | mv (x : Opd)
  | pick (c a b : Opd)
  | alloc (zs : List Value)
  | box (x : Opd)
  | build (zs : List Value) (parts : List (Nat × Nat × Opd))
  | bsl (k : Nat) (zs : List Value) (len : Nat) (parts : List (Nat × Opd))
  | ld (m : Option Nat) (x : Opd)
  | st (m : Nat) (x v : Opd)
  | fad (off : Nat) (x : Opd)
  | fld (m : Option Nat) (off : Nat) (x : Opd)
  | iad (k : Nat) (x i : Opd)
  | istr (x i : Opd)
  | iarr (m : Option Nat) (k len : Nat) (x i : Opd)
  | bin (op : BinOp) (x y : Opd)
  | eqs (ks : List Nat) (neg : Bool) (x y : Opd)
  | eqb (neg : Bool) (x y : Opd)
  | eqp (neg : Bool) (x y : Opd)
  | eqn (neg : Bool) (x : Opd)
  | un (op : UnOp) (x : Opd)
  | cvi (k : IntKind) (x : Opd)
  | cvs (x : Opd)
  | cvb (x : Opd)
  | len (s : Bool) (x : Opd)
  | slc (k : Nat) (x : Opd) (lo hi mx : Option Opd)
  | sstr (x : Opd) (lo hi : Option Opd)
  | app (k bytes : Nat) (x y : Opd)
  | ext (x : Opd) (i : Nat)
  | mkf (f : Nat) (caps : List Opd)
  | nck (x : Opd)
  | mki (t : TypeId) (x : Opd)
  | tas (t : TypeId) (z : Value) (x : Opd)
  | mkm
  | lkp (z : Value) (ok : Bool) (x k : Opd)
  | mup (x k v : Opd)
  | clm (x : Opd)
  | call (f : Opd) (args : List Opd)
  | pan (x : Opd)

/-- a value's cells -/
def AV.cells : AV → Option (List AV)
  | .ag l => some l
  | .any => none
  | .bo => none
  | .tp _ => none
  | .sc (.agg _) => none
  | .sc (.tuple _) => none
  | a => some [a]
def leafok : AV → Bool
  | .any => false
  | .bo => false
  | .ag _ => false
  | .tp _ => false
  | .sc (.agg _) => false
  | .sc (.tuple _) => false
  | _ => true
/-- bears it no name of a block? -/
def clo : AV → Bool
  | .any => true
  | .sc _ => true
  | .s _ => true
  | .em => true
  | .tr _ => true
  | .fp _ => true
  | _ => false
/-- as it reads when nobody writes its blocks any more, and these blocks -/
def brw (σ : Hp) : Nat → AV → Option (AV × List Nat)
  | _, .sc v => some (.sc v, [])
  | _, .s l => some (.s l, [])
  | _, .em => some (.tr [], [])
  | _, .tr rows => some (.tr rows, [])
  | _, .fp l => some (.fp l, [])
  | d + 1, .ag l => (l.foldr (fun a acc => match brw σ d a, acc with
      | some (c, I), some (cs, J) => some (c :: cs, I ++ J)
      | _, _ => none) (some ([], []))).map fun p => (.ag p.1, p.2)
  | d + 1, .tp l => (l.foldr (fun a acc => match brw σ d a, acc with
      | some (c, I), some (cs, J) => some (c :: cs, I ++ J)
      | _, _ => none) (some ([], []))).map fun p => (.tp p.1, p.2)
  | d + 1, .fn f l => (l.foldr (fun a acc => match brw σ d a, acc with
      | some (c, I), some (cs, J) => some (c :: cs, I ++ J)
      | _, _ => none) (some ([], []))).map fun p => (.fn f p.1, p.2)
  | _ + 1, .ow i k off len => match σ i with
    | some (.c x) => if x.k = k ∧ x.cl = true ∧ off + len ≤ x.rows.length ∧ 0 < k then some (.tr ((x.rows.drop off).take len), [i]) else none
    | _ => none
  | d + 1, .rf i k r c => match σ i with
    | some (.c x) => if x.k = k then (match x.rows[r]? with
      | some row => if c < row.length then (((row.drop c).foldr (fun a acc => match brw σ d a, acc with
          | some (c, I), some (cs, J) => some (c :: cs, I ++ J)
          | _, _ => none) (some ([], []))).map fun p => (.fp p.1, i :: p.2)) else none
      | none => none) else none
    | _ => none
  | _, _ => none
def brwL (σ : Hp) (d : Nat) (l : List AV) : Option (List AV × List Nat) :=
  l.foldr (fun a acc => match brw σ d a, acc with
      | some (c, I), some (cs, J) => some (c :: cs, I ++ J)
      | _, _ => none) (some ([], []))
abbrev Wr := List (Nat × Option Ob)
def Ob.frz : Ob → Ob
  | .c x => .c { x with wr := false }
  | .m es _ => .m es false
/-- these blocks are not written any more -/
def frz (σ : Hp) : List Nat → Wr
  | [] => []
  | i :: I => (i, (σ i).map Ob.frz) :: frz σ I
/-- one cell, or m cells as a struct, from place c on -/
def part (row : List AV) (c : Nat) : Option Nat → Option AV
  | none => row[c]?
  | some m => if c + m ≤ row.length then some (.ag ((row.drop c).take m)) else none
def splice (l : List AV) (c : Nat) (x : List AV) : List AV := l.take c ++ x ++ l.drop (c + x.length)
def fillA : List (Nat × Nat × AV) → List AV → Option (List AV)
  | [], l => some l
  | (off, size, x) :: rest, l => match x.cells with
    | some cs => if cs.length = size ∧ off + size ≤ l.length then fillA rest (splice l off cs) else none
    | none => none
def fillR (σ : Hp) (k : Nat) : List (Nat × AV) → List (List AV) → List Nat → Option (List (List AV) × List Nat)
  | [], l, I => some (l, I)
  | (i, x) :: rest, l, I => match brw σ 3 x with
    | some (c, J) => (match c.cells with
      | some cs => if cs.length = k ∧ i < l.length then fillR σ k rest (l.set i cs) (J ++ I) else none
      | none => none)
    | none => none
def ii (n : Int) : AV := .sc (.int .i64 n)
def bb (t : Bool) : AV := .sc (.bool t)
/-- == on bits -/
def bits (op : BinOp) (k : IntKind) (x y : Int) : Int :=
  let a := BitVec.ofInt k.bits x
  let b := BitVec.ofInt k.bits y
  k.wrap (match op with
    | .and => (a &&& b).toNat
    | .or => (a ||| b).toNat
    | .xor => (a ^^^ b).toNat
    | _ => (a &&& ~~~b).toNat)
def semBin (op : BinOp) (x y : AV) : Option AV :=
  match x, y with
  | .sc (.int k a), .sc (.int k' b) =>
      (match op with
      | .shl => if b < 0 then none else some (.sc (.int k (k.wrap (a * 2 ^ (min b.toNat k.bits)))))
      | .shr => if b < 0 then none else some (.sc (.int k (a.fdiv (2 ^ (min b.toNat k.bits)))))
      | _ => if k = k' then
        (match op with
        | .add => some (.sc (.int k (k.wrap (a + b))))
        | .sub => some (.sc (.int k (k.wrap (a - b))))
        | .mul => some (.sc (.int k (k.wrap (a * b))))
        | .quo => if b = 0 then none else some (.sc (.int k (k.wrap (a.tdiv b))))
        | .rem => if b = 0 then none else some (.sc (.int k (a.tmod b)))
        | .and => some (.sc (.int k (bits .and k a b)))
        | .or => some (.sc (.int k (bits .or k a b)))
        | .xor => some (.sc (.int k (bits .xor k a b)))
        | .andNot => some (.sc (.int k (bits .andNot k a b)))
        | .eql => some (bb (a == b))
        | .neq => some (bb (a != b))
        | .lss => some (bb (decide (a < b)))
        | .leq => some (bb (decide (a ≤ b)))
        | .gtr => some (bb (decide (a > b)))
        | .geq => some (bb (decide (a ≥ b)))
        | _ => none)
      else none)
  | .s a, .s b =>
      (match op with
      | .add => if a.length + b.length ≤ 9223372036854775807 then some (.s (a ++ b)) else none
      | .eql => some (bb (a == b))
      | .neq => some (bb (!(a == b)))
      | .lss => some (bb (Op.bytesLess a b))
      | .leq => some (bb (Op.bytesLess a b || (a == b)))
      | .gtr => some (bb (!(Op.bytesLess a b || (a == b))))
      | .geq => some (bb (!(Op.bytesLess a b)))
      | _ => none)
  | _, _ => none
/-- are two lists of plain values one? 0: numbers, 1: truths, 2: texts -/
def eqK : List Nat → List AV → List AV → Option Bool
  | [], [], [] => some true
  | 0 :: ks, .sc (.int k a) :: l, .sc (.int k' b) :: m => if k = k' then (eqK ks l m).map ((a == b) && ·) else none
  | 1 :: ks, .sc (.bool a) :: l, .sc (.bool b) :: m => (eqK ks l m).map ((a == b) && ·)
  | 2 :: ks, .s a :: l, .s b :: m => (eqK ks l m).map ((a == b) && ·)
  | _, _, _ => none
def eqP : AV → AV → Option Bool
  | .sc (.pointer none), .rf _ _ _ _ => some false
  | .rf _ _ _ _, .sc (.pointer none) => some false
  | .sc (.pointer none), .fp _ => some false
  | .fp _, .sc (.pointer none) => some false
  | .sc (.pointer none), .sc (.pointer none) => some true
  | .rf i k r c, .rf i' k' r' c' => if i = i' ∧ k = k' ∧ c < k ∧ c' < k then some (r == r' && c == c') else none
  | _, _ => none
/-- the rows behind a slice -/
def rowsOf (σ : Hp) (k : Nat) : AV → Option (List (List AV))
  | .em => some []
  | .tr rows => if rows.all (fun r => r.length == k) = true then some rows else none
  | .ow i k' off len => if k' = k then (match σ i with
    | some (.c x) => if x.k = k ∧ x.cl = true ∧ off + len ≤ x.rows.length then some ((x.rows.drop off).take len) else none
    | _ => none) else none
  | _ => none
def asI (a : AV) : Option Int := match a with
  | .sc (.int _ n) => some n
  | _ => none
def optI (d : Nat) : Option AV → Option Int
  | none => some d
  | some a => asI a
/-! the operations that change nothing, of values -/
def aPick (c a b : AV) : Option AV := match c with
  | .sc (.bool t) => some (cond t a b)
  | _ => none
def aBuild (zs : List Value) (parts : List (Nat × Nat × AV)) : Option AV := (fillA parts (zs.map ofC)).map .ag
def aFad (off : Nat) (x : AV) : Option AV := match x with
  | .rf i k r c => some (.rf i k r (c + off))
  | .fp l => if off < l.length then some (.fp (l.drop off)) else none
  | _ => none
def aFld (m : Option Nat) (off : Nat) (x : AV) : Option AV := match x with
  | .ag l => part l off m
  | _ => none
def aIad (k : Nat) (x i : AV) : Option AV := match i with
  | .sc (.int _ n) => (match x with
    | .tr rows => if 0 ≤ n then (match rows[n.toNat]? with
      | some row => if row.length = k then some (.fp row) else none
      | none => none) else none
    | .ow j k' off len => if k' = k ∧ 0 ≤ n ∧ n < len then some (.rf j k (off + n.toNat) 0) else none
    | _ => none)
  | _ => none
def aIstr (x i : AV) : Option AV := match x, i with
  | .s l, .sc (.int _ n) => if 0 ≤ n then (match l[n.toNat]? with
    | some b => some (.sc (.int .u8 b.toNat))
    | none => none) else none
  | _, _ => none
def aIarr (m : Option Nat) (k len : Nat) (x i : AV) : Option AV := match x, i with
  | .ag l, .sc (.int _ n) => if 0 ≤ n ∧ n < len then part l (n.toNat * k) m else none
  | _, _ => none
def aUn (op : UnOp) (x : AV) : Option AV := match op, x with
  | .not, .sc (.bool b) => some (bb (!b))
  | .neg, .sc (.int k n) => some (.sc (.int k (k.wrap (0 - n))))
  | .xor, .sc (.int k n) => some (.sc (.int k (bits .xor k (if k.signed then -1 else k.max) n)))
  | _, _ => none
def aCvi (k : IntKind) (x : AV) : Option AV := match x with
  | .sc (.int _ n) => some (.sc (.int k (k.wrap n)))
  | _ => none
def aCvs (x : AV) : Option AV := match x with
  | .s l => some (.s l)
  | _ => none
def aLen (s : Bool) (x : AV) : Option AV := match s, x with
  | true, .s l => some (ii l.length)
  | false, .em => some (ii 0)
  | false, .tr rows => some (ii rows.length)
  | false, .ow _ _ _ len => some (ii len)
  | _, _ => none
def aSlc (k : Nat) (x : AV) (lo hi mx : Option AV) : Option AV := match x with
  | .em => (match optI 0 lo, optI 0 hi, optI 0 mx with
    | some l, some h, some m => if l = 0 ∧ h = 0 ∧ m = 0 ∧ (mx.isSome = true → hi.isSome = true) then some .em else none
    | _, _, _ => none)
  | .tr rows => (match optI 0 lo, optI rows.length hi, mx with
    | some l, some h, none => if rows.all (fun r => r.length == k) = true ∧ 0 ≤ l ∧ l ≤ h ∧ h ≤ rows.length then some (.tr ((rows.take h.toNat).drop l.toNat)) else none
    | some l, some h, some (.sc (.int _ m)) => if l = 0 ∧ h = 0 ∧ m = 0 ∧ hi.isSome = true then some .em else none
    | _, _, _ => none)
  | .ow j k' off len => (match optI 0 lo, optI len hi, mx with
    | some l, some h, none => if k' = k ∧ 0 ≤ l ∧ l ≤ h ∧ h ≤ len ∧ (l = 0 ∨ l < len) then some (.ow j k (off + l.toNat) (h.toNat - l.toNat)) else none
    | some l, some h, some (.sc (.int _ m)) => if l = 0 ∧ h = 0 ∧ m = 0 ∧ hi.isSome = true then some .em else none
    | _, _, _ => none)
  | _ => none
def aSstr (x : AV) (lo hi : Option AV) : Option AV := match x with
  | .s s => (match optI 0 lo, optI s.length hi with
    | some l, some h => if 0 ≤ l ∧ l ≤ h ∧ h ≤ s.length then some (.s ((s.take h.toNat).drop l.toNat)) else none
    | _, _ => none)
  | _ => none
def aExt (x : AV) (i : Nat) : Option AV := match x with
  | .tp l => l[i]?
  | _ => none
def aNck (x : AV) : Option AV := match x with
  | .rf i k r c => some (.rf i k r c)
  | .fp l => some (.fp l)
  | .fn f l => some (.fn f l)
  | _ => none
def aMki (t : TypeId) (x : AV) : Option AV := match x with
  | .sc v => some (.sc (.iface t v))
  | .ag [.sc (.int k a), .sc (.int k' b)] => some (.sc (.iface t (.agg #[.int k a, .int k' b])))
  | _ => none
def aTas (t : TypeId) (z : Value) (x : AV) : Option AV := match x with
  | .sc (.iface t' v) => if t' = t then some (.tp [ofV v, bb true]) else some (.tp [ofV z, bb false])
  | .sc .nilIface => some (.tp [ofV z, bb false])
  | _ => none
def aLd (σ : Hp) (m : Option Nat) (x : AV) : Option AV := match x with
  | .rf i k r c => match σ i with
    | some (.c b) => if b.k = k then (match b.rows[r]? with
      | some row => part row c m
      | none => none) else none
    | _ => none
  | .fp l => part l 0 m
  | _ => none
def aEqs (ks : List Nat) (neg : Bool) (x y : AV) : Option AV := match x, y with
  | .ag l, .ag m => (eqK ks l m).map fun p => bb (if neg then !p else p)
  | _, _ => none
def aEqb (neg : Bool) (x y : AV) : Option AV := match x, y with
  | .sc (.bool p), .sc (.bool q) => some (bb (if neg then !(p == q) else p == q))
  | _, _ => none
def aEqp (neg : Bool) (x y : AV) : Option AV := (eqP x y).map fun p => bb (if neg then !p else p)
/-- where a text is a key, from place n on -/
def keyAt (l : List UInt8) : Nat → List (AV × AV) → Option (Option Nat)
  | _, [] => some none
  | n, e :: es => match e with
    | (.s k, .sc _) => if k = l then some (some n) else keyAt l (n + 1) es
    | _ => none
def aLkp (σ : Hp) (z : Value) (ok : Bool) (x k : AV) : Option AV := match x, k with
  | .mp i, .s l => (match σ i with
    | some (.m es _) => (match keyAt l 0 es with
      | some (some p) => (match es[p]? with
        | some (_, .sc v) => some (if ok = true then .tp [.sc v, .sc (.bool true)] else .sc v)
        | _ => none)
      | some none => some (if ok = true then .tp [.sc z, .sc (.bool false)] else .sc z)
      | none => none)
    | _ => none)
  | _, _ => none
/-- is a slice nil? of one without length nobody knows -/
def aEqn (neg : Bool) : AV → Option AV
  | .em => some .bo
  | .tr [] => some .bo
  | .tr (_ :: _) => some (bb neg)
  | .ow _ _ _ 0 => some .bo
  | .ow _ _ _ (_ + 1) => some (bb neg)
  | _ => none
/-- one byte in each row -/
def bytesOf : List (List AV) → Option (List Int)
  | [] => some []
  | r :: rs => match r with
    | [.sc (.int .u8 n)] => (bytesOf rs).map (n :: ·)
    | _ => none
/-- bytes, as a text -/
def aCvb (σ : Hp) (x : AV) : Option AV := match rowsOf σ 1 x with
  | some rows => if rows.length ≤ 9223372036854775807 then (bytesOf rows).map (fun ns => .s (ns.map fun n => UInt8.ofNat n.toNat)) else none
  | none => none
/-- the operations that change nothing -/
def semR (σ : Hp) (g : Opd → AV) : SOp → Option AV
  | .mv x => some (g x)
  | .pick c a b => aPick (g c) (g a) (g b)
  | .build zs parts => aBuild zs (parts.map fun p => (p.1, p.2.1, g p.2.2))
  | .fad off x => aFad off (g x)
  | .fld m off x => aFld m off (g x)
  | .iad k x i => aIad k (g x) (g i)
  | .istr x i => aIstr (g x) (g i)
  | .iarr m k len x i => aIarr m k len (g x) (g i)
  | .bin op x y => semBin op (g x) (g y)
  | .un op x => aUn op (g x)
  | .cvi k x => aCvi k (g x)
  | .cvs x => aCvs (g x)
  | .cvb x => aCvb σ (g x)
  | .len s x => aLen s (g x)
  | .slc k x lo hi mx => aSlc k (g x) (lo.map g) (hi.map g) (mx.map g)
  | .sstr x lo hi => aSstr (g x) (lo.map g) (hi.map g)
  | .ext x i => aExt (g x) i
  | .mkf f caps => some (.fn f (caps.map g))
  | .nck x => aNck (g x)
  | .mki t x => aMki t (g x)
  | .tas t z x => aTas t z (g x)
  | .ld m x => aLd σ m (g x)
  | .lkp z ok x k => aLkp σ z ok (g x) (g k)
  | .eqs ks neg x y => aEqs ks neg (g x) (g y)
  | .eqn neg x => aEqn neg (g x)
  | .eqb neg x y => aEqb neg (g x) (g y)
  | .eqp neg x y => aEqp neg (g x) (g y)
  | _ => none
/-! the operations that make memory or write the call's own -/
def hAlloc (id : Nat) (zs : List Value) : Option (AV × Wr) := some (.rf id zs.length 0 0, [(id, some (.c ⟨zs.length, [zs.map ofC], true, false⟩))])
def hBox (id : Nat) (x : AV) : Option (AV × Wr) := x.cells.map fun l => (.rf id l.length 0 0, [(id, some (.c ⟨l.length, [l], true, false⟩))])
def hBsl (σ : Hp) (id k : Nat) (zs : List Value) (len : Nat) (parts : List (Nat × AV)) : Option (AV × Wr) := match fillR σ k parts (List.replicate len (zs.map ofC)) [] with
  | some (rows, I) => some (.ow id k 0 len, frz σ I ++ [(id, some (.c ⟨k, rows, true, true⟩))])
  | none => none
def hSt (σ : Hp) (m : Nat) (x v : AV) : Option (AV × Wr) := match x with
  | .rf i k r c => match σ i with
    | some (.c b) => if b.k = k ∧ b.wr = true then (match b.rows[r]?, v.cells with
      | some row, some l => if l.length = m ∧ c + m ≤ row.length ∧ l.all leafok = true ∧ (b.cl = true → l.all clo = true) then some (.tp [], [(i, some (.c ⟨k, b.rows.set r (splice row c l), true, b.cl⟩))]) else none
      | _, _ => none) else none
    | _ => none
  | _ => none
def hApp (σ : Hp) (id k bytes : Nat) (x y : AV) : Option (AV × Wr) := match rowsOf σ k y with
  | some news => if news.all (fun r => r.all leafok) = true then (match x with
    | .em => if news.length * bytes ≤ 140737488355328 then (match news with
      | [] => some (.em, [])
      | _ :: _ => some (.ow id k 0 news.length, [(id, some (.c ⟨k, news, true, true⟩))])) else none
    | .ow i k' 0 len => (match σ i with
      | some (.c b) => if k' = k ∧ b.k = k ∧ b.wr = true ∧ b.cl = true ∧ b.rows.length = len ∧ (len + news.length) * bytes ≤ 140737488355328 ∧ i ≠ id then
          some (.ow id k 0 (len + news.length), [(i, none), (id, some (.c ⟨k, b.rows ++ news, true, true⟩))]) else none
      | _ => none)
    | _ => none) else none
  | none => none
def hMkm (id : Nat) : Option (AV × Wr) := some (.mp id, [(id, some (.m [] true))])
def hMup (σ : Hp) (x k v : AV) : Option (AV × Wr) := match x, k, v with
  | .mp i, .s l, .sc u => (match σ i with
    | some (.m es true) => (match keyAt l 0 es with
      | some (some p) => some (.tp [], [(i, some (.m (es.set p (.s l, .sc u)) true))])
      | some none => some (.tp [], [(i, some (.m (es ++ [(.s l, .sc u)]) true))])
      | none => none)
    | _ => none)
  | _, _, _ => none
def hClm (σ : Hp) (x : AV) : Option (AV × Wr) := match x with
  | .mp i => (match σ i with
    | some (.m _ true) => some (.tp [], [(i, some (.m [] true))])
    | _ => none)
  | _ => none
def semH (σ : Hp) (id : Nat) (g : Opd → AV) : SOp → Option (AV × Wr)
  | .alloc zs => hAlloc id zs
  | .box x => hBox id (g x)
  | .bsl k zs len parts => hBsl σ id k zs len (parts.map fun p => (p.1, g p.2))
  | .st m x v => hSt σ m (g x) (g v)
  | .app k bytes x y => hApp σ id k bytes (g x) (g y)
  | .mkm => hMkm id
  | .mup x k v => hMup σ (g x) (g k) (g v)
  | .clm x => hClm σ (g x)
  | _ => none
def applyW (σ : Hp) : Wr → Hp
  | [] => σ
  | (i, x) :: rest => applyW (upd σ i x) rest

def szT (P : Program) (t : TypeId) : Option Nat := (P.info? t).map (·.size)
def zsT (P : Program) (t : TypeId) : Option (List Value) := ((P.info? t).bind (·.zero)).map (·.cells.toList)
/-- how a variable of a type is read: in one piece (none), or as a struct of so many cells -/
def aggT (P : Program) (t : TypeId) : Option (Option Nat) := match P.underlying t with
  | some (.struct _) => (szT P t).map some
  | some (.array _ _) => (szT P t).map some
  | some _ => some none
  | none => none
def fieldT (P : Program) (t : TypeId) (f : Nat) : Option (Nat × TypeId) := match P.underlying t with
  | some (.struct fs) => fs[f]?.map fun x => (x.offset, x.type)
  | _ => none
def partsT (places : List (Nat × Nat)) : List (Nat × Operand) → Option (List (Nat × Nat × Opd))
  | [] => some []
  | (i, x) :: rest => match places[i]?, partsT places rest with
    | some (off, n), some l => some ((off, n, cOpd x) :: l)
    | _, _ => none
def placesT (P : Program) : TypeDesc → Option (List (Nat × Nat))
  | .struct fs => fs.toList.mapM (fun f => (P.info? f.type).map fun i => (f.offset, i.size))
  | .array n e => if n ≤ 64 then (P.info? e).map fun i => (List.range n).map fun j => (j * i.size, i.size) else none
  | _ => none
def flatF (rec_ : TypeId → Option (List Nat)) : List Field → Nat → Option (List Nat)
  | [], _ => some []
  | f :: fs, n => if f.offset = n ∧ (f.name == "_") = false then (match rec_ f.type with
    | some l => (flatF rec_ fs (n + l.length)).map (l ++ ·)
    | none => none) else none
/-- the kinds of a type's cells, in order, where each is compared for itself -/
def flatT (P : Program) : Nat → TypeId → Option (List Nat)
  | 0, _ => none
  | d + 1, t => match P.underlying t with
    | some (.int _) => some [0]
    | some .bool => some [1]
    | some .string => some [2]
    | some (.struct fs) => (match flatF (flatT P d) fs.toList 0 with
      | some l => if szT P t = some l.length ∧ P.stoodInHeld t = false then some l else none
      | none => none)
    | _ => none
def cmpEq (o : BinOp) (f : Bool → SOp) : Option SOp := match o with
  | .eql => some (f false)
  | .neq => some (f true)
  | _ => none
def cmpBin (P : Program) (o : BinOp) (t : TypeId) (x y : Operand) : Option SOp := match P.underlying t with
  | some (.int _) => some (.bin o (cOpd x) (cOpd y))
  | some .string => some (.bin o (cOpd x) (cOpd y))
  | some .bool => cmpEq o (.eqb · (cOpd x) (cOpd y))
  | some (.struct _) => if P.eqGuardType P.depth t = false then (match flatT P 6 t with
    | some ks => cmpEq o (.eqs ks · (cOpd x) (cOpd y))
    | none => none) else none
  | some (.pointer e) => if (szT P e).any (· != 0) = true then cmpEq o (.eqp · (cOpd x) (cOpd y)) else none
  | some (.slice _) => (match y with
    | .const (.slice none 0 0) => cmpEq o (.eqn · (cOpd x))
    | _ => none)
  | _ => none
def cmpCall (P : Program) (c : Call) : Option SOp := match c.callee with
  | .value f => some (.call (cOpd f) (c.args.toList.map cOpd))
  | .builtin .len => match c.args.toList, (c.argTypes[0]?).bind P.underlying with
    | [x], some .string => some (.len true (cOpd x))
    | [x], some (.slice _) => some (.len false (cOpd x))
    | _, _ => none
  | .builtin .append => match c.args.toList, (c.argTypes[0]?).bind P.underlying, (c.argTypes[1]?).bind P.underlying with
    | [x, y], some (.slice e), some (.slice _) => match P.info? e with
      | some i => if 0 < i.size ∧ 0 < i.bytes ∧ i.zero.map (·.cells.size) = some i.size then some (.app i.size i.bytes (cOpd x) (cOpd y)) else none
      | none => none
    | _, _, _ => none
  | .builtin .clear => match c.args.toList, (c.argTypes[0]?).bind P.underlying with
    | [x], some (.map _ _) => some (.clm (cOpd x))
    | _, _ => none
  | _ => none
def cmp (P : Program) (op : Op) : Option SOp :=
  match op with
  | .move x => some (.mv (cOpd x))
  | .assign x => some (.mv (cOpd x))
  | .pick c a b => some (.pick (cOpd c) (cOpd a) (cOpd b))
  | .alloc e => (zsT P e).map .alloc
  | .box _ x => some (.box (cOpd x))
  | .build t parts => match P.underlying t, zsT P t with
    | some d, some zs => (match placesT P d with
      | some places => (partsT places parts.toList).map (.build zs)
      | none => none)
    | _, _ => none
  | .buildSlice t len parts => match P.underlying t with
    | some (.slice e) => match szT P e, zsT P e with
      | some k, some zs => if 0 < k ∧ zs.length = k ∧ len * k ≤ 16777216 then some (.bsl k zs len (parts.toList.map fun p => (p.1, cOpd p.2))) else none
      | _, _ => none
    | _ => none
  | .makeMap t none => match P.underlying t with
    | some (.map k _) => (match P.underlying k with
      | some .string => some .mkm
      | _ => none)
    | _ => none
  | .lookup t x k ok => match P.underlying t with
    | some (.map kt e) => (match P.underlying kt, (P.info? e).bind (·.zero) with
      | some .string, some z => some (.lkp z ok (cOpd x) (cOpd k))
      | _, _ => none)
    | _ => none
  | .mapUpdate t x k v => match P.underlying t with
    | some (.map kt _) => (match P.underlying kt with
      | some .string => some (.mup (cOpd x) (cOpd k) (cOpd v))
      | _ => none)
    | _ => none
  | .load t x => (aggT P t).map (.ld · (cOpd x))
  | .store t x v => (szT P t).map (.st · (cOpd x) (cOpd v))
  | .fieldAddr t x f => match fieldT P t f with
    | some (off, ft) => match szT P ft with
      | some n => if n = 0 then none else some (.fad off (cOpd x))
      | none => none
    | none => none
  | .field t x f => match fieldT P t f with
    | some (off, ft) => (aggT P ft).map (.fld · off (cOpd x))
    | none => none
  | .indexAddr t x i => match P.underlying t with
    | some (.slice e) => (szT P e).map (.iad · (cOpd x) (cOpd i))
    | _ => none
  | .index t x i => match P.underlying t with
    | some .string => some (.istr (cOpd x) (cOpd i))
    | some (.array n e) => match aggT P e, szT P e with
      | some m, some k => some (.iarr m k n (cOpd x) (cOpd i))
      | _, _ => none
    | _ => none
  | .binOp o t x y _ => cmpBin P o t x y
  | .unOp o _ x => some (.un o (cOpd x))
  | .convert s d x => match P.underlying s, P.underlying d with
    | some (.int _), some (.int k) => some (.cvi k (cOpd x))
    | some .string, some .string => some (.cvs (cOpd x))
    | some (.slice e), some .string => (match P.underlying e with
      | some (.int .u8) => some (.cvb (cOpd x))
      | _ => none)
    | _, _ => none
  | .slice t x lo hi mx => match P.underlying t with
    | some (.slice e) => match szT P e with
      | some k => if 0 < k then some (.slc k (cOpd x) (lo.map cOpd) (hi.map cOpd) (mx.map cOpd)) else none
      | none => none
    | some .string => (match mx with
      | none => some (.sstr (cOpd x) (lo.map cOpd) (hi.map cOpd))
      | some _ => none)
    | _ => none
  | .extract x i => some (.ext (cOpd x) i)
  | .makeFunc (.func f) first caps => if first.size = 0 then some (.mkf f (caps.toList.map cOpd)) else none
  | .nilCheck x => some (.nck (cOpd x))
  | .makeInterface t x => match P.underlying t with
    | some (.int _) => some (.mki t (cOpd x))
    | some .string => none
    | some (.struct _) => some (.mki t (cOpd x))
    | _ => none
  | .typeAssert x _ t true => match P.underlying t, (P.info? t).bind (·.zero) with
    | some (.interface _), _ => none
    | some _, some z => some (.tas t z (cOpd x))
    | _, _ => none
  | .panic x => some (.pan (cOpd x))
  | .call c => cmpCall P c
  | _ => none
/-- an operation that changes nothing -/
def quiet : SOp → Bool
  | .alloc _ | .box _ | .bsl _ _ _ _ | .st _ _ _ | .app _ _ _ _ | .call _ _ | .pan _ | .mkm | .mup _ _ _ | .clm _ => false
  | _ => true
end Go.Proofs.Ytlhnncmflnjinaa.Am
