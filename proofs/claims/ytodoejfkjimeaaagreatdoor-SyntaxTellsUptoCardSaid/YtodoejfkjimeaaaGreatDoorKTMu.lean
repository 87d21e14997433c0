/- Packed by a program of this repo: Mu En. -/
import Derived.Test.YtodoejfkjimeaaaGreatDoorKTMs
import Derived.Test.YtodoejfkjimeaaaGreatDoorKTLxPlain
set_option linter.unusedSimpArgs false
set_option linter.unusedVariables false
namespace Go.Proofs.YtodoejfkjimeaaaGreatDoor
open Go Go.RowKit Am

theorem below_fr {w w' : World} (h : Below w.heap.size w w') : Fr w (fun _ => False) w' :=
  ⟨h.os, h.tape, h.output, h.size, fun b hb _ => h.block b hb, fun b s hs => by
    have hb : b < w.heap.size := by
      unfold World.shape? at hs
      cases hx : w.heap[b]? with
      | none => rw [hx] at hs; cases hs
      | some _ => exact (Array.getElem?_eq_some_iff.1 hx).1
    unfold World.shape? at hs ⊢
    rw [h.block b hb]; exact hs⟩
theorem con_text {f : FuncId} {l : List UInt8} {v : Value} (hgo : goFn Tryz.prog f = true)
    (h : ∀ (s : ByteArray) (m : Int) (w : World), s.data.toList = l → w.cell? ⟨GB, 0, none⟩ = some (.int .i64 m) → Calls Tryz.prog f #[.string s] w fun e w' => e = .returned v ∧ Below w.heap.size w w') : Con Tryz.prog f [.s l] (.ret (.sc v)) := by
  refine ⟨hgo, fun M w vs hM hargs => ?_⟩
  obtain ⟨_, _, _, m, hm⟩ := hM
  obtain ⟨hn, hr⟩ := hargs
  have hvs : ∃ v, vs = #[v] := Array.size_eq_one_iff.1 hn
  obtain ⟨u, rfl⟩ := hvs
  have h0 := hr 0 u (.s l) rfl rfl
  cases h0 with
  | s b _ hl hb =>
    refine (h b m w hl hm).mono ?_
    rintro e w' ⟨rfl, hbw⟩
    exact ⟨.sc _, below_fr hbw⟩
theorem name_con (l : List UInt8) (hl : l.length ≤ 140737488351232) : Con Tryz.prog 10 [.s l] (.ret (.sc (.bool (nameL l)))) := by
  refine con_text (by kernel_rfl) (fun s m w hs hm => ?_)
  have := name_is s m w (by rw [← ByteArray.size_data, ← Array.length_toList, hs]; exact hl) hm
  rw [hs] at this; exact this
end Go.Proofs.YtodoejfkjimeaaaGreatDoor

set_option linter.unusedSimpArgs false
set_option linter.unusedVariables false
namespace Go.Proofs.YtodoejfkjimeaaaGreatDoor
open Go Go.RowKit Am

abbrev Tx := List UInt8
structure Vl where
  kind : Int
  n : Int
  text : Tx
inductive Ep where
  | mk (op kind n : Int) (text table name : Tx) (args : List Ep)
def Ep.op : Ep → Int | .mk o _ _ _ _ _ _ => o
def Ep.kind : Ep → Int | .mk _ k _ _ _ _ _ => k
def Ep.n : Ep → Int | .mk _ _ n _ _ _ _ => n
def Ep.text : Ep → Tx | .mk _ _ _ t _ _ _ => t
def Ep.table : Ep → Tx | .mk _ _ _ _ t _ _ => t
def Ep.name : Ep → Tx | .mk _ _ _ _ _ t _ => t
def Ep.args : Ep → List Ep | .mk _ _ _ _ _ _ l => l
def Ep.zero : Ep := .mk 0 0 0 [] [] [] []
mutual
def encE : Ep → List AV
  | .mk op kind n text table name args => [.sc (.int .i64 op), .sc (.int .i64 kind), .sc (.int .i64 n), .s text, .s table, .s name, .tr (encL args)]
def encL : List Ep → List (List AV)
  | [] => []
  | e :: l => encE e :: encL l
end
theorem encL_map (l : List Ep) : encL l = l.map encE := by
  induction l with
  | nil => rfl
  | cons e l ih => rw [encL, ih]; rfl
theorem encE_eq (e : Ep) : encE e = [.sc (.int .i64 e.op), .sc (.int .i64 e.kind), .sc (.int .i64 e.n), .s e.text, .s e.table, .s e.name, .tr (e.args.map encE)] := by
  cases e; rw [encE, encL_map]; rfl
theorem encE_len (e : Ep) : (encE e).length = 7 := by rw [encE_eq]; rfl
structure Cl where
  name : Tx
  kind : Int
  notNull : Bool
def encC (c : Cl) : List AV := [.s c.name, .sc (.int .i64 c.kind), .sc (.bool c.notNull)]
structure Ix where
  name : Tx
  at_ : Int
def encX (x : Ix) : List AV := [.s x.name, .sc (.int .i64 x.at_)]
structure Tb where
  name : Tx
  columns : List Cl
  key : Int
  indexes : List Ix
def encT (t : Tb) : List AV := [.s t.name, .tr (t.columns.map encC), .sc (.int .i64 t.key), .tr (t.indexes.map encX)]
attribute [go_sem] encE_len
theorem all_enc {α : Type} (f : α → List AV) (k : Nat) (h : ∀ x, (f x).length = k) (l : List α) : ((l.map f).all fun r => r.length == k) = true := by simp [h]
end Go.Proofs.YtodoejfkjimeaaaGreatDoor
