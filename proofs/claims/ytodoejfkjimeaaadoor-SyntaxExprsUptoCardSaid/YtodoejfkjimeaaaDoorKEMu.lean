/- Packed by a program of this repo: Mu. -/
import Derived.Test.YtodoejfkjimeaaaDoorKEMs
import Derived.Test.YtodoejfkjimeaaaDoorKELxPlain
set_option linter.unusedSimpArgs false
set_option linter.unusedVariables false
namespace Go.Proofs.YtodoejfkjimeaaaDoor
open Go Go.RowKit Am

theorem below_fr {w w' : World} (h : Below w.heap.size w w') : Fr w (fun _ => False) w' :=
  ⟨h.os, h.tape, h.output, h.size, fun b hb _ => h.block b hb, fun b s hs => by
    have hb : b < w.heap.size := by
      unfold World.shape? at hs
      cases hx : w.heap[b]? with
      | none => rw [hx] at hs; cases hs
      | some _ => exact (Array.getElem?_eq_some_iff.1 hx).1
    unfold World.shape? at hs ⊢
    rw [h.block b hb]; exact hs⟩
/-- a walk of one text that tells one plain value -/
theorem con_text {f : FuncId} {l : List UInt8} {v : Value} (hgo : goFn Tryd.prog f = true)
    (h : ∀ (s : ByteArray) (m : Int) (w : World), s.data.toList = l → w.cell? ⟨GB, 0, none⟩ = some (.int .i64 m) → Calls Tryd.prog f #[.string s] w fun e w' => e = .returned v ∧ Below w.heap.size w w') : Con Tryd.prog f [.s l] (.ret (.sc v)) := by
  refine ⟨hgo, fun M w vs hM hargs => ?_⟩
  obtain ⟨_, _, _, m, hm⟩ := hM
  obtain ⟨hn, hr⟩ := hargs
  have hvs : ∃ v, vs = #[v] := Array.size_eq_one_iff.1 hn
  obtain ⟨u, rfl⟩ := hvs
  have h0 := hr 0 u (.s l) rfl rfl
  cases h0 with
  | s b _ hl hb =>
    refine (h b m w hl hm).mono ?_
    rintro e w' ⟨rfl, hbw⟩
    exact ⟨.sc _, below_fr hbw⟩
theorem name_con (l : List UInt8) (hl : l.length ≤ 140737488351232) : Con Tryd.prog 25 [.s l] (.ret (.sc (.bool (nameL l)))) := by
  refine con_text (by kernel_rfl) (fun s m w hs hm => ?_)
  have := name_is s m w (by rw [← ByteArray.size_data, ← Array.length_toList, hs]; exact hl) hm
  rw [hs] at this; exact this
end Go.Proofs.YtodoejfkjimeaaaDoor
