/- Packed by a program of this repo: Rx. -/
import Derived.Test.YtodoejfkjimeaaaDoorKERw
set_option linter.unusedSimpArgs false
set_option linter.unusedVariables false
set_option maxRecDepth 100000
namespace Go.Proofs.YtodoejfkjimeaaaDoor
open Go Go.RowKit Am Go.ChangeShapes Go.WideShapes Go.ChangeAt

theorem laid_out : laidOutB Tryd.prog = true := by kernel_rfl
theorem Fr.below {w w' : World} (h : Fr w (fun _ => False) w') : Below w.heap.size w w' := ⟨h.os, h.tape, h.output, h.size, fun k hk => h.block k hk (fun h => h)⟩
theorem trodAll_below {H : Type} {enc : TypeId × Value → H} {W W' : World} (hb : Below W.heap.size W W') : ∀ {ts : List TypeId} {vs : List Value} {ds : List (DataW H)} {ps : List MemPlace}, (∀ t ∈ ts, Tryd.prog.readableRec t = true ∧ t < Tryd.prog.types.size) →
    DataW.TrodAll enc Tryd.prog W 0 (fun _ => true) true ts vs ds ps → DataW.TrodAll enc Tryd.prog W' 0 (fun b => decide (b < W.heap.size)) true ts vs ds ps
  | [], vs, ds, ps, _, h => by
    obtain ⟨rfl, rfl, rfl⟩ := trodAll_nil h
    exact trodAll_mk0
  | t :: ts, vs, ds, ps, hr, h => by
    obtain ⟨v, vs, d, ds, p, q, rfl, rfl, rfl, h0, r0⟩ := trodAll_cons h
    refine trodAll_cons_mk (Below.trod laid_out (hr t (List.mem_cons_self ..)).1 (hr t (List.mem_cons_self ..)).2 h0 hb (fun x hx => ?_)) (trodAll_below hb (fun t ht => hr t (List.mem_cons_of_mem _ ht)) r0)
    obtain ⟨m, hm⟩ := h0
    exact DataW.trod_lt m _ _ _ hm x hx
/-- true, and what was handed in reads as it did -/
theorem post_true {H : Type} {enc : TypeId × Value → H} {f : Func} {s : ChangeSpec} {W W' : World} {args : Array Value} {ds gs : List (DataW H)} {before : List MemPlace} (hv : s.vars = []) (hr : f.resultTypes = #[4])
    (hp : ∀ t ∈ f.params.toList, Tryd.prog.readableRec t = true ∧ t < Tryd.prog.types.size) (hW : DataW.Whole enc Tryd.prog f.params.toList s.vars false W args.toList ds gs before)
    (hs : s.fn H (ds ++ gs) = { results := [.lit (.bool true)], args := ds }) (hb : Below W.heap.size W W') : s.post enc Tryd.prog f false true false false W args (.bool true) W' := by
  have hW' := hW
  rw [hv] at hW
  obtain ⟨p, q, hA, hV, rfl, hfz, hnd⟩ := hW
  obtain ⟨rfl, rfl⟩ := trodVars_none hV
  refine ⟨ds, [], p ++ [], [], p, [], hW', ?_, ?_, ?_, hb.frame _, fun h => by cases h⟩
  · rw [hs, hr]; exact trodAll_cons_mk (shut_bool Tryd.underlying4 _) trodAll_mk0
  · rw [hs]; exact trodAll_below hb hp hA
  · rw [hs, hv]; rfl
theorem agg_of_cells {v : Value} {cs : List Value} (h : v.cells.toList = cs) (h2 : 2 ≤ cs.length) : v = .agg cs.toArray := by
  cases v <;> simp [Value.cells] at h <;> subst h <;> simp at h2 ⊢
/-- what is handed in as a struct's value -/
theorem rel_agg {α : Type} {t : TypeId} {k : Nat} {f : α → List AV} {B : α → Prop} (hk : 2 ≤ k) (ho : ∀ n, Opens t k f B n) {H : Type} {enc : TypeId × Value → H} {W : World} {v : Value} {d : DataW H} {ps : List MemPlace} (h : DataW.Trod enc Tryd.prog W 0 (fun _ => true) true t v d ps) (hb : Rows.uptoBulk d ≤ 1048576) :
    ∃ a, B a ∧ Rel noB W nob v (.ag (f a)) := by
  obtain ⟨n, hn⟩ := h
  obtain ⟨a, h1, h2, h3, h4⟩ := ho n enc W _ _ hn hb
  refine ⟨a, h1, ?_⟩
  rw [agg_of_cells rfl (by omega : 2 ≤ v.cells.toList.length)]
  refine .ag _ _ (by simp at h2 ⊢; omega) (fun i u z hu hz => h4 i u z ?_ hz)
  simpa using hu
theorem away_of {W : World} (h : W.ShapedOpen Tryd.prog) : Aw noB noB W := by
  obtain ⟨m, hm⟩ := sh_MaxLen h
  exact ⟨fun b hb => hb.elim, fun h => h, fun h => h, m, hm⟩
end Go.Proofs.YtodoejfkjimeaaaDoor
