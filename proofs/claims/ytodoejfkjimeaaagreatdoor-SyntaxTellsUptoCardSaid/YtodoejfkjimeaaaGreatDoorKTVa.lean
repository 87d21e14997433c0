/- Packed by a program of this repo: Va. -/
import Derived.Test.YtodoejfkjimeaaaGreatDoorProg
import Derived.Test.YtodoejfkjimeaaaGreatDoorKTMs
import Derived.Lib.Builder
import Derived.Lib.UnsafeStr
set_option linter.unusedSimpArgs false
set_option linter.unusedVariables false
set_option maxRecDepth 100000
namespace Go.Proofs.YtodoejfkjimeaaaGreatDoor
open Go Go.RowKit Am

theorem cc_info : ∃ j, Tryz.prog.info? 53 = some j ∧ j.size = 2 := Option.map_eq_some_iff.1 (show (Tryz.prog.info? 53).map (·.size) = some 2 by kernel_rfl)
theorem cc_used_is (b : Nat) (w : World) (h0 : w.cell? ⟨b, 0, none⟩ = some (.pointer (some ⟨b, 0, none⟩))) :
    Calls Tryz.prog 86 #[.pointer (some ⟨b, 0, none⟩)] w fun e w' => e = .returned (.tuple #[]) ∧ w' = w := by
  obtain ⟨j, hj, hjs⟩ := cc_info
  go_enter Tryz.func86, Tryz.ntmps86
  go_wp2
  rw [Lib.run_neq_ptr_same w _ Tryz.underlying50 hj]
  go_wp2
  go_end0
  exact ⟨rfl, rfl⟩
set_option maxHeartbeats 1000000 in
theorem cc_fresh_is (t : Nat) (hl : liesAt Tryz.prog Tryz.prog.depth t (2 / Tryz.prog.cellsOf t) 0 53 1 = true) (b : Nat) (w : World) (h0 : w.cell? ⟨b, 0, none⟩ = some (.pointer none)) (hsh : w.shape? b = some (t, 2)) (hfz : w.frozen? ⟨b, 0, none⟩ = false) :
    Calls Tryz.prog 86 #[.pointer (some ⟨b, 0, none⟩)] w fun e w' => e = .returned (.tuple #[]) ∧ w' = w.setCell ⟨b, 0, none⟩ (.pointer (some ⟨b, 0, none⟩)) := by
  obtain ⟨j, hj, hjs⟩ := cc_info
  go_enter Tryz.func86, Tryz.ntmps86
  go_wp2
  rw [Lib.run_to_unsafe w ⟨b, 0, none⟩ Tryz.underlying50 Tryz.underlying137 hj (by rw [hjs]; decide) hsh (Nat.zero_lt_succ 1)]
  simp only [Result.andThen]
  rw [Oper.upon_value]
  go_wp2
  rw [run_callFunc_extern Tryz.func94 (by kernel_rfl) (by kernel_rfl) (by kernel_rfl) (e := Extern.AbiNoEscape.same) (by kernel_rfl)]
  rw [Lib.run_noEscape]
  simp only [Result.andThen]
  rw [Oper.upon_value]
  go_wp2
  rw [Lib.run_from_unsafe w ⟨b, 0, none⟩ Tryz.underlying137 Tryz.underlying50 hj hsh hl]
  simp only [Result.andThen]
  rw [Oper.upon_value]
  go_wp2
  go_end0
  exact ⟨rfl, rfl⟩
set_option maxHeartbeats 1000000 in
theorem bstr_is (b g cap : Nat) (p : Value) (l : List UInt8) (h0 : l ≠ []) (hc : l.length ≤ cap) (n : Nat) (hcn : cap ≤ n) (hlen : l.length ≤ 4611686018427387904) (w : World) (c1 : w.cell? ⟨b, 1, none⟩ = some (.slice (some ⟨g, 0, none⟩) l.length cap))
    (hsh : w.shape? g = some (5, n)) (hcell : ∀ j x, l[j]? = some x → w.cell? ((⟨g, 0, none⟩ : Addr).add j) = some (.int .u8 x.toNat)) :
    Calls Tryz.prog 17 #[.pointer (some ⟨b, 0, none⟩)] w fun e w' => e = .returned (.string ⟨l.toArray⟩) ∧ w' = w.drew.freeze ⟨g, 0, none⟩ l.length := by
  have hl0 : l.length ≠ 0 := by simpa using h0
  have c1' : w.drew.cell? ⟨b, 1, none⟩ = some (.slice (some ⟨g, 0, none⟩) l.length cap) := c1
  have hSD : (Builtin.unsafeSliceData_ #[51] 86 #[.slice (some ⟨g, 0, none⟩) l.length cap]).run Tryz.prog w.drew = .ok (.pointer (some ⟨g, 0, none⟩)) w.drew :=
    Lib.run_unsafeSliceData_row _ _ _ _ _ _ (by omega)
  have hUS : (Builtin.unsafeString_ #[86, 3] 9 #[.pointer (some ⟨g, 0, none⟩), .int .i64 l.length]).run Tryz.prog w.drew = .ok (.string ⟨l.toArray⟩) (w.drew.freeze ⟨g, 0, none⟩ l.length) :=
    Lib.run_unsafeString_row w.drew 86 3 9 5 Tryz.underlying86 (by kernel_rfl) g n hsh l h0 (by omega) (by omega) hcell
  go_enter Tryz.func17, Tryz.ntmps17
  go_wp2
  go_region
  all_goals (go_wp2; go_ret; exact ⟨rfl, rfl⟩)
theorem rt_inv {M : Nat → Prop} {w : World} {β : Nat → Option Nat} {v : Value} {i k t : Nat} (h : Rel M w β v (.rt i k t)) : ∃ b, v = .pointer (some ⟨b, 0, none⟩) ∧ β i = some b ∧ w.shape? b = some (t, k) := by
  cases h; exact ⟨_, rfl, by assumption, by assumption⟩
theorem ob_inv {M : Nat → Prop} {w : World} {β : Nat → Option Nat} {v : Value} {i len : Nat} (h : Rel M w β v (.ob i len)) : ∃ b cap n, v = .slice (some ⟨b, 0, none⟩) len cap ∧ β i = some b ∧ len ≤ cap ∧ w.shape? b = some (5, n) ∧ cap ≤ n := by
  cases h; exact ⟨_, _, _, rfl, by assumption, by assumption, by assumption, by assumption⟩
section
variable {N : Nat → Prop} {β : Nat → Option Nat} {σ : Hp} {F : Nat → Prop} {w w' : World}
theorem hrel_drop (H : HRel N β σ F w) {j g : Nat} {x : Ob} (hj : σ j = some x) (hw : x.wr = true) (hb : β j = some g)
    (hother : ∀ b, b ≠ g → w'.heap[b]? = w.heap[b]?) (hshape : ∀ b s, w.shape? b = some s → w'.shape? b = some s) :
    HRel N β (upd σ j none) F w' ∧ (∀ {β' v z}, Rel (live N β σ) w β' v z → Rel (live N β (upd σ j none)) w' β' v z) ∧ (∀ b, own β (upd σ j none) b → own β σ b) := by
  have hg : live N β σ g := .inr ⟨j, x, hj, hw, hb⟩
  have hσ : ∀ i y, upd σ j none i = some y → i ≠ j ∧ σ i = some y := by
    intro i y h
    by_cases e : i = j
    · subst e; simp at h
    · rw [upd_ne _ _ e] at h; exact ⟨e, h⟩
  have hl0 : ∀ b, own β (upd σ j none) b → own β σ b := by
    rintro b ⟨i, y, h1, h2, h3⟩
    exact ⟨i, y, (hσ i y h1).2, h2, h3⟩
  have hl : ∀ b, live N β (upd σ j none) b → live N β σ b := fun b h => h.imp (fun h => h) (hl0 b)
  have hcell : ∀ ad u, w.cell? ad = some u → ¬ live N β σ ad.block → w'.cell? ad = some u := fun ad u hc hn => by
    simpa only [World.cell?, hother ad.block (fun e => hn (by rw [e]; exact hg))] using hc
  have hne : ∀ i y b, upd σ j none i = some y → β i = some b → b ≠ g := by
    rintro i y b h1 h2 rfl
    obtain ⟨e, h3⟩ := hσ i y h1
    exact e (H.inj i j b h2 hb (by simp [h3]) (by simp [hj]))
  refine ⟨⟨fun i hi => ⟨(H.dom i hi).1, ?_⟩, fun i y b hx hb => H.off i y b (hσ i y hx).2 hb, fun i k b hi hk si sk => ?_, fun i y hx => ?_, fun i es wr hx => ?_, fun i L fr S st pe wr hx => ?_, fun i o wr hx => ?_⟩, fun hr => Rel.step (fun _ _ h => h) (fun b _ h => hl b h) hcell hshape hr, hl0⟩
  · by_cases e : i = j
    · subst e; simp
    · rw [upd_ne _ _ e]; exact (H.dom i hi).2
  · obtain ⟨y, hy⟩ := Option.isSome_iff_exists.1 si
    obtain ⟨z, hz⟩ := Option.isSome_iff_exists.1 sk
    exact H.inj i k b hi hk (by simp [(hσ i y hy).2]) (by simp [(hσ k z hz).2])
  · rcases H.blk i y (hσ i _ hx).2 with h0 | ⟨b, cells, e, h1, h2⟩
    · exact .inl h0
    · exact .inr ⟨b, cells, e, h1, h2.step (fun _ _ h => h) (fun b _ h => hl b h) hcell hshape (hother b (hne i _ b hx h1))⟩
  · obtain ⟨b, ms, cl, h1, h2⟩ := H.map i es wr (hσ i _ hx).2
    exact ⟨b, ms, cl, h1, h2.step (fun b _ h => hl b h) hcell hshape (hother b (hne i _ b hx h1))⟩
  · obtain ⟨b, tm, D, h1, h2⟩ := H.lp i L fr S st pe wr (hσ i _ hx).2
    exact ⟨b, tm, D, h1, h2.step (fun _ _ h => h) (fun b _ h => hl b h) hcell hshape (hother b (hne i _ b hx h1))⟩
  · obtain ⟨b, h1, h2⟩ := H.df i o wr (hσ i _ hx).2
    exact ⟨b, h1, (hother b (hne i _ b hx h1)).trans h2⟩
theorem hrel_free {F' : Nat → Prop} (H : HRel N β σ F w) (hF : ∀ i, F' i → F i) : HRel N β σ F' w :=
  ⟨fun i hi => H.dom i (hF i hi), H.off, H.inj, H.blk, H.map, H.lp, H.df⟩
theorem setCell_row {b : Nat} {cs : Array Value} {t : TypeId} {fr : Nat × Nat} (v : Value) (h : w.heap[b]? = some (.cells cs t fr)) : w.setCell ⟨b, 0, none⟩ v = w.setRow b (cs.setIfInBounds 0 v) := by
  unfold World.setCell World.setRow
  congr 1
  apply Array.ext_getElem?
  intro j
  rw [Array.getElem?_modify, Array.getElem?_modify]
  by_cases e : b = j
  · subst e; simp [h]
  · simp [e]
end
theorem cc_used (i t : Nat) (v : AV) (id : Nat) : ConW Tryz.prog 86 [.rt i 2 t] [(i, .c ⟨2, [[.rt i 2 t, v]], true, false⟩)] id (.ret (.tp [])) [] := by
  refine ⟨by kernel_rfl, fun N β σ F w vs hpre hid T hT hF hN H hargs => ?_⟩
  have hσ := hpre (i, _) List.mem_cons_self
  obtain ⟨u, rfl⟩ : ∃ u, vs = #[u] := Array.size_eq_one_iff.1 hargs.1
  have h0 := hargs.2 0 u _ rfl rfl
  obtain ⟨b, rfl, hb, hs⟩ := rt_inv h0
  obtain ⟨cells, e, h2, h3, h4, h4', h5⟩ := H.phys hσ hb
  obtain ⟨c0, hc0, hr0⟩ := h5 0 0 _ _ rfl rfl
  obtain ⟨b', rfl, hb', _⟩ := rt_inv hr0
  have hbb : b' = b := by
    have h1 : β i = some b' := hb'
    rw [hb] at h1; exact (Option.some.inj h1).symm
  subst hbb
  refine (cc_used_is b' w (blk_cell h2 hc0)).mono ?_
  rintro e' w' ⟨rfl, rfl⟩
  exact ⟨β, T, Nat.le_refl _, fun _ _ h => h, hrel_free H (fun _ h => h.1), .tp #[] [] rfl (fun _ _ _ h _ => by simp at h), Fr.refl _ _, fun _ h _ => h⟩
theorem cc_fresh (t : Nat) (hl : liesAt Tryz.prog Tryz.prog.depth t (2 / Tryz.prog.cellsOf t) 0 53 1 = true) (i : Nat) (v : AV) (id : Nat) :
    ConW Tryz.prog 86 [.rt i 2 t] [(i, .c ⟨2, [[.sc (.pointer none), v]], true, false⟩)] id (.ret (.tp [])) [(i, some (.c ⟨2, [[.rt i 2 t, v]], true, false⟩))] := by
  refine ⟨by kernel_rfl, fun N β σ F w vs hpre hid T hT hF hN H hargs => ?_⟩
  have hσ := hpre (i, _) List.mem_cons_self
  obtain ⟨u, rfl⟩ : ∃ u, vs = #[u] := Array.size_eq_one_iff.1 hargs.1
  have h0 := hargs.2 0 u _ rfl rfl
  obtain ⟨b, rfl, hb, hs⟩ := rt_inv h0
  obtain ⟨cells, e, h2, h3, h4, h4', h5⟩ := H.phys hσ hb
  obtain ⟨c0, hc0, hr0⟩ := h5 0 0 _ _ rfl rfl
  obtain ⟨c1, hc1, hr1⟩ := h5 0 1 _ _ rfl rfl
  have e0 := rel_sc hr0
  subst e0
  have hsz : cells.size = 2 := by simp only [World.shape?, h2, Option.some.injEq, Prod.mk.injEq] at hs; exact hs.2
  refine (cc_fresh_is t hl b w (blk_cell h2 hc0) hs (by simp [World.frozen?, h2])).mono ?_
  rintro e' w' ⟨rfl, rfl⟩
  rw [setCell_row _ h2]
  have R : SRel N w (own β σ) β [] β (fun _ => .tp []) σ F { tmps := #[], defers := [] } w := ⟨H, fun t => .tp #[] [] rfl (fun i u z h _ => by simp at h), Fr.refl _ _, fun _ h _ => h, hN, rfl, fun _ _ h => h⟩
  obtain ⟨R', _⟩ := R.set hσ rfl hb h2 (cells.setIfInBounds 0 (.pointer (some ⟨b, 0, none⟩))) (by simp) ⟨2, [[.rt i 2 t, v]], true, false⟩ (by simp [hsz]) (by simp) (by simp) (by
    intro p q r z hp hq
    cases p with
    | succ p => simp at hp
    | zero =>
      simp only [List.getElem?_cons_zero, Option.some.injEq] at hp
      subst hp
      match q, hq with
      | 0, hq => cases hq; exact ⟨_, by simp [hsz], .rt i 2 t b hb hs⟩
      | 1, hq => cases hq; exact ⟨c1, by simpa using hc1, hr1⟩
      | q + 2, hq => simp at hq)
  exact ⟨β, T, Nat.le_refl _, fun _ _ h => h, hrel_free R'.heap (fun _ h => h.1), .tp #[] [] rfl (fun _ _ _ h _ => by simp at h), R'.frame, R'.old⟩
theorem freeze_other (w : World) (g n b : Nat) (h : b ≠ g) : (w.drew.freeze ⟨g, 0, none⟩ n).heap[b]? = w.heap[b]? := by
  unfold World.freeze
  split
  · rfl
  · simp only [Array.getElem?_modify]
    rw [if_neg (Ne.symm h)]; rfl
theorem freeze_shape (w : World) (g n b : Nat) (s : TypeId × Nat) (h : w.shape? b = some s) : (w.drew.freeze ⟨g, 0, none⟩ n).shape? b = some s := by
  by_cases e : b = g
  · subst e
    unfold World.freeze
    split
    · exact h
    · unfold World.shape? at h ⊢
      simp only [Array.getElem?_modify, if_true]
      have h' : (match w.drew.heap[b]? with | some (.cells cells elem _) => some (elem, cells.size) | some (.view _ _) => none | _ => none) = some s ∨ True := .inr trivial
      cases hx : w.heap[b]? with
      | none => rw [hx] at h; cases h
      | some o =>
        rw [hx] at h
        have hx' : w.drew.heap[b]? = some o := hx
        rw [hx', Option.map_some]
        cases o <;> first | exact h | (rename_i c e f; obtain ⟨lo, hi⟩ := f; exact h)
  · unfold World.shape? at h ⊢
    rw [freeze_other w g n b e]; exact h
theorem bstr (i j t : Nat) (a : AV) (l : List UInt8) (h0 : l ≠ []) (hlen : l.length ≤ 4611686018427387904) (id : Nat) :
    ConW Tryz.prog 17 [.rt i 2 t] [(i, .c ⟨2, [[a, .ob j l.length]], true, false⟩), (j, .c ⟨1, byteRows l, true, true⟩)] id (.ret (.s l)) [(j, none)] := by
  refine ⟨by kernel_rfl, fun N β σ F w vs hpre hid T hT hF hN H hargs => ?_⟩
  have hσ := hpre (i, _) List.mem_cons_self
  have hj := hpre (j, _) (List.mem_cons_of_mem _ List.mem_cons_self)
  obtain ⟨u, rfl⟩ : ∃ u, vs = #[u] := Array.size_eq_one_iff.1 hargs.1
  have hx0 := hargs.2 0 u _ rfl rfl
  obtain ⟨b, rfl, hb, hs⟩ := rt_inv hx0
  obtain ⟨cells, e, h2, h3, h4, h4', h5⟩ := H.phys hσ hb
  obtain ⟨c1, hc1, hr1⟩ := h5 0 1 _ _ rfl rfl
  obtain ⟨g, cap, n, rfl, hb1, hl, hs1, hn⟩ := ob_inv hr1
  have hbj : β j = some g := hb1
  obtain ⟨cellsj, ej, k2, k3, k4, k4', k5⟩ := H.phys hj hbj
  refine (bstr_is b g cap (.pointer none) l h0 hl n hn hlen w (blk_cell h2 hc1) hs1 (fun q x hq => ?_)).mono ?_
  · obtain ⟨u, hu, hr⟩ := k5 q 0 [.sc (.int .u8 x.toNat)] (.sc (.int .u8 x.toNat)) (by simp only [byteRows, List.getElem?_map, hq, Option.map_some]) rfl
    rw [rel_sc hr] at hu
    rw [add_none, Nat.zero_add]
    exact blk_cell k2 (by simpa using hu)
  · rintro e' w' ⟨rfl, rfl⟩
    obtain ⟨g1, g2, g3⟩ := hrel_drop (w' := w.drew.freeze ⟨g, 0, none⟩ l.length) H hj rfl hbj (fun b hb => freeze_other w g _ b hb) (fun b s hs => freeze_shape w g _ b s hs)
    have hos : (w.drew.freeze ⟨g, 0, none⟩ l.length).os = w.os ∧ (w.drew.freeze ⟨g, 0, none⟩ l.length).tape = w.tape ∧ (w.drew.freeze ⟨g, 0, none⟩ l.length).output = w.output ∧ (w.drew.freeze ⟨g, 0, none⟩ l.length).heap.size = w.heap.size := by
      unfold World.freeze
      split
      · exact ⟨rfl, rfl, rfl, rfl⟩
      · exact ⟨rfl, rfl, rfl, by simp⟩
    exact ⟨β, T, Nat.le_refl _, fun _ _ h => h, hrel_free g1 (fun _ h => h.1), .s _ _ (by simp) (by omega),
      ⟨hos.1, hos.2.1, hos.2.2.1, Nat.le_of_eq hos.2.2.2.symm, fun b _ hb => freeze_other w g _ b (fun e => hb (e ▸ ⟨j, _, hj, rfl, hbj⟩)), fun b s hs => freeze_shape w g _ b s hs⟩, fun b h _ => g3 b h⟩
end Go.Proofs.YtodoejfkjimeaaaGreatDoor
