/- Packed by a program of this repo: GbT. -/
import Derived.Test.YtlhnncmflnjinaaKCGc
import Derived.Deep.RegionLaw
import Derived.Shelf.Spec.SlicesInsert
import Derived.Test.YtlhnncmflnjinaaProg
set_option linter.unusedSimpArgs false
set_option linter.unusedVariables false
set_option maxRecDepth 100000
namespace Go.Proofs.Ytlhnncmflnjinaa
open Go Go.RowKit

theorem info0_tables : (Try.prog.info? 72).map (fun i => (i.zero, i.size, i.bytes)) = some (some (Value.agg #[.string ⟨#[]⟩, .slice none 0 0, .int .i64 0, .slice none 0 0]), 4, 72) := by kernel_rfl
theorem info_tables : ∃ i z, Try.prog.info? 72 = some i ∧ i.zero = some z ∧ i.size = 4 ∧ z.cells.size = 4 ∧ (∀ v ∈ z.cells, v.oneCell' = true) ∧ 0 < i.bytes ∧ i.bytes = 72 := by
  have h := info0_tables
  cases hi : Try.prog.info? 72 with
  | none => rw [hi] at h; cases h
  | some i =>
    rw [hi] at h
    simp only [Option.map_some, Option.some.injEq, Prod.mk.injEq] at h
    obtain ⟨h1, h2, h3⟩ := h
    refine ⟨i, _, rfl, h1, h2, rfl, ?_, by omega, h3⟩
    decide
theorem under_tables : Try.prog.underlying 32 = some (.slice 72) := Try.underlying32
set_option maxHeartbeats 4000000 in
theorem ins_shift_tables (b n c i : Nat) (cells : Array Value) (te : TypeId) (us : List Value) (va : Addr) (vc : Nat) (w : World) (hi : i < n) (hn63 : n ≤ 4611686018427387904) (hroom : n + 1 ≤ c) (hvb : va.block ≠ b)
    (hb : w.heap[b]? = some (.cells cells te (0, 0))) (hcap : ((c) * 4) ≤ cells.size) (hu : us.length = 4) (hvs : ∀ j v, us[j]? = some v → w.cell? (va.add j) = some v)
    (h1c : ∀ v ∈ cells.toList.take ((n) * 4), v.oneCell' = true) (h1v : ∀ v ∈ us, v.oneCell' = true)
    (vcells : Array Value) (ve : TypeId) (hva : w.heap[va.block]? = some (.cells vcells ve (0, 0))) :
    Calls Try.prog 68 #[.slice (some ⟨b, 0, none⟩) n c, .int .i64 i, .slice (some va) 1 vc] w fun e w' =>
      e = .returned (.slice (some ⟨b, 0, none⟩) (n + 1) c) ∧ w' = (w.drew.setRow b (rowPut cells ((i + 1) * 4) ((cells.toList.take ((n) * 4)).drop ((i) * 4)))).setRow b (rowPut (rowPut cells ((i + 1) * 4) ((cells.toList.take ((n) * 4)).drop ((i) * 4))) ((i) * 4) us) := by
  obtain ⟨i0, z, hi0, hz0, hsz0, hzs, hz1c, hby, hby'⟩ := info_tables
  have hsz : (Try.prog.info? 72).map (·.size) = some 4 := by rw [hi0]; simp [hsz0]
  have hkB : cells.size ≠ 0 := by omega
  have hov : ∀ lb cb, (callFunc 117 #[.slice (some va) 1 vc, .slice (some ⟨b, ((i + 1) * 4), none⟩) lb cb]).run Try.prog w = .ok (.value (.bool false)) w := fun lb cb => by
    rw [run_callFunc_extern Try.func117 (by kernel_rfl) (by kernel_rfl) (by kernel_rfl) (e := Extern.SlicesOverlaps.overlaps #[32, 32] #[4]) (by kernel_rfl),
      Lib.run_overlaps_apart w 32 4 72 under_tables 4 (fun w => by simp [sizeOf, typeInfo, hi0, hsz0]) va ⟨b, ((i + 1) * 4), none⟩ 1 vc lb cb hvb ve te vcells.size cells.size (by simp [World.shape?, hva]) (by simp [World.shape?, hb]) hkB (by simp [World.frozen?, hva]) (by simp [World.frozen?, hva])]
    rfl
  have hz2 : ¬ ((i : Int) = (n : Int)) := by omega
  have hw1 : IntKind.i64.wrap ((i : Int) + 1) = (i : Int) + 1 := by rw [IntKind.wrap_i64]; omega
  have hb1 : (0 : Int) ≤ (i : Int) + 1 := by omega
  have hin : i ≤ n := by omega
  have htn : ((i : Int) + 1).toNat = i + 1 := by omega
  have hb2 : ¬ (c = i + 1) := by omega
  have hb3 : (i : Int) ≤ (n : Int) + 1 := by omega
  have hb4 : ¬ (c = i) := by omega
  obtain ⟨D, hD⟩ : ∃ D, D = (cells.toList.take ((n) * 4)).drop ((i) * 4) := ⟨_, rfl⟩
  have hdl : D.length = ((n - i) * 4) := by rw [hD]; simp; omega
  have h1d : ∀ v ∈ D, v.oneCell' = true := fun v hv => h1c v (List.mem_of_mem_drop (hD ▸ hv))
  have hDc : ∀ j v, D[j]? = some v → cells[((i) * 4) + j]? = some v := fun j v hj => by
    rw [hD, List.getElem?_drop, List.getElem?_take] at hj
    split at hj
    · simpa using hj
    · cases hj
  rw [← hD]
  have hcp1 : ∀ ty dc sc, (Builtin.copy_ #[32, 32] ty #[.slice (some ⟨b, ((i + 1) * 4), none⟩) (n - i) dc, .slice (some ⟨b, ((i) * 4), none⟩) (n + 1 - i) sc]).run Try.prog w.drew = .ok (goInt (n - i : Nat)) (w.drew.setRow b (rowPut cells ((i + 1) * 4) D)) := fun ty dc sc =>
    run_copy_rowK w.drew _ _ ty 72 4 b ((i + 1) * 4) (n - i) dc ⟨b, ((i) * 4), none⟩ (n + 1 - i) sc cells te D under_tables hsz hb (n - i) (by simp only [Nat.min_def]; split <;> omega) (by omega)
      (fun j v hj => by rw [Am.add_none]; exact Am.blk_cell (w := w.drew) hb (hDc j v hj)) (by omega) h1d
  obtain ⟨C1, hC1⟩ : ∃ C1, C1 = rowPut cells ((i + 1) * 4) D := ⟨_, rfl⟩
  have hC1s : C1.size = cells.size := by rw [hC1]; exact rowPut_size (by omega)
  rw [← hC1] at hcp1 ⊢
  have hb1' : (w.drew.setRow b C1).heap[b]? = some (.cells C1 te (0, 0)) := setRow_heap w.drew b cells C1 _ _ hb
  have hcp2 : ∀ (W : World), (∀ g : Nat, W.heap[g]? = (w.drew.setRow b C1).heap[g]?) → ∀ ty dc, (Builtin.copy_ #[32, 32] ty #[.slice (some ⟨b, ((i) * 4), none⟩) (n + 1 - i) dc, .slice (some va) 1 vc]).run Try.prog W = .ok (goInt (1 : Nat)) (W.setRow b (rowPut C1 ((i) * 4) us)) := fun W hW ty dc =>
    run_copy_rowK W _ _ ty 72 4 b ((i) * 4) (n + 1 - i) dc va 1 vc C1 te us under_tables hsz (by rw [hW]; exact hb1') 1 (by simp only [Nat.min_def]; split <;> omega) (by omega)
      (fun j v hj => by
        have := hvs j v hj
        have hne : (va.add j).block ≠ b := by
          have : (va.add j).block = va.block := by unfold Addr.add; split <;> rfl
          rw [this]; exact hvb
        unfold World.cell? at this ⊢
        rw [hW, setRow_other w.drew b _ C1 hne]; exact this) (by omega) h1v
  clear hC1 hb1' hDc hD
  go_enter Try.func68, Try.ntmps68
  go_wp2_with (simp only [hov])
  go_region_law (refine step_copy_runI rfl _ _ 32 32 rfl (.slice (some ⟨b, ((i + 1) * 4), none⟩) (n - i) (c - (i + 1))) (.slice (some ⟨b, ((i) * 4), none⟩) (n + 1 - i) (c - i)) (by simp [Act.eval, Act.put]) (by simp [Act.eval, Act.put]) (hcp1 _ _ _) ?_)
  go_wp2_with (at_builtin; refine wpList_copy_runI _ rfl _ _ 32 32 rfl _ _ rfl rfl (hcp2 _ (fun _ => rfl) _ _) ?_)
  go_ret
  exact ⟨rfl, rfl⟩
set_option maxHeartbeats 4000000 in
theorem ins_room_tables (b n c : Nat) (cells : Array Value) (te : TypeId) (us : List Value) (va : Addr) (vc : Nat) (w : World) (hroom : n + 1 ≤ c)
    (hb : w.heap[b]? = some (.cells cells te (0, 0))) (hcap : ((c) * 4) ≤ cells.size) (hu : us.length = 4) (hvs : ∀ j v, us[j]? = some v → w.cell? (va.add j) = some v) (h1v : ∀ v ∈ us, v.oneCell' = true) :
    Calls Try.prog 68 #[.slice (some ⟨b, 0, none⟩) n c, .int .i64 n, .slice (some va) 1 vc] w fun e w' =>
      e = .returned (.slice (some ⟨b, 0, none⟩) (n + 1) c) ∧ w' = w.setRow b (rowPut cells ((n) * 4) us) := by
  obtain ⟨i0, z, hi0, hz0, hsz0, hzs, hz1c, hby, hby'⟩ := info_tables
  have hsrc : Src Try.prog i0.size 32 (.slice (some va) 1 vc) 1 us w := by
    rw [hsz0]
    exact Src.ofSlice w under_tables va 1 vc us (by omega) hvs h1v
  have hrun : ∀ ty, (Builtin.append_ #[32, 32] ty #[.slice (some ⟨b, 0, none⟩) n c, .slice (some va) 1 vc]).run Try.prog w = .ok (.slice (some ⟨b, 0, none⟩) (n + 1) c) (w.setRow b (rowPut cells ((n) * 4) us)) := fun ty => by
    have := run_append_rowK w 32 32 ty 72 i0 under_tables hi0 b n c (.slice (some va) 1 vc) 1 us hsrc hroom cells te hb (by rw [hsz0]; omega)
    rw [hsz0] at this
    simpa only [Nat.mul_one] using this
  clear hsrc
  go_enter Try.func68, Try.ntmps68
  go_wp2_with (at_builtin; refine Lib.wpList_append_run _ rfl _ _ _ _ rfl _ _ rfl rfl _ _ (hrun _) ?_)
  go_ret
  exact ⟨rfl, rfl⟩
set_option maxHeartbeats 4000000 in
theorem ins_end_tables (base : Option Addr) (n c : Nat) (cs us : List Value) (va : Addr) (vc : Nat) (w : World) (hnc : n ≤ c) (hroom : c < n + 1) (hbig : (n + 1) * 72 ≤ 140737488355328)
    (hcl : cs.length = ((n) * 4)) (hold : (Builtin.firstCells 4 n (.slice base n c)).run Try.prog w.drew = .ok cs.toArray w.drew) (hbn : base = none → n = 0)
    (hu : us.length = 4) (hvs : ∀ j v, us[j]? = some v → w.cell? (va.add j) = some v) (h1v : ∀ v ∈ us, v.oneCell' = true) :
    Calls Try.prog 68 #[.slice base n c, .int .i64 n, .slice (some va) 1 vc] w fun e w' =>
      ∃ ZC : Array Value, ZC.size = ((grownCap w (n + 1) c 72 - (n + 1)) * 4) ∧ e = .returned (.slice (some ⟨w.heap.size, 0, none⟩) (n + 1) (grownCap w (n + 1) c 72)) ∧
      w'.heap = w.heap.push (.cells ((cs ++ us).toArray ++ ZC) 72 (0, 0)) ∧ w'.os = w.os ∧ w'.tape = w.tape ∧ w'.output = w.output := by
  obtain ⟨i0, z, hi0, hz0, hsz0, hzs, hz1c, hby, hby'⟩ := info_tables
  have hsrc : Src Try.prog i0.size 32 (.slice (some va) 1 vc) 1 us w := by
    rw [hsz0]
    exact Src.ofSlice w under_tables va 1 vc us (by omega) hvs h1v
  have hzr : (Builtin.zeroCells z.cells (grownCap w (n + 1) c 72 - (n + 1))).size = ((grownCap w (n + 1) c 72 - (n + 1)) * 4) := by simp [Builtin.zeroCells, hzs]
  have hrun : ∀ ty, (Builtin.append_ #[32, 32] ty #[.slice base n c, .slice (some va) 1 vc]).run Try.prog w = _ := fun ty =>
    run_append_grow_src w 32 32 ty 72 i0 z under_tables hi0 hz0 base n c cs (by rw [hsz0]; exact hold) _ 1 us hsrc hroom (by omega) (by rw [hby']; exact growslice_fits hroom hbig)
  obtain ⟨ZC, hZC⟩ : ∃ ZC, ZC = Builtin.zeroCells z.cells (grownCap w (n + 1) c 72 - (n + 1)) := ⟨_, rfl⟩
  rw [← hZC] at hrun hzr
  clear hsrc hZC hz0 hzs hz1c
  go_enter Try.func68, Try.ntmps68
  cases base with
  | none =>
    have h0 := hbn rfl
    subst h0
    go_wp2_with (at_builtin; refine Lib.wpList_append_run _ rfl _ _ _ _ rfl _ _ rfl rfl _ _ (hrun _) ?_)
    go_ret
    exact ⟨ZC, hzr, rfl, rfl, rfl, rfl, rfl⟩
  | some a =>
    obtain ⟨ab, ao, asp⟩ := a
    go_wp2_with (at_builtin; refine Lib.wpList_append_run _ rfl _ _ _ _ rfl _ _ rfl rfl _ _ (hrun _) ?_)
    all_goals (go_ret; exact ⟨ZC, hzr, rfl, rfl, rfl, rfl, rfl⟩)
set_option maxHeartbeats 4000000 in
theorem ins_grow_tables (b n c i : Nat) (cells : Array Value) (te : TypeId) (us : List Value) (va : Addr) (vc : Nat) (w : World) (hi : i < n) (hnc : n ≤ c) (hroom : c < n + 1) (hbig : (n + 1) * 72 ≤ 140737488355328)
    (hb : w.heap[b]? = some (.cells cells te (0, 0))) (hcap : ((c) * 4) ≤ cells.size) (hu : us.length = 4) (hvs : ∀ j v, us[j]? = some v → w.cell? (va.add j) = some v)
    (h1c : ∀ v ∈ cells.toList.take ((n) * 4), v.oneCell' = true) (h1v : ∀ v ∈ us, v.oneCell' = true) (hvb : va.block < w.heap.size) :
    Calls Try.prog 68 #[.slice (some ⟨b, 0, none⟩) n c, .int .i64 i, .slice (some va) 1 vc] w fun e w' =>
      ∃ ROW R1 : Array Value, R1 = rowPut ROW ((i) * 4) us ∧ ROW.size = ((grownCap w (n + 1) c 72) * 4) ∧ ROW.toList.take ((i) * 4) = cells.toList.take ((i) * 4) ∧ e = .returned (.slice (some ⟨w.heap.size, 0, none⟩) (n + 1) (grownCap w (n + 1) c 72)) ∧
      ∃ W : World, W.heap = w.heap.push (.cells ROW 72 (0, 0)) ∧ W.os = w.os ∧ W.tape = w.tape ∧ W.output = w.output ∧ ∃ W2 : World, W2.heap = (W.setRow w.heap.size R1).heap ∧ W2.os = w.os ∧ W2.tape = w.tape ∧ W2.output = w.output ∧
      w' = W2.setRow w.heap.size (rowPut R1 ((i + 1) * 4) ((cells.toList.take ((n) * 4)).drop ((i) * 4))) := by
  obtain ⟨i0, z, hi0, hz0, hsz0, hzs, hz1c, hby, hby'⟩ := info_tables
  have hsz : (Try.prog.info? 72).map (·.size) = some 4 := by rw [hi0]; simp [hsz0]
  have hkk : (n : Int) + 1 - (i : Int) = ((n + 1 - i : Nat) : Int) := by omega
  have hik : i + (n + 1 - i) = n + 1 := by omega
  have hz2 : ¬ ((i : Int) = (n : Int)) := by omega
  have hz3 : (c : Int) < (n : Int) + 1 := by omega
  have hfc : (Builtin.firstCells 4 i (.slice (some ⟨b, 0, none⟩) i c)).run Try.prog w.drew = .ok (cells.toList.take ((i) * 4)).toArray w.drew :=
    run_firstCells_some w.drew 4 i ⟨b, 0, none⟩ i c _ (by simp; omega) (fun j u hu => by
      rw [List.getElem?_take] at hu
      split at hu
      · rw [Am.add_none, Nat.zero_add]; exact Am.blk_cell (w := w.drew) hb (by simpa using hu)
      · cases hu)
  have hrz : ∀ ty, (Builtin.append_ #[32, 3] ty #[.slice (some ⟨b, 0, none⟩) i c, .int .i64 ((n : Int) + 1 - (i : Int))]).run Try.prog w =
      .ok (.slice (some ⟨w.heap.size, 0, none⟩) (n + 1) (grownCap w (n + 1) c 72)) (w.drew.alloc (.cells ((cells.toList.take ((i) * 4)).toArray ++ Builtin.zeroCells z.cells (n + 1 - i) ++ Builtin.zeroCells z.cells (grownCap w (n + 1) c 72 - (n + 1))) 72)) := fun ty => by
    have h := Lib.run_append_grow_zeros w 32 3 ty 72 i0 z .i64 .i64 under_tables Try.underlying3 hi0 hz0 (some ⟨b, 0, none⟩) i c (cells.toList.take ((i) * 4)) (by rw [hsz0]; exact hfc) (n + 1 - i) (by omega) (by omega) (by omega) (by omega) (by rw [hby']; omega) (by rw [hby', hik]; exact growslice_fits hroom hbig)
    rw [hik] at h
    rw [hkk]
    exact h
  have hGn : n + 1 ≤ grownCap w (n + 1) c 72 := grownCap_ge w _ _ _
  have hG63 : grownCap w (n + 1) c 72 ≤ 9223372036854775807 := by
    have := grownCap_le_maxLen w (n + 1) c 72 (by unfold maxLen; omega)
    unfold maxLen at this
    omega
  obtain ⟨G, hG⟩ : ∃ G, G = grownCap w (n + 1) c 72 := ⟨_, rfl⟩
  rw [← hG] at hrz hGn hG63 ⊢
  have hzr : ∀ m, (Builtin.zeroCells z.cells m).size = ((m) * 4) := fun m => by simp [Builtin.zeroCells, hzs]
  obtain ⟨ROW, hROW⟩ : ∃ ROW : Array Value, ROW = (cells.toList.take ((i) * 4)).toArray ++ Builtin.zeroCells z.cells (n + 1 - i) ++ Builtin.zeroCells z.cells (G - (n + 1)) := ⟨_, rfl⟩
  rw [← hROW] at hrz
  have hRs : ROW.size = ((G) * 4) := by
    rw [hROW]
    simp only [Array.size_append, List.size_toArray, List.length_take, Array.length_toList, hzr]
    omega
  have hRt : ROW.toList.take ((i) * 4) = cells.toList.take ((i) * 4) := by
    rw [hROW]
    simp only [Array.toList_append, List.append_assoc]
    rw [List.take_append_of_le_length (by simp; omega), List.take_take, Nat.min_self]
  have hRl : ((n + 1) * 4) ≤ ROW.size := by omega
  obtain ⟨W1, hW1⟩ : ∃ W1, W1 = w.drew.alloc (.cells ROW 72) := ⟨_, rfl⟩
  rw [← hW1] at hrz
  have hbw : b < w.heap.size := (Array.getElem?_eq_some_iff.1 hb).1
  have hWN : W1.heap[w.heap.size]? = some (.cells ROW 72 (0, 0)) := by rw [hW1]; exact heap_alloc_new w.drew _
  have hWO : ∀ g, g < w.heap.size → W1.heap[g]? = w.heap[g]? := fun g hg => by rw [hW1]; exact Below.heap_alloc w.drew _ g hg
  obtain ⟨D, hD⟩ : ∃ D, D = (cells.toList.take ((n) * 4)).drop ((i) * 4) := ⟨_, rfl⟩
  have hdl : D.length = ((n - i) * 4) := by rw [hD]; simp; omega
  have h1d : ∀ v ∈ D, v.oneCell' = true := fun v hv => h1c v (List.mem_of_mem_drop (hD ▸ hv))
  have hDc : ∀ j v, D[j]? = some v → cells[((i) * 4) + j]? = some v := fun j v hj => by
    rw [hD, List.getElem?_drop, List.getElem?_take] at hj
    split at hj
    · simpa using hj
    · cases hj
  rw [← hD]
  obtain ⟨nb, hnb⟩ : ∃ nb, nb = w.heap.size := ⟨_, rfl⟩
  rw [← hnb] at hrz hWN hWO hvb hbw ⊢
  have hcpA : ∀ (W : World), (∀ g : Nat, W.heap[g]? = W1.heap[g]?) → ∀ ty dc, (Builtin.copy_ #[32, 32] ty #[.slice (some ⟨nb, ((i) * 4), none⟩) (n + 1 - i) dc, .slice (some va) 1 vc]).run Try.prog W = .ok (goInt (1 : Nat)) (W.setRow nb (rowPut ROW ((i) * 4) us)) := fun W hW ty dc =>
    run_copy_rowK W _ _ ty 72 4 nb ((i) * 4) (n + 1 - i) dc va 1 vc ROW 72 us under_tables hsz (by rw [hW]; exact hWN) 1 (by simp only [Nat.min_def]; split <;> omega) (by omega)
      (fun j v hj => by
        have := hvs j v hj
        have hne : (va.add j).block < nb := by
          have : (va.add j).block = va.block := by unfold Addr.add; split <;> rfl
          rw [this]; exact hvb
        unfold World.cell? at this ⊢
        rw [hW, hWO _ hne]; exact this) (by omega) h1v
  obtain ⟨R1, hR1⟩ : ∃ R1, R1 = rowPut ROW ((i) * 4) us := ⟨_, rfl⟩
  have hR1s : R1.size = ROW.size := by rw [hR1]; exact rowPut_size (by omega)
  rw [← hR1] at hcpA
  have HR1 := Lib.hid hR1; clear hR1
  have hWN1 : (W1.setRow nb R1).heap[nb]? = some (.cells R1 72 (0, 0)) := setRow_heap W1 nb ROW R1 _ _ hWN
  have hWO1 : ∀ g, g < nb → (W1.setRow nb R1).heap[g]? = w.heap[g]? := fun g hg => by rw [setRow_other W1 nb g R1 (by omega)]; exact hWO g hg
  have hcpB : ∀ (W : World), (∀ g : Nat, W.heap[g]? = (W1.setRow nb R1).heap[g]?) → ∀ ty dc sc, (Builtin.copy_ #[32, 32] ty #[.slice (some ⟨nb, ((i + 1) * 4), none⟩) (n - i) dc, .slice (some ⟨b, ((i) * 4), none⟩) (n - i) sc]).run Try.prog W = .ok (goInt (n - i : Nat)) (W.setRow nb (rowPut R1 ((i + 1) * 4) D)) := fun W hW ty dc sc =>
    run_copy_rowK W _ _ ty 72 4 nb ((i + 1) * 4) (n - i) dc ⟨b, ((i) * 4), none⟩ (n - i) sc R1 72 D under_tables hsz (by rw [hW]; exact hWN1) (n - i) (by simp only [Nat.min_def]; split <;> omega) (by omega)
      (fun j v hj => by
        rw [Am.add_none]
        exact Am.blk_cell (by rw [hW, hWO1 _ hbw]; exact hb) (hDc j v hj)) (by omega) h1d
  have hcpB' := hcpB ((W1.setRow nb R1).drew) (fun _ => rfl)
  clear hcpB
  have hWh : W1.heap = w.heap.push (.cells ROW 72 (0, 0)) ∧ W1.os = w.os ∧ W1.tape = w.tape ∧ W1.output = w.output := by
    subst hW1; exact ⟨rfl, rfl, rfl, rfl⟩
  have hw1 : IntKind.i64.wrap ((i : Int) + 1) = (i : Int) + 1 := by rw [IntKind.wrap_i64]; omega
  have hb1 : (0 : Int) ≤ (i : Int) + 1 := by omega
  have hin : i ≤ n := by omega
  have htn : ((i : Int) + 1).toNat = i + 1 := by omega
  have hb3 : (i : Int) ≤ (n : Int) := by omega
  have hGi : ¬ (G = i) := by omega
  have hGim : ¬ (G = i + 1) := by omega
  have hci : ¬ (c = i) := by omega
  clear hROW hzr hz0 hzs hz1c
  have HRs := Lib.hid hRs; have HRt := Lib.hid hRt; clear hRs hRt
  clear hkk hik hG hRl hWN hWO hWN1 hWO1 hdl hDc hfc
  clear hW1 hnb hD h1d
  go_enter Try.func68, Try.ntmps68
  go_wp2_with (first
    | (at_builtin; refine Lib.wpList_append_run _ rfl _ _ _ _ rfl _ _ rfl rfl _ _ (hrz _) ?_)
    | (at_builtin; refine wpList_copy_runI _ rfl _ _ 32 32 rfl _ _ rfl rfl (hcpA _ (fun _ => rfl) _ _) ?_))
  go_region_law (refine step_copy_runI rfl _ _ 32 32 rfl (.slice (some ⟨nb, ((i + 1) * 4), none⟩) (n - i) (G - (i + 1))) (.slice (some ⟨b, ((i) * 4), none⟩) (n - i) (c - i)) (by simp [Act.eval, Act.put]) (by simp [Act.eval, Act.put]) (hcpB' _ _ _) ?_)
  go_wp2
  go_ret
  exact ⟨ROW, R1, HR1.out, HRs.out, HRt.out, rfl, W1, hWh.1, hWh.2.1, hWh.2.2.1, hWh.2.2.2, (W1.setRow nb R1).drew, rfl, hWh.2.1, hWh.2.2.1, hWh.2.2.2, rfl⟩
set_option maxHeartbeats 4000000 in
theorem del_walk_tables (b n c i j : Nat) (cells : Array Value) (te : TypeId) (w : World) (hij : i < j) (hj : j ≤ n) (hnc : n ≤ c) (hB : n ≤ 4611686018427387904) (hb : w.heap[b]? = some (.cells cells te (0, 0))) (hcap : ((c) * 4) ≤ cells.size)
    (h1c : ∀ v ∈ cells.toList.take ((n) * 4), v.oneCell' = true) :
    Calls Try.prog 93 #[.slice (some ⟨b, 0, none⟩) n c, .int .i64 i, .int .i64 j] w fun e w' => ∃ (ZC : List Value) (C1 : Array Value) (W : World), ZC.length = ((j - i) * 4) ∧ C1 = rowPut cells ((i) * 4) ((cells.toList.take ((n) * 4)).drop ((j) * 4)) ∧
      e = .returned (.slice (some ⟨b, 0, none⟩) (i + (n - j)) c) ∧ (∀ g : Nat, W.heap[g]? = (w.drew.setRow b C1).heap[g]?) ∧ W.heap.size = w.heap.size ∧ W.os = w.os ∧ W.tape = w.tape ∧ W.output = w.output ∧ w' = W.setRow b (rowPut C1 ((i + (n - j)) * 4) ZC) := by
  obtain ⟨i0, z, hi0, hz0, hsz0, hzs, hz1c, hby, hby'⟩ := info_tables
  obtain ⟨D, hD⟩ : ∃ D, D = (cells.toList.take ((n) * 4)).drop ((j) * 4) := ⟨_, rfl⟩
  have hdl : D.length = ((n - j) * 4) := by rw [hD]; simp; omega
  have h1d : ∀ v ∈ D, v.oneCell' = true := fun v hv => h1c v (List.mem_of_mem_drop (hD ▸ hv))
  have hDc : ∀ q v, D[q]? = some v → cells[((j) * 4) + q]? = some v := fun q v hq => by
    rw [hD, List.getElem?_drop, List.getElem?_take] at hq
    split at hq
    · simpa using hq
    · cases hq
  rw [← hD]
  obtain ⟨C1, hC1⟩ : ∃ C1, C1 = rowPut cells ((i) * 4) D := ⟨_, rfl⟩
  have hC1s : C1.size = cells.size := by rw [hC1]; exact rowPut_size (by omega)
  have hap : ∀ (ad : Addr) (q : Nat), (n - j = 0 ∨ ad = ⟨b, ((j) * 4), none⟩) → ∀ ty, (Builtin.append_ #[32, 32] ty #[.slice (some ⟨b, 0, none⟩) i c, .slice (some ad) (n - j) q]).run Try.prog w.drew = .ok (.slice (some ⟨b, 0, none⟩) (i + (n - j)) c) (w.drew.setRow b C1) := fun ad q had ty => by
    have hsrc : Src Try.prog i0.size 32 (.slice (some ad) (n - j) q) (n - j) D w.drew := by
      rw [hsz0]
      refine Src.ofSlice w.drew under_tables ad (n - j) q D (by omega) (fun t v hv => ?_) h1d
      rcases had with had | had
      · have := (List.getElem?_eq_some_iff.1 hv).1
        rw [hdl, had] at this; omega
      · rw [had, Am.add_none]; exact Am.blk_cell (w := w.drew) hb (hDc t v hv)
    have := run_append_rowK w.drew 32 32 ty 72 i0 under_tables hi0 b i c (.slice (some ad) (n - j) q) (n - j) D hsrc (by omega) cells te hb (by rw [hsz0]; omega)
    rw [hsz0] at this
    rw [hC1]
    simpa only [Nat.mul_one] using this
  have hb1 : (w.drew.setRow b C1).heap[b]? = some (.cells C1 te (0, 0)) := setRow_heap w.drew b cells C1 _ _ hb
  have hcl : ∀ (W : World), (∀ g : Nat, W.heap[g]? = (w.drew.setRow b C1).heap[g]?) → ∀ ty q, (Builtin.clear_ #[32] ty #[.slice (some ⟨b, ((i + (n - j)) * 4), none⟩) (j - i) q]).run Try.prog W = .ok (.tuple #[]) (W.setRow b (rowPut C1 ((i + (n - j)) * 4) (Builtin.zeroCells z.cells (j - i)).toList)) := fun W hW ty q =>
    run_clear_rowK W _ _ ty i0 z under_tables hi0 hz0 hz1c b _ (j - i) q (by omega) C1 te (by rw [hW]; exact hb1) (by rw [hzs]; omega)
  have hZ : (Builtin.zeroCells z.cells (j - i)).toList.length = ((j - i) * 4) := by simp [Builtin.zeroCells, hzs]
  obtain ⟨ZC, hZC⟩ : ∃ ZC, ZC = (Builtin.zeroCells z.cells (j - i)).toList := ⟨_, rfl⟩
  rw [← hZC] at hcl hZ
  have hne : ¬ ((i : Int) = (j : Int)) := by omega
  have hin : i ≤ n := by omega
  have hic : i ≤ c := by omega
  have hjc : j ≤ c := by omega
  have hji : (i : Int) ≤ (j : Int) := by omega
  have hm1 : i + (n - j) ≤ n := by omega
  have hm2 : ((i + (n - j) : Nat) : Int) ≤ (n : Int) := by omega
  have hm3 : n - (i + (n - j)) = j - i := by omega
  have hW0 : n - j = 0 → ∀ g : Nat, w.drew.heap[g]? = (w.drew.setRow b C1).heap[g]? := fun h0 g => by
    have hD0 : D = [] := List.eq_nil_of_length_eq_zero (by simp [hdl, h0])
    have hCC : C1 = cells := by
      rw [hC1, hD0, rowPut]
      simp
    by_cases e : g = b
    · subst e; rw [setRow_heap w.drew g cells C1 _ _ hb, hCC]; exact hb
    · rw [setRow_other w.drew b g C1 e]
  have HC1 := Lib.hid hC1; clear hC1
  clear hZC hb1 hDc hD hdl h1d h1c hi0 hz0 hsz0 hzs hz1c hby hby' hC1s
  go_enter Try.func93, Try.ntmps93
  by_cases hcj : c = j
  · subst hcj
    have hnc' : n = c := by omega
    subst hnc'
    have hW0' := hW0 (Nat.sub_self _)
    have hcl' := hcl w.drew hW0'
    simp only [Nat.sub_self, Nat.add_zero] at hcl' ⊢
    have HW := Lib.hid hW0'
    clear hap hcl hW0 hW0'
    go_wp2
    go_region
    go_wp2_with (at_builtin; refine wpList_clear_runI _ rfl _ _ rfl _ rfl (hcl' _ _) ?_)
    go_ret
    exact ⟨ZC, C1, w.drew, hZ, HC1.out, rfl, HW.out, rfl, rfl, rfl, rfl, rfl⟩
  · clear hW0
    go_wp2
    go_region_law (refine step_append_runI rfl _ _ 32 32 rfl (.slice (some ⟨b, 0, none⟩) i c) (.slice (some ⟨b, ((j) * 4), none⟩) (n - j) (c - j)) (by simp [Act.eval, Act.put]) (by simp [Act.eval, Act.put, hcj]) (hap ⟨b, ((j) * 4), none⟩ (c - j) (.inr rfl) _) ?_)
    go_wp2_with (at_builtin; refine wpList_clear_runI _ rfl _ _ rfl _ rfl (hcl _ (fun _ => rfl) _ _) ?_)
    go_ret
    exact ⟨ZC, C1, w.drew.setRow b C1, hZ, HC1.out, rfl, fun _ => rfl, by simp, rfl, rfl, rfl, rfl⟩
theorem ins_calls_tables : InsCalls Try.prog 68 4 72 := by
  intro A n c i cs us va vc w hin hnc hbig hcl hu h1c h1v hbase hvb hvs
  obtain ⟨vcells, ve, hva⟩ := hvb
  have hvl : va.block < w.heap.size := (Array.getElem?_eq_some_iff.1 hva).1
  have hins : ∀ (base : Option Addr) (hroom : c < n + 1) (hold : (Builtin.firstCells 4 n (.slice base n c)).run Try.prog w.drew = .ok cs.toArray w.drew) (hbn : base = none → n = 0), i = n →
      Calls Try.prog 68 #[.slice base n c, .int .i64 i, .slice (some va) 1 vc] w (fun e w' => Remade 4 c (n + 1) (cs.take (i * 4) ++ us ++ cs.drop (i * 4)) base w e w') := by
    intro base hroom hold hbn hi
    subst hi
    refine (ins_end_tables base i c cs us va vc w hnc hroom hbig hcl hold hbn hu hvs h1v).mono ?_
    rintro e w' ⟨ZC, hZ, rfl, h1, h2, h3, h4⟩
    have hge := Am.grown_ge w (i + 1) c 72
    refine .new _ ((cs ++ us).toArray ++ ZC) 72 hge rfl h2 h3 h4 (by rw [h1]; simp) (fun g hg => by rw [h1, Array.getElem?_push_lt hg, Array.getElem?_eq_getElem hg]) (by rw [h1]; simp) ?_ ?_
    · simp only [Array.size_append, List.size_toArray, List.length_append, hcl, hu, hZ]; omega
    · simp only [Array.toList_append, List.append_assoc]
      rw [← List.append_assoc, List.take_append_of_le_length (by simp; omega), List.take_of_length_le (by simp; omega), List.take_of_length_le (l := cs) (by omega), List.drop_of_length_le (l := cs) (by omega), List.append_nil]
  rcases hbase with ⟨h0, hc0⟩ | ⟨b, cells, te, rfl, hne, hb, hcap, hcs⟩
  · have hi0 : i = n := by omega
    refine hins A (by omega) ?_ (fun _ => h0) hi0
    have hcs : cs = [] := List.eq_nil_of_length_eq_zero (by rw [hcl, h0])
    subst h0 hc0 hcs
    cases A with
    | none => exact run_firstCells_none w.drew 4 0 0 0
    | some ad => exact run_firstCells_some w.drew 4 0 ad 0 0 [] (by simp) (fun j u h => by simp at h)
  · have hcl' : cells = cells.toList.toArray := by simp
    have hlen : cells.toList.length = cells.size := by simp
    have h1c' : ∀ v ∈ cells.toList.take ((n) * 4), v.oneCell' = true := by rw [hcs]; exact h1c
    have hci : cs.take ((i) * 4) = cells.toList.take ((i) * 4) := by rw [← hcs, List.take_take, Nat.min_eq_left (by omega)]
    by_cases hi : i = n
    · by_cases hroom : n + 1 ≤ c
      · subst hi
        refine (ins_room_tables b i c cells te us va vc w hroom hb hcap hu hvs h1v).mono ?_
        rintro e w' ⟨rfl, rfl⟩
        have hrs : (rowPut cells ((i) * 4) us).size = cells.size := rowPut_size (by omega)
        refine .same b cells (rowPut cells ((i) * 4) us) te rfl (by omega) hroom hb rfl rfl rfl rfl (by simp) (fun g hg => setRow_other w b g _ hg) (setRow_heap w b cells _ _ _ hb) hrs ?_
        have hp := put_room (C := cells.toList) (us := us) (N := ((i) * 4)) (K := 4) (by omega) hu
        rw [← hcl'] at hp
        rw [show (i + 1) * 4 = ((i) * 4) + 4 by omega, hp, hcs]
        try simp only [Nat.mul_one]
        rw [List.take_of_length_le (l := cs) (by omega), List.drop_of_length_le (l := cs) (by omega), List.append_nil]
      · refine hins _ (by omega) ?_ (fun h => by cases h) hi
        rw [← hcs]
        exact run_firstCells_some w.drew 4 n ⟨b, 0, none⟩ n c _ (by simp; omega) (fun j u hu => by
          rw [List.getElem?_take] at hu
          split at hu
          · rw [Am.add_none, Nat.zero_add]; exact Am.blk_cell (w := w.drew) hb (by simpa using hu)
          · cases hu)
    · by_cases hroom : n + 1 ≤ c
      · refine (ins_shift_tables b n c i cells te us va vc w (by omega) (by omega) hroom (Ne.symm hne) hb hcap hu hvs h1c' h1v vcells ve hva).mono ?_
        rintro e w' ⟨rfl, rfl⟩
        have hdl : ((cells.toList.take ((n) * 4)).drop ((i) * 4)).length = ((n - i) * 4) := by simp; omega
        have hrs : (rowPut cells ((i + 1) * 4) ((cells.toList.take ((n) * 4)).drop ((i) * 4))).size = cells.size := rowPut_size (by omega)
        have hrs2 : (rowPut (rowPut cells ((i + 1) * 4) ((cells.toList.take ((n) * 4)).drop ((i) * 4))) ((i) * 4) us).size = cells.size := by rw [rowPut_size (by omega)]; exact hrs
        have hb2 := setRow_heap w.drew b cells (rowPut cells ((i + 1) * 4) ((cells.toList.take ((n) * 4)).drop ((i) * 4))) _ _ hb
        refine .same b cells _ te rfl (by omega) hroom hb rfl rfl rfl rfl (by simp) (fun g hg => by rw [setRow_other _ b g _ hg, setRow_other _ b g _ hg]; rfl) (setRow_heap _ b _ _ _ _ hb2) hrs2 ?_
        have hp := put_shift (C := cells.toList) (us := us) (I := ((i) * 4)) (N := ((n) * 4)) (K := 4) (by omega) (by omega) hu
        rw [← hcl', show ((i) * 4) + 4 = ((i + 1) * 4) by omega] at hp
        rw [show (n + 1) * 4 = ((n) * 4) + 4 by omega, hp, hcs]
        try simp only [Nat.mul_one]
        rw [hci]
      · refine (ins_grow_tables b n c i cells te us va vc w (by omega) hnc (by omega) hbig hb hcap hu hvs h1c' h1v hvl).mono ?_
        rintro e w' ⟨ROW, R1, hR1, hRs, hRt, rfl, W, hW, w1, w2, w3, W2, hW2, v1, v2, v3, rfl⟩
        have hge := Am.grown_ge w (n + 1) c 72
        obtain ⟨G, hG⟩ : ∃ G, G = grownCap w (n + 1) c 72 := ⟨_, rfl⟩
        rw [← hG] at hRs hge ⊢
        have hdl : ((cells.toList.take ((n) * 4)).drop ((i) * 4)).length = ((n - i) * 4) := by simp; omega
        have hR1s : R1.size = ROW.size := by rw [hR1]; exact rowPut_size (by omega)
        have hR2s : (rowPut R1 ((i + 1) * 4) ((cells.toList.take ((n) * 4)).drop ((i) * 4))).size = ROW.size := by rw [rowPut_size (by omega)]; exact hR1s
        have e1 : W.heap[w.heap.size]? = some (.cells ROW 72 (0, 0)) := by rw [hW]; simp
        have e2 : W2.heap[w.heap.size]? = some (.cells R1 72 (0, 0)) := by rw [hW2]; exact setRow_heap W _ ROW R1 _ _ e1
        have hsW : W2.heap.size = w.heap.size + 1 := by rw [hW2]; simp [hW]
        refine .new G _ 72 hge rfl v1 v2 v3 (by simp [hsW]) (fun g hg => ?_) (setRow_heap W2 _ R1 _ _ _ e2) (by rw [hR2s]; omega) ?_
        · rw [setRow_other W2 _ g _ (by omega), hW2, setRow_other W _ g _ (by omega), hW, Array.getElem?_push_lt hg, Array.getElem?_eq_getElem hg]
        · have hp := put_grow (R := ROW.toList) (us := us) (D := (cells.toList.take ((n) * 4)).drop ((i) * 4)) (I := ((i) * 4)) (N := ((n) * 4)) (K := 4) (by omega) (by simp; omega) hu (by rw [hdl] <;> omega)
          rw [show ROW.toList.toArray = ROW by simp, ← hR1, show ((i) * 4) + 4 = ((i + 1) * 4) by omega] at hp
          rw [show (n + 1) * 4 = ((n) * 4) + 4 by omega, hp, hRt, hcs]
          try simp only [Nat.mul_one]
          rw [hci]
theorem del_calls_tables : DelCalls Try.prog 93 4 := by
  intro b n c i j cells te w hij hj hnc hB hb hcap h1c
  refine (del_walk_tables b n c i j cells te w hij hj hnc hB hb hcap h1c).mono ?_
  rintro e w' ⟨ZC, C1, W, hZ, hC1, rfl, hW, hsz, g1, g2, g3, rfl⟩
  have hlen : cells.toList.length = cells.size := by simp
  have hdl : ((cells.toList.take ((n) * 4)).drop ((j) * 4)).length = ((n - j) * 4) := by simp; omega
  have hC1s : C1.size = cells.size := by rw [hC1]; exact rowPut_size (by omega)
  have hC2s : (rowPut C1 ((i + (n - j)) * 4) ZC).size = cells.size := by rw [rowPut_size (by omega)]; exact hC1s
  have e1 : W.heap[b]? = some (.cells C1 te (0, 0)) := by rw [hW]; exact setRow_heap w.drew b cells C1 _ _ hb
  have hm : n - (j - i) = i + (n - j) := by omega
  rw [hm]
  refine .same b cells _ te rfl (by omega) (by omega) hb rfl g1 g2 g3 (by simp [hsz]) (fun g hg => by rw [setRow_other W b g _ hg, hW, setRow_other w.drew b g _ hg]; rfl) (setRow_heap W b C1 _ _ _ e1) hC2s ?_
  have hp := put_cut (C := cells.toList) (D := (cells.toList.take ((n) * 4)).drop ((j) * 4)) (Z := ZC) (I := ((i) * 4)) (N := ((n) * 4)) (J := ((j) * 4)) (by omega) (by omega) (by omega) rfl (by rw [hZ] <;> omega)
  rw [show cells.toList.toArray = cells by simp, ← hC1, show ((i) * 4) + (((n) * 4) - ((j) * 4)) = ((i + (n - j)) * 4) by omega] at hp
  rw [show (i + (n - j)) * 4 = ((i + (n - j)) * 4) by omega, hp]
  try simp only [Nat.mul_one]
  rw [List.take_take, Nat.min_eq_left (by omega)]
end Go.Proofs.Ytlhnncmflnjinaa
