/- Packed by a program of this repo: Dj. -/
import Derived.Test.YtodoejfkjimeaaaGreatDoorKTDd
import Derived.Test.YtodoejfkjimeaaaGreatDoorKTCx
import Derived.Test.YtodoejfkjimeaaaGreatDoorKTVg
set_option linter.unusedSimpArgs false
set_option linter.unusedVariables false
set_option maxRecDepth 100000
namespace Go.Proofs.YtodoejfkjimeaaaGreatDoor
open Go Go.RowKit Am

def rfArgs (op : Int) : Int := if op < 0 ∨ 22 < op then -1 else if op ≤ 1 ∨ op = 18 then 0 else if op ≤ 3 ∨ 16 ≤ op then 1 else 2
set_option maxHeartbeats 4000000 in
theorem rfArgs_con (op : Int) : Con Tryz.prog 91 [.sc (.int .i64 op)] (.ret (.sc (.int .i64 (rfArgs op)))) := by
  refine con_of (by_ref04_args ?_)
  generalize hR : RC _ = R
  have HR := Lib.hid hR; clear hR
  by_cases h1 : op < 0
  · simp (maxSteps:=1000000) (disch:=omega) only [sh_ref04_args,go_sem,wrapI,wrapB,upd_is,upd_not,Nat.reduceAdd,Nat.reduceSub,Nat.reduceMul,Nat.reduceLeDiff,Nat.reduceEqDiff,Int.reduceAdd,Int.reduceSub,Int.reduceMul,Int.reduceNeg,Int.reduceLT,Int.reduceLE,Int.reduceEq,Int.reduceToNat,reduceCtorEq,reduceIte,Nat.zero_add,Nat.add_zero, *]
    rw [← HR.out]; exact RC_ret rfl (by simp [rfArgs, h1])
  · by_cases h2 : 22 < op
    · simp (maxSteps:=1000000) (disch:=omega) only [sh_ref04_args,go_sem,wrapI,wrapB,upd_is,upd_not,Nat.reduceAdd,Nat.reduceSub,Nat.reduceMul,Nat.reduceLeDiff,Nat.reduceEqDiff,Int.reduceAdd,Int.reduceSub,Int.reduceMul,Int.reduceNeg,Int.reduceLT,Int.reduceLE,Int.reduceEq,Int.reduceToNat,reduceCtorEq,reduceIte,Nat.zero_add,Nat.add_zero, *]
      rw [← HR.out]; exact RC_ret rfl (by simp [rfArgs, h2])
    · by_cases h3 : op ≤ 1
      · simp (maxSteps:=1000000) (disch:=omega) only [sh_ref04_args,go_sem,wrapI,wrapB,upd_is,upd_not,Nat.reduceAdd,Nat.reduceSub,Nat.reduceMul,Nat.reduceLeDiff,Nat.reduceEqDiff,Int.reduceAdd,Int.reduceSub,Int.reduceMul,Int.reduceNeg,Int.reduceLT,Int.reduceLE,Int.reduceEq,Int.reduceToNat,reduceCtorEq,reduceIte,Nat.zero_add,Nat.add_zero, *]
        rw [← HR.out]; exact RC_ret rfl (by rw [rfArgs, if_neg (by omega), if_pos (by omega)])
      · by_cases h4 : op = 18
        · simp (maxSteps:=1000000) (disch:=omega) only [sh_ref04_args,go_sem,wrapI,wrapB,upd_is,upd_not,Nat.reduceAdd,Nat.reduceSub,Nat.reduceMul,Nat.reduceLeDiff,Nat.reduceEqDiff,Int.reduceAdd,Int.reduceSub,Int.reduceMul,Int.reduceNeg,Int.reduceLT,Int.reduceLE,Int.reduceEq,Int.reduceToNat,reduceCtorEq,reduceIte,Nat.zero_add,Nat.add_zero, *]
          rw [← HR.out]; exact RC_ret rfl (by rw [rfArgs, if_neg (by omega), if_pos (by omega)])
        · by_cases h5 : op ≤ 3
          · simp (maxSteps:=1000000) (disch:=omega) only [sh_ref04_args,go_sem,wrapI,wrapB,upd_is,upd_not,Nat.reduceAdd,Nat.reduceSub,Nat.reduceMul,Nat.reduceLeDiff,Nat.reduceEqDiff,Int.reduceAdd,Int.reduceSub,Int.reduceMul,Int.reduceNeg,Int.reduceLT,Int.reduceLE,Int.reduceEq,Int.reduceToNat,reduceCtorEq,reduceIte,Nat.zero_add,Nat.add_zero, *]
            rw [← HR.out]; exact RC_ret rfl (by rw [rfArgs, if_neg (by omega), if_neg (by omega), if_pos (by omega)])
          · by_cases h6 : 16 ≤ op
            · simp (maxSteps:=1000000) (disch:=omega) only [sh_ref04_args,go_sem,wrapI,wrapB,upd_is,upd_not,Nat.reduceAdd,Nat.reduceSub,Nat.reduceMul,Nat.reduceLeDiff,Nat.reduceEqDiff,Int.reduceAdd,Int.reduceSub,Int.reduceMul,Int.reduceNeg,Int.reduceLT,Int.reduceLE,Int.reduceEq,Int.reduceToNat,reduceCtorEq,reduceIte,Nat.zero_add,Nat.add_zero, *]
              rw [← HR.out]; exact RC_ret rfl (by rw [rfArgs, if_neg (by omega), if_neg (by omega), if_pos (by omega)])
            · simp (maxSteps:=1000000) (disch:=omega) only [sh_ref04_args,go_sem,wrapI,wrapB,upd_is,upd_not,Nat.reduceAdd,Nat.reduceSub,Nat.reduceMul,Nat.reduceLeDiff,Nat.reduceEqDiff,Int.reduceAdd,Int.reduceSub,Int.reduceMul,Int.reduceNeg,Int.reduceLT,Int.reduceLE,Int.reduceEq,Int.reduceToNat,reduceCtorEq,reduceIte,Nat.zero_add,Nat.add_zero, *]
              rw [← HR.out]; exact RC_ret rfl (by rw [rfArgs, if_neg (by omega), if_neg (by omega), if_neg (by omega)])
theorem rfArgs_is (op : Int) (n : Nat) : (rfArgs op = n) = ((argsN op).2 = true ∧ (argsN op).1 = n) := by
  unfold rfArgs argsN
  apply propext
  constructor
  · intro h
    repeat' split at h
    all_goals first
      | omega
      | (repeat' split
         all_goals first
           | omega
           | exact ⟨rfl, by omega⟩
           | (refine ⟨?_, by omega⟩; simp; omega))
  · rintro ⟨h, h2⟩
    repeat' split at h
    all_goals first
      | (rename_i h3; rw [if_pos h3] at h2; simp only at h2
         repeat' split
         all_goals omega)
      | skip
    all_goals
      simp only [Bool.and_eq_true, decide_eq_true_eq] at h
      rename_i h3 h4
      rw [if_neg h3] at h2
      first
        | (rw [if_pos h4] at h2; simp only at h2; repeat' split; all_goals omega)
        | (rw [if_neg h4] at h2; simp only at h2; repeat' split; all_goals omega)
theorem wrap_le1 {n : Int} (h : rng n) : (IntKind.u64.wrap n ≤ 1) = (n = 0 ∨ n = 1) := by
  apply propext
  unfold rng at h
  have : IntKind.u64.wrap n = n % 18446744073709551616 := by simp [IntKind.wrap, IntKind.signed, IntKind.bits]
  rw [this]; omega
theorem valOk_eq {kind n : Int} {text : Tx} (hn : rng n) : valOk kind n text = if kind = 0 then decide (n = 0) && decide (text = []) else if kind = 1 then decide (text = []) else if kind = 2 then decide (text = []) && (decide (n = 0) || decide (n = 1)) else if kind = 3 then decide (n = 0) && decide ((text.length : Int) ≤ 64) else false := by
  unfold valOk
  simp only [wrap_le1 hn, Bool.decide_or]
set_option maxHeartbeats 4000000 in
theorem rfCheck_con (kind n : Int) (text : Tx) (hn : rng n) : Con Tryz.prog 92 [.ag [.sc (.int .i64 kind), .sc (.int .i64 n), .s text]] (.ret (.sc (.int .i64 (if valOk kind n text then 0 else 9)))) := by
  refine con_of (by_ref01_Check ?_)
  generalize hR : RC _ = R
  have HR := Lib.hid hR; clear hR
  have HV := Lib.hid (valOk_eq (kind := kind) (text := text) hn)
  clear hn
  by_cases k0 : kind = 0
  · by_cases n0 : n = 0
    · by_cases t0 : text = []
      · simp (maxSteps:=1000000) (disch:=omega) only [sh_ref01_Check,go_sem,wrapI,wrapB,upd_is,upd_not,Nat.reduceAdd,Nat.reduceSub,Nat.reduceMul,Nat.reduceLeDiff,Nat.reduceEqDiff,Int.reduceAdd,Int.reduceSub,Int.reduceMul,Int.reduceNeg,Int.reduceLT,Int.reduceLE,Int.reduceEq,Int.reduceToNat,reduceCtorEq,reduceIte,Nat.zero_add,Nat.add_zero, *]
        rw [← HR.out]; exact RC_ret rfl (by rw [HV.out]; simp [k0, n0, t0])
      · simp (maxSteps:=1000000) (disch:=omega) only [sh_ref01_Check,go_sem,wrapI,wrapB,upd_is,upd_not,Nat.reduceAdd,Nat.reduceSub,Nat.reduceMul,Nat.reduceLeDiff,Nat.reduceEqDiff,Int.reduceAdd,Int.reduceSub,Int.reduceMul,Int.reduceNeg,Int.reduceLT,Int.reduceLE,Int.reduceEq,Int.reduceToNat,reduceCtorEq,reduceIte,Nat.zero_add,Nat.add_zero, *]
        rw [← HR.out]; exact RC_ret rfl (by rw [HV.out]; simp [k0, n0, t0])
    · simp (maxSteps:=1000000) (disch:=omega) only [sh_ref01_Check,go_sem,wrapI,wrapB,upd_is,upd_not,Nat.reduceAdd,Nat.reduceSub,Nat.reduceMul,Nat.reduceLeDiff,Nat.reduceEqDiff,Int.reduceAdd,Int.reduceSub,Int.reduceMul,Int.reduceNeg,Int.reduceLT,Int.reduceLE,Int.reduceEq,Int.reduceToNat,reduceCtorEq,reduceIte,Nat.zero_add,Nat.add_zero, *]
      rw [← HR.out]; exact RC_ret rfl (by rw [HV.out]; simp [k0, n0])
  · by_cases k1 : kind = 1
    · by_cases t0 : text = []
      · simp (maxSteps:=1000000) (disch:=omega) only [sh_ref01_Check,go_sem,wrapI,wrapB,upd_is,upd_not,Nat.reduceAdd,Nat.reduceSub,Nat.reduceMul,Nat.reduceLeDiff,Nat.reduceEqDiff,Int.reduceAdd,Int.reduceSub,Int.reduceMul,Int.reduceNeg,Int.reduceLT,Int.reduceLE,Int.reduceEq,Int.reduceToNat,reduceCtorEq,reduceIte,Nat.zero_add,Nat.add_zero, *]
        rw [← HR.out]; exact RC_ret rfl (by rw [HV.out]; simp [k1, t0])
      · simp (maxSteps:=1000000) (disch:=omega) only [sh_ref01_Check,go_sem,wrapI,wrapB,upd_is,upd_not,Nat.reduceAdd,Nat.reduceSub,Nat.reduceMul,Nat.reduceLeDiff,Nat.reduceEqDiff,Int.reduceAdd,Int.reduceSub,Int.reduceMul,Int.reduceNeg,Int.reduceLT,Int.reduceLE,Int.reduceEq,Int.reduceToNat,reduceCtorEq,reduceIte,Nat.zero_add,Nat.add_zero, *]
        rw [← HR.out]; exact RC_ret rfl (by rw [HV.out]; simp [k1, t0])
    · by_cases k2 : kind = 2
      · by_cases t0 : text = []
        · by_cases n0 : n = 0
          · simp (maxSteps:=1000000) (disch:=omega) only [sh_ref01_Check,go_sem,wrapI,wrapB,upd_is,upd_not,Nat.reduceAdd,Nat.reduceSub,Nat.reduceMul,Nat.reduceLeDiff,Nat.reduceEqDiff,Int.reduceAdd,Int.reduceSub,Int.reduceMul,Int.reduceNeg,Int.reduceLT,Int.reduceLE,Int.reduceEq,Int.reduceToNat,reduceCtorEq,reduceIte,Nat.zero_add,Nat.add_zero, *]
            rw [← HR.out]; exact RC_ret rfl (by rw [HV.out]; simp [k2, n0, t0])
          · by_cases n1 : n = 1
            · simp (maxSteps:=1000000) (disch:=omega) only [sh_ref01_Check,go_sem,wrapI,wrapB,upd_is,upd_not,Nat.reduceAdd,Nat.reduceSub,Nat.reduceMul,Nat.reduceLeDiff,Nat.reduceEqDiff,Int.reduceAdd,Int.reduceSub,Int.reduceMul,Int.reduceNeg,Int.reduceLT,Int.reduceLE,Int.reduceEq,Int.reduceToNat,reduceCtorEq,reduceIte,Nat.zero_add,Nat.add_zero, *]
              rw [← HR.out]; exact RC_ret rfl (by rw [HV.out]; simp [k2, n1, t0])
            · simp (maxSteps:=1000000) (disch:=omega) only [sh_ref01_Check,go_sem,wrapI,wrapB,upd_is,upd_not,Nat.reduceAdd,Nat.reduceSub,Nat.reduceMul,Nat.reduceLeDiff,Nat.reduceEqDiff,Int.reduceAdd,Int.reduceSub,Int.reduceMul,Int.reduceNeg,Int.reduceLT,Int.reduceLE,Int.reduceEq,Int.reduceToNat,reduceCtorEq,reduceIte,Nat.zero_add,Nat.add_zero, *]
              rw [← HR.out]; exact RC_ret rfl (by rw [HV.out]; simp [k2, n0, n1, t0])
        · simp (maxSteps:=1000000) (disch:=omega) only [sh_ref01_Check,go_sem,wrapI,wrapB,upd_is,upd_not,Nat.reduceAdd,Nat.reduceSub,Nat.reduceMul,Nat.reduceLeDiff,Nat.reduceEqDiff,Int.reduceAdd,Int.reduceSub,Int.reduceMul,Int.reduceNeg,Int.reduceLT,Int.reduceLE,Int.reduceEq,Int.reduceToNat,reduceCtorEq,reduceIte,Nat.zero_add,Nat.add_zero, *]
          rw [← HR.out]; exact RC_ret rfl (by rw [HV.out]; simp [k2, t0])
      · by_cases k3 : kind = 3
        · by_cases n0 : n = 0
          · by_cases t0 : (text.length : Int) ≤ 64
            · simp (maxSteps:=1000000) (disch:=omega) only [sh_ref01_Check,go_sem,wrapI,wrapB,upd_is,upd_not,Nat.reduceAdd,Nat.reduceSub,Nat.reduceMul,Nat.reduceLeDiff,Nat.reduceEqDiff,Int.reduceAdd,Int.reduceSub,Int.reduceMul,Int.reduceNeg,Int.reduceLT,Int.reduceLE,Int.reduceEq,Int.reduceToNat,reduceCtorEq,reduceIte,Nat.zero_add,Nat.add_zero, *]
              rw [← HR.out]; exact RC_ret rfl (by rw [HV.out]; simp [k3, n0]; omega)
            · simp (maxSteps:=1000000) (disch:=omega) only [sh_ref01_Check,go_sem,wrapI,wrapB,upd_is,upd_not,Nat.reduceAdd,Nat.reduceSub,Nat.reduceMul,Nat.reduceLeDiff,Nat.reduceEqDiff,Int.reduceAdd,Int.reduceSub,Int.reduceMul,Int.reduceNeg,Int.reduceLT,Int.reduceLE,Int.reduceEq,Int.reduceToNat,reduceCtorEq,reduceIte,Nat.zero_add,Nat.add_zero, *]
              rw [← HR.out]; exact RC_ret rfl (by rw [HV.out]; simp [k3, n0]; omega)
          · simp (maxSteps:=1000000) (disch:=omega) only [sh_ref01_Check,go_sem,wrapI,wrapB,upd_is,upd_not,Nat.reduceAdd,Nat.reduceSub,Nat.reduceMul,Nat.reduceLeDiff,Nat.reduceEqDiff,Int.reduceAdd,Int.reduceSub,Int.reduceMul,Int.reduceNeg,Int.reduceLT,Int.reduceLE,Int.reduceEq,Int.reduceToNat,reduceCtorEq,reduceIte,Nat.zero_add,Nat.add_zero, *]
            rw [← HR.out]; exact RC_ret rfl (by rw [HV.out]; simp [k3, n0])
        · simp (maxSteps:=1000000) (disch:=omega) only [sh_ref01_Check,go_sem,wrapI,wrapB,upd_is,upd_not,Nat.reduceAdd,Nat.reduceSub,Nat.reduceMul,Nat.reduceLeDiff,Nat.reduceEqDiff,Int.reduceAdd,Int.reduceSub,Int.reduceMul,Int.reduceNeg,Int.reduceLT,Int.reduceLE,Int.reduceEq,Int.reduceToNat,reduceCtorEq,reduceIte,Nat.zero_add,Nat.add_zero, *]
          rw [← HR.out]; exact RC_ret rfl (by rw [HV.out]; simp [k0, k1, k2, k3])
end Go.Proofs.YtodoejfkjimeaaaGreatDoor
set_option maxRecDepth 100000
namespace Go.Proofs.YtodoejfkjimeaaaGreatDoor
open Go Go.RowKit Am

theorem lowerB_num (c : UInt8) : ((lowerB c).toNat : Int) = if 65 ≤ (c.toNat : Int) ∧ (c.toNat : Int) ≤ 90 then (c.toNat : Int) + 32 else c.toNat := by
  have h : ∀ n : Fin 256, (lowerB (UInt8.ofNat n.val)).toNat = if 65 ≤ n.val ∧ n.val ≤ 90 then n.val + 32 else n.val := by decide +kernel
  have := h ⟨c.toNat, UInt8.toNat_lt c⟩
  simp only [UInt8.ofNat_toNat] at this
  rw [this]
  split
  · rename_i h1; rw [if_pos (by omega)]; rfl
  · rename_i h1; rw [if_neg (by omega)]
theorem of_lowers (l : List UInt8) : (l.map fun x => UInt8.ofNat ((lowerB x).toNat : Int).toNat) = lowerL l := by
  unfold lowerL
  exact List.map_congr_left fun c _ => by simp
set_option maxHeartbeats 4000000 in
theorem rfLower_con (l : List UInt8) (hl : l.length ≤ 1048576) : Con Tryz.prog 69 [.s l] (.ret (.s (lowerL l))) := by
  refine con_of (by_ref03_Lower ?_)
  generalize hR : RC _ = R
  have HR := Lib.hid hR; clear hR
  rw [sh_ref03_Lower]
  refine LOOP_listM l (fun i s σ' n' => ∃ a b c ov, s = [a, b, c, ov, .sc (.int .i64 i)] ∧ ((i = 0 ∧ ov = .em) ∨ ∃ i1, i1 < n' ∧ ov = .ow i1 1 0 i ∧ σ' i1 = some (.c ⟨1, (l.take i).map (fun x => [.sc (.int .u8 ((lowerB x).toNat : Nat))]), true, true⟩))) (.refl ⟨_, _, _, _, rfl, .inl ⟨rfl, rfl⟩⟩) ?_ ?_
  · rintro i c K s' σ' n2 hx hi hi' hn ⟨a, b, d, ov, rfl, hov⟩ hK
    have HK := Lib.hid hK; clear hK
    have ht : (l.take (i + 1)).map (fun x => [AV.sc (.int .u8 ((lowerB x).toNat : Nat))]) = (l.take i).map (fun x => [AV.sc (.int .u8 ((lowerB x).toNat : Nat))]) ++ [[AV.sc (.int .u8 ((lowerB c).toNat : Nat))]] := by rw [List.take_add_one, hx, List.map_append]; rfl
    have HT := Lib.hid ht; clear ht
    have hlt := UInt8.toNat_lt c
    have hnum := Lib.hid (lowerB_num c)
    rcases hov with ⟨rfl, rfl⟩ | ⟨i1, hl1, rfl, hs1⟩
    · skip
      by_cases h1 : 65 ≤ (c.toNat : Int)
      · by_cases h2 : (c.toNat : Int) ≤ 90
        · simp (maxSteps:=1000000) (disch:=omega) only [lb_ref03_Lower2,go_sem,wrapI,wrapB,upd_is,upd_not,Nat.reduceAdd,Nat.reduceSub,Nat.reduceMul,Nat.reduceLeDiff,Nat.reduceEqDiff,Int.reduceAdd,Int.reduceSub,Int.reduceMul,Int.reduceNeg,Int.reduceLT,Int.reduceLE,Int.reduceEq,Int.reduceToNat,reduceCtorEq,reduceIte,Nat.zero_add,Nat.add_zero, *]
          intro _
          refine HK.out _ _ _ (.refl ⟨_, _, _, _, rfl, .inr ⟨n2 + 16, by omega, rfl, ?_⟩⟩)
          rw [upd_is rfl, HT.out, hnum.out, if_pos ⟨h1, h2⟩]; rfl
        · simp (maxSteps:=1000000) (disch:=omega) only [lb_ref03_Lower2,go_sem,wrapI,wrapB,upd_is,upd_not,Nat.reduceAdd,Nat.reduceSub,Nat.reduceMul,Nat.reduceLeDiff,Nat.reduceEqDiff,Int.reduceAdd,Int.reduceSub,Int.reduceMul,Int.reduceNeg,Int.reduceLT,Int.reduceLE,Int.reduceEq,Int.reduceToNat,reduceCtorEq,reduceIte,Nat.zero_add,Nat.add_zero, *]
          intro _
          refine HK.out _ _ _ (.refl ⟨_, _, _, _, rfl, .inr ⟨n2 + 16, by omega, rfl, ?_⟩⟩)
          rw [upd_is rfl, HT.out, hnum.out, if_neg (by omega)]; rfl
      · simp (maxSteps:=1000000) (disch:=omega) only [lb_ref03_Lower2,go_sem,wrapI,wrapB,upd_is,upd_not,Nat.reduceAdd,Nat.reduceSub,Nat.reduceMul,Nat.reduceLeDiff,Nat.reduceEqDiff,Int.reduceAdd,Int.reduceSub,Int.reduceMul,Int.reduceNeg,Int.reduceLT,Int.reduceLE,Int.reduceEq,Int.reduceToNat,reduceCtorEq,reduceIte,Nat.zero_add,Nat.add_zero, *]
        intro _
        refine HK.out _ _ _ (.refl ⟨_, _, _, _, rfl, .inr ⟨n2 + 16, by omega, rfl, ?_⟩⟩)
        rw [upd_is rfl, HT.out, hnum.out, if_neg (by omega)]; rfl
    · have hl' : (List.take i l).length = i := by rw [List.length_take]; omega
      have c1 : (i + 1) * 1 ≤ 140737488355328 := by omega
      have c3 : i + 1 ≤ 140737488355328 := by omega
      have c2 : ¬ i1 = n2 + 16 := by omega
      skip
      by_cases h1 : 65 ≤ (c.toNat : Int)
      · by_cases h2 : (c.toNat : Int) ≤ 90
        · simp (maxSteps:=1000000) (disch:=omega) only [lb_ref03_Lower2,go_sem,wrapI,wrapB,upd_is,upd_not,Nat.reduceAdd,Nat.reduceSub,Nat.reduceMul,Nat.reduceLeDiff,Nat.reduceEqDiff,Int.reduceAdd,Int.reduceSub,Int.reduceMul,Int.reduceNeg,Int.reduceLT,Int.reduceLE,Int.reduceEq,Int.reduceToNat,reduceCtorEq,reduceIte,Nat.zero_add,Nat.add_zero, *]
          intro _
          refine HK.out _ _ _ (.refl ⟨_, _, _, _, rfl, .inr ⟨n2 + 16, by omega, rfl, ?_⟩⟩)
          rw [upd_is rfl, HT.out, hnum.out, if_pos ⟨h1, h2⟩]
        · simp (maxSteps:=1000000) (disch:=omega) only [lb_ref03_Lower2,go_sem,wrapI,wrapB,upd_is,upd_not,Nat.reduceAdd,Nat.reduceSub,Nat.reduceMul,Nat.reduceLeDiff,Nat.reduceEqDiff,Int.reduceAdd,Int.reduceSub,Int.reduceMul,Int.reduceNeg,Int.reduceLT,Int.reduceLE,Int.reduceEq,Int.reduceToNat,reduceCtorEq,reduceIte,Nat.zero_add,Nat.add_zero, *]
          intro _
          refine HK.out _ _ _ (.refl ⟨_, _, _, _, rfl, .inr ⟨n2 + 16, by omega, rfl, ?_⟩⟩)
          rw [upd_is rfl, HT.out, hnum.out, if_neg (by omega)]
      · simp (maxSteps:=1000000) (disch:=omega) only [lb_ref03_Lower2,go_sem,wrapI,wrapB,upd_is,upd_not,Nat.reduceAdd,Nat.reduceSub,Nat.reduceMul,Nat.reduceLeDiff,Nat.reduceEqDiff,Int.reduceAdd,Int.reduceSub,Int.reduceMul,Int.reduceNeg,Int.reduceLT,Int.reduceLE,Int.reduceEq,Int.reduceToNat,reduceCtorEq,reduceIte,Nat.zero_add,Nat.add_zero, *]
        intro _
        refine HK.out _ _ _ (.refl ⟨_, _, _, _, rfl, .inr ⟨n2 + 16, by omega, rfl, ?_⟩⟩)
        rw [upd_is rfl, HT.out, hnum.out, if_neg (by omega)]
  · rintro K s' σ' n2 hn ⟨a, b, d, ov, rfl, hov⟩
    rcases hov with ⟨h, rfl⟩ | ⟨i1, h1, rfl, h⟩
    · have h3 := List.eq_nil_of_length_eq_zero h
      subst h3
      simp (maxSteps:=1000000) (disch:=omega) only [lb_ref03_Lower2,Int.lt_irrefl,List.length_nil,go_sem,wrapI,wrapB,upd_is,upd_not,Nat.reduceAdd,Nat.reduceSub,Nat.reduceMul,Nat.reduceLeDiff,Nat.reduceEqDiff,Int.reduceAdd,Int.reduceSub,Int.reduceMul,Int.reduceNeg,Int.reduceLT,Int.reduceLE,Int.reduceEq,Int.reduceToNat,reduceCtorEq,reduceIte,Nat.zero_add,Nat.add_zero, *]
      rw [← HR.out]; exact RC_ret rfl rfl
    · rw [List.take_length] at h
      have hc := aCvb_all h rfl (by omega)
      rw [of_lowers] at hc
      clear h
      simp (maxSteps:=1000000) (disch:=omega) only [lb_ref03_Lower2,Int.lt_irrefl,go_sem,wrapI,wrapB,upd_is,upd_not,Nat.reduceAdd,Nat.reduceSub,Nat.reduceMul,Nat.reduceLeDiff,Nat.reduceEqDiff,Int.reduceAdd,Int.reduceSub,Int.reduceMul,Int.reduceNeg,Int.reduceLT,Int.reduceLE,Int.reduceEq,Int.reduceToNat,reduceCtorEq,reduceIte,Nat.zero_add,Nat.add_zero, *]
      intro _
      rw [← HR.out]; exact RC_ret rfl rfl
set_option maxHeartbeats 8000000 in
theorem rfKeyword_con (l : List UInt8) (hl : l.length ≤ 1048576) : Con Tryz.prog 35 [.s l] (.ret (.sc (.bool (kwL l)))) := by
  refine con_of (by_ref03_Keyword ?_)
  rw [sh_ref03_Keyword, kwL_words]
  refine CALL_con0 (rfLower_con l hl) rfl ?_
  generalize lowerL l = a
  by_cases h : a ∈ kwWords
  · rw [decide_eq_true h]
    generalize hR : RC _ = R
    have HR := Lib.hid hR; clear hR
    simp only [kwWords, List.mem_cons, List.not_mem_nil, or_false] at h
    repeat' (rcases h with h | h)
    all_goals
      simp (decide := true) only [go_sem]
      rw [← HR.out]; exact RC_ret rfl rfl
  · rw [decide_eq_false h]
    generalize hR : RC _ = R
    have HR := Lib.hid hR; clear hR
    simp only [kwWords, List.mem_cons, List.not_mem_nil, or_false, not_or] at h
    simp only [go_sem, h, decide_false]
    rw [← HR.out]; exact RC_ret rfl rfl
end Go.Proofs.YtodoejfkjimeaaaGreatDoor
set_option maxRecDepth 100000
namespace Go.Proofs.YtodoejfkjimeaaaGreatDoor
open Go Go.RowKit Am

theorem any_stop {α : Type} {q : α → Bool} {l : List α} {i : Nat} {x : α} (hx : l[i]? = some x) (h : q x = true) : l.any q = true := List.any_eq_true.2 ⟨x, List.mem_of_getElem? hx, h⟩
theorem noName_cases (c : UInt8) : (by_ noName c = true) = (¬ (97 ≤ (c.toNat : Int) ∧ (c.toNat : Int) ≤ 122) ∧ ¬ (48 ≤ (c.toNat : Int) ∧ (c.toNat : Int) ≤ 57) ∧ ¬ (c.toNat : Int) = 95) := by
  unfold by_ noName
  simp [not_or]
  omega
set_option maxHeartbeats 8000000 in
theorem rfName_con (l : List UInt8) (hl : l.length ≤ 1048576) : Con Tryz.prog 11 [.s l] (.ret (.sc (.bool (nameL l)))) := by
  refine con_of (by_ref04_Name ?_)
  generalize hR : RC _ = R
  have HR := Lib.hid hR; clear hR
  have HK := Lib.hid (rfKeyword_con l hl)
  cases l with
  | nil =>
    simp (maxSteps:=1000000) (disch:=omega) only [sh_ref04_Name,List.length_nil,Int.cast_ofNat_Int,go_sem,wrapI,wrapB,upd_is,upd_not,Nat.reduceAdd,Nat.reduceSub,Nat.reduceMul,Nat.reduceLeDiff,Nat.reduceEqDiff,Int.reduceAdd,Int.reduceSub,Int.reduceMul,Int.reduceNeg,Int.reduceLT,Int.reduceLE,Int.reduceEq,Int.reduceToNat,reduceCtorEq,reduceIte,Nat.zero_add,Nat.add_zero, *]
    rw [← HR.out]; exact RC_ret rfl rfl
  | cons c r =>
    have HN := Lib.hid (show nameL (c :: r) = (decide ((c :: r).length ≤ 16) && !(decide (48 ≤ c.toNat ∧ c.toNat ≤ 57)) && !(kwL (c :: r)) && !((c :: r).any (by_ noName))) from rfl)
    have hl1 : ¬ (((c :: r).length : Int) < 1) := by simp only [List.length_cons]; omega
    have h00 : (c :: r)[0]? = some c := rfl
    generalize c :: r = l at *
    have hpos : 0 < l.length := by cases l with
      | nil => cases h00
      | cons _ _ => simp
    by_cases h1 : 16 < (l.length : Int)
    · have hf : nameL l = false := by rw [HN.out]; simp; omega
      have HF := Lib.hid hf; clear hf HN HK
      simp (maxSteps:=1000000) (disch:=omega) only [sh_ref04_Name,go_sem,wrapI,wrapB,upd_is,upd_not,Nat.reduceAdd,Nat.reduceSub,Nat.reduceMul,Nat.reduceLeDiff,Nat.reduceEqDiff,Int.reduceAdd,Int.reduceSub,Int.reduceMul,Int.reduceNeg,Int.reduceLT,Int.reduceLE,Int.reduceEq,Int.reduceToNat,reduceCtorEq,reduceIte,Nat.zero_add,Nat.add_zero, *]
      intro _
      rw [← HR.out, HF.out]; exact RC_ret rfl rfl
    · have fin : kwL l = false → ¬ (48 ≤ c.toNat ∧ c.toNat ≤ 57) → ∀ σ n, LOOP (lb_ref04_Name2 (.s l) R) [(.tp []), (.tp []), (.tp []), (.sc (.bool false)), (.sc (.int .i64 0))] σ n := by
        intro hk hd σ n
        have hN : nameL l = !(l.any (by_ noName)) := by rw [HN.out, hk, decide_eq_true (show l.length ≤ 16 by omega), decide_eq_false hd]; simp
        have HN' := Lib.hid hN; clear hN HN hk hd h00
        refine LOOP_listM l (fun i s σ' n' => (∃ a b d e, s = [a, b, d, e, .sc (.int .i64 i)]) ∧ (l.take i).any (by_ noName) = false) (.refl ⟨⟨_, _, _, _, rfl⟩, rfl⟩) ?_ ?_
        · rintro i x K s' σ' n2 hx hi hi' hn ⟨⟨a, b, d, e, rfl⟩, hno⟩ hK
          have HKK := Lib.hid hK; clear hK
          have HNO := Lib.hid hno; clear hno
          have HT := Lib.hid (any_take (p := by_ noName) hx)
          have HS := Lib.hid (any_stop (q := by_ noName) hx)
          have HC := Lib.hid (noName_cases x)
          have hlt := UInt8.toNat_lt x
          have ok : ¬ by_ noName x = true → ∀ a b d e, K [a, b, d, e, .sc (.int .i64 ((i : Int) + 1))] σ' n2 := by
            intro h a b d e
            refine HKK.out _ _ _ (.refl ⟨⟨_, _, _, _, rfl⟩, ?_⟩)
            rw [HT.out, HNO.out, eq_false_of_ne_true h]; rfl
          have OK := Lib.hid ok; clear ok HKK
          have no : by_ noName x = true → R (.ret (.sc (.bool false))) σ' n2 := by
            intro h
            rw [← HR.out, HN'.out, HS.out h]; exact RC_ret rfl rfl
          have NO := Lib.hid no; clear no
          by_cases g1 : 97 ≤ (x.toNat : Int)
          · by_cases g2 : (x.toNat : Int) ≤ 122
            · simp (maxSteps:=1000000) (disch:=omega) only [lb_ref04_Name2,go_sem,wrapI,wrapB,upd_is,upd_not,Nat.reduceAdd,Nat.reduceSub,Nat.reduceMul,Nat.reduceLeDiff,Nat.reduceEqDiff,Int.reduceAdd,Int.reduceSub,Int.reduceMul,Int.reduceNeg,Int.reduceLT,Int.reduceLE,Int.reduceEq,Int.reduceToNat,reduceCtorEq,reduceIte,Nat.zero_add,Nat.add_zero, *]
              exact fun _ => OK.out (by rw [HC.out]; omega) _ _ _ _
            · have e1 : 48 ≤ (x.toNat : Int) := by omega
              have e2 : ¬ (x.toNat : Int) ≤ 57 := by omega
              have e3 : ¬ (x.toNat : Int) = 95 := by omega
              simp (maxSteps:=1000000) (disch:=omega) only [lb_ref04_Name2,go_sem,wrapI,wrapB,upd_is,upd_not,Nat.reduceAdd,Nat.reduceSub,Nat.reduceMul,Nat.reduceLeDiff,Nat.reduceEqDiff,Int.reduceAdd,Int.reduceSub,Int.reduceMul,Int.reduceNeg,Int.reduceLT,Int.reduceLE,Int.reduceEq,Int.reduceToNat,reduceCtorEq,reduceIte,Nat.zero_add,Nat.add_zero, *]
              exact fun _ => NO.out (by rw [HC.out]; omega)
          · by_cases g3 : 48 ≤ (x.toNat : Int)
            · by_cases g4 : (x.toNat : Int) ≤ 57
              · simp (maxSteps:=1000000) (disch:=omega) only [lb_ref04_Name2,go_sem,wrapI,wrapB,upd_is,upd_not,Nat.reduceAdd,Nat.reduceSub,Nat.reduceMul,Nat.reduceLeDiff,Nat.reduceEqDiff,Int.reduceAdd,Int.reduceSub,Int.reduceMul,Int.reduceNeg,Int.reduceLT,Int.reduceLE,Int.reduceEq,Int.reduceToNat,reduceCtorEq,reduceIte,Nat.zero_add,Nat.add_zero, *]
                exact fun _ => OK.out (by rw [HC.out]; omega) _ _ _ _
              · by_cases g5 : (x.toNat : Int) = 95
                · simp (maxSteps:=1000000) (disch:=omega) only [lb_ref04_Name2,go_sem,wrapI,wrapB,upd_is,upd_not,Nat.reduceAdd,Nat.reduceSub,Nat.reduceMul,Nat.reduceLeDiff,Nat.reduceEqDiff,Int.reduceAdd,Int.reduceSub,Int.reduceMul,Int.reduceNeg,Int.reduceLT,Int.reduceLE,Int.reduceEq,Int.reduceToNat,reduceCtorEq,reduceIte,Nat.zero_add,Nat.add_zero, *]
                  exact fun _ => OK.out (by rw [HC.out]; omega) _ _ _ _
                · simp (maxSteps:=1000000) (disch:=omega) only [lb_ref04_Name2,go_sem,wrapI,wrapB,upd_is,upd_not,Nat.reduceAdd,Nat.reduceSub,Nat.reduceMul,Nat.reduceLeDiff,Nat.reduceEqDiff,Int.reduceAdd,Int.reduceSub,Int.reduceMul,Int.reduceNeg,Int.reduceLT,Int.reduceLE,Int.reduceEq,Int.reduceToNat,reduceCtorEq,reduceIte,Nat.zero_add,Nat.add_zero, *]
                  exact fun _ => NO.out (by rw [HC.out]; omega)
            · have e3 : ¬ (x.toNat : Int) = 95 := by omega
              simp (maxSteps:=1000000) (disch:=omega) only [lb_ref04_Name2,go_sem,wrapI,wrapB,upd_is,upd_not,Nat.reduceAdd,Nat.reduceSub,Nat.reduceMul,Nat.reduceLeDiff,Nat.reduceEqDiff,Int.reduceAdd,Int.reduceSub,Int.reduceMul,Int.reduceNeg,Int.reduceLT,Int.reduceLE,Int.reduceEq,Int.reduceToNat,reduceCtorEq,reduceIte,Nat.zero_add,Nat.add_zero, *]
              exact fun _ => NO.out (by rw [HC.out]; omega)
        · rintro K s' σ' n2 hn ⟨⟨a, b, d, e, rfl⟩, hno⟩
          rw [List.take_length] at hno
          have HNO := Lib.hid hno; clear hno
          simp (maxSteps:=1000000) (disch:=omega) only [lb_ref04_Name2,Int.lt_irrefl,go_sem,wrapI,wrapB,upd_is,upd_not,Nat.reduceAdd,Nat.reduceSub,Nat.reduceMul,Nat.reduceLeDiff,Nat.reduceEqDiff,Int.reduceAdd,Int.reduceSub,Int.reduceMul,Int.reduceNeg,Int.reduceLT,Int.reduceLE,Int.reduceEq,Int.reduceToNat,reduceCtorEq,reduceIte,Nat.zero_add,Nat.add_zero, *]
          intro _
          rw [← HR.out, HN'.out, HNO.out]; exact RC_ret rfl rfl
      have FIN := Lib.hid fin; clear fin
      have hlt := UInt8.toNat_lt c
      have kw : ∀ σ n, ¬ (48 ≤ c.toNat ∧ c.toNat ≤ 57) → CALL Tryz.prog (.fn 35 []) [.s l] σ n (kc_ref04_Name1 (fun v17 σ n => bindP (aPick (.sc (.bool false)) (.sc (.bool true)) v17) fun v20 => COND v20 (R (.ret (.sc (.bool false))) σ n) (LOOP (lb_ref04_Name2 (.s l) R) [(.tp []), (.tp []), (.tp []), (.sc (.bool false)), (.sc (.int .i64 0))] σ n)) R) := by
        intro σ n hd
        refine CALL_con0 HK.out rfl ?_
        cases hk : kwL l with
        | true =>
          have hf : nameL l = false := by rw [HN.out, hk]; simp
          have HF := Lib.hid hf; clear hf HN HK hk
          simp (maxSteps:=1000000) (disch:=omega) only [go_sem,wrapI,wrapB,upd_is,upd_not,Nat.reduceAdd,Nat.reduceSub,Nat.reduceMul,Nat.reduceLeDiff,Nat.reduceEqDiff,Int.reduceAdd,Int.reduceSub,Int.reduceMul,Int.reduceNeg,Int.reduceLT,Int.reduceLE,Int.reduceEq,Int.reduceToNat,reduceCtorEq,reduceIte,Nat.zero_add,Nat.add_zero, *]
          rw [← HR.out, HF.out]; exact RC_ret rfl rfl
        | false =>
          have := FIN.out hk hd σ n
          have HFF := Lib.hid this; clear this FIN hk HN HK
          simp (maxSteps:=1000000) (disch:=omega) only [go_sem,wrapI,wrapB,upd_is,upd_not,Nat.reduceAdd,Nat.reduceSub,Nat.reduceMul,Nat.reduceLeDiff,Nat.reduceEqDiff,Int.reduceAdd,Int.reduceSub,Int.reduceMul,Int.reduceNeg,Int.reduceLT,Int.reduceLE,Int.reduceEq,Int.reduceToNat,reduceCtorEq,reduceIte,Nat.zero_add,Nat.add_zero, *]
          exact HFF.out
      have KW := Lib.hid kw; clear kw
      by_cases h2 : 48 ≤ (c.toNat : Int)
      · by_cases h3 : (c.toNat : Int) ≤ 57
        · have hf : nameL l = false := by rw [HN.out, decide_eq_true (show 48 ≤ c.toNat ∧ c.toNat ≤ 57 by omega)]; simp
          have HF := Lib.hid hf; clear hf HN HK
          simp (maxSteps:=1000000) (disch:=omega) only [sh_ref04_Name,go_sem,wrapI,wrapB,upd_is,upd_not,Nat.reduceAdd,Nat.reduceSub,Nat.reduceMul,Nat.reduceLeDiff,Nat.reduceEqDiff,Int.reduceAdd,Int.reduceSub,Int.reduceMul,Int.reduceNeg,Int.reduceLT,Int.reduceLE,Int.reduceEq,Int.reduceToNat,reduceCtorEq,reduceIte,Nat.zero_add,Nat.add_zero, *]
          intro _
          rw [← HR.out, HF.out]; exact RC_ret rfl rfl
        · clear HN HK
          simp (maxSteps:=1000000) (disch:=omega) only [sh_ref04_Name,go_sem,wrapI,wrapB,upd_is,upd_not,Nat.reduceAdd,Nat.reduceSub,Nat.reduceMul,Nat.reduceLeDiff,Nat.reduceEqDiff,Int.reduceAdd,Int.reduceSub,Int.reduceMul,Int.reduceNeg,Int.reduceLT,Int.reduceLE,Int.reduceEq,Int.reduceToNat,reduceCtorEq,reduceIte,Nat.zero_add,Nat.add_zero, *]
          exact fun _ => KW.out _ _ (by omega)
      · clear HN HK
        simp (maxSteps:=1000000) (disch:=omega) only [sh_ref04_Name,go_sem,wrapI,wrapB,upd_is,upd_not,Nat.reduceAdd,Nat.reduceSub,Nat.reduceMul,Nat.reduceLeDiff,Nat.reduceEqDiff,Int.reduceAdd,Int.reduceSub,Int.reduceMul,Int.reduceNeg,Int.reduceLT,Int.reduceLE,Int.reduceEq,Int.reduceToNat,reduceCtorEq,reduceIte,Nat.zero_add,Nat.add_zero, *]
        exact fun _ => KW.out _ _ (by omega)
end Go.Proofs.YtodoejfkjimeaaaGreatDoor
set_option maxRecDepth 100000
namespace Go.Proofs.YtodoejfkjimeaaaGreatDoor
open Go Go.RowKit Am

theorem append_nil_iff {a b : Tx} : (decide (a ++ b = [])) = (decide (a = []) && decide (b = [])) := by
  cases a <;> cases b <;> simp
theorem partOk_if {e : Ep} (h : rfArgs e.op = (e.args.length : Int)) : partOk e =
    (if e.op = 0 then (decide (e.table = []) && decide (e.name = [])) && valOk e.kind e.n e.text && (decide (¬ e.kind = 1) || decide (0 ≤ e.n))
     else if e.op = 1 then (decide (e.kind = 0) && (decide (e.n = 0) && decide (e.text = []))) && nameL e.name && (decide (e.table = []) || nameL e.table)
     else (decide (e.kind = 0) && (decide (e.n = 0) && decide (e.text = []))) && (decide (e.table = []) && decide (e.name = []))) := by
  have h2 := (rfArgs_is e.op e.args.length) ▸ h
  unfold partOk
  rw [h2.1, decide_eq_true h2.2, append_nil_iff]
  simp only [Bool.true_and]
theorem partOk_no {e : Ep} (h : ¬ rfArgs e.op = (e.args.length : Int)) : partOk e = false := by
  cases hp : partOk e with
  | false => rfl
  | true =>
    refine absurd ?_ h
    rw [rfArgs_is]; exact partOk_args hp
set_option maxHeartbeats 16000000 in
theorem rfPart_con (e : Ep) (hb : Bd e) (hn : rng e.n) : Con Tryz.prog 84 [.ag (encE e)] (.ret (.sc (.bool (partOk e)))) := by
  refine con_of (by_ref04_part ?_)
  generalize hR : RC _ = R
  have HR := Lib.hid hR; clear hR
  have HA := Lib.hid (rfArgs_con e.op)
  have HV := Lib.hid (rfCheck_con e.kind e.n e.text hn)
  have hbn : e.name.length ≤ 1048576 ∧ e.table.length ≤ 1048576 := by cases hb; exact ⟨by assumption, by assumption⟩
  have HN := Lib.hid (rfName_con e.name hbn.1)
  have HT := Lib.hid (rfName_con e.table hbn.2)
  have hle : e.args.length ≤ 1048576 := by cases hb; assumption
  clear hb hn hbn
  by_cases ha : rfArgs e.op = (e.args.length : Int)
  · have HP := Lib.hid (partOk_if ha)
    by_cases h0 : e.op = 0
    · have hp2 := HP.out
      rw [if_pos h0] at hp2
      have HP := Lib.hid hp2; clear hp2
      simp (maxSteps:=1000000) (disch:=omega) only [sh_ref04_part,encE_eq,go_sem,wrapI,wrapB,upd_is,upd_not,Nat.reduceAdd,Nat.reduceSub,Nat.reduceMul,Nat.reduceLeDiff,Nat.reduceEqDiff,Int.reduceAdd,Int.reduceSub,Int.reduceMul,Int.reduceNeg,Int.reduceLT,Int.reduceLE,Int.reduceEq,Int.reduceToNat,reduceCtorEq,reduceIte,Nat.zero_add,Nat.add_zero, *]
      rw [h0] at HA ha
      refine callD_conS (I := []) HA.out rfl rfl ?_
      simp (maxSteps:=1000000) (disch:=omega) only [go_sem,wrapI,wrapB,upd_is,upd_not,Nat.reduceAdd,Nat.reduceSub,Nat.reduceMul,Nat.reduceLeDiff,Nat.reduceEqDiff,Int.reduceAdd,Int.reduceSub,Int.reduceMul,Int.reduceNeg,Int.reduceLT,Int.reduceLE,Int.reduceEq,Int.reduceToNat,reduceCtorEq,reduceIte,Nat.zero_add,Nat.add_zero, *]
      intro n_ hn_
      refine CALL_con0 HV.out rfl ?_
      clear HV HA HN HT
      cases hv : valOk e.kind e.n e.text with
      | false =>
        simp (maxSteps:=1000000) (disch:=omega) only [go_sem,wrapI,wrapB,upd_is,upd_not,Nat.reduceAdd,Nat.reduceSub,Nat.reduceMul,Nat.reduceLeDiff,Nat.reduceEqDiff,Int.reduceAdd,Int.reduceSub,Int.reduceMul,Int.reduceNeg,Int.reduceLT,Int.reduceLE,Int.reduceEq,Int.reduceToNat,reduceCtorEq,reduceIte,Nat.zero_add,Nat.add_zero, *]
        rw [← HR.out, HP.out]; exact RC_ret rfl (by simp [hv])
      | true =>
        by_cases h2 : e.kind = 1
        · by_cases h3 : e.n < 0
          · have HV := Lib.hid hv; clear hv
            simp (maxSteps:=1000000) (disch:=omega) only [go_sem,wrapI,wrapB,upd_is,upd_not,Nat.reduceAdd,Nat.reduceSub,Nat.reduceMul,Nat.reduceLeDiff,Nat.reduceEqDiff,Int.reduceAdd,Int.reduceSub,Int.reduceMul,Int.reduceNeg,Int.reduceLT,Int.reduceLE,Int.reduceEq,Int.reduceToNat,reduceCtorEq,reduceIte,Nat.zero_add,Nat.add_zero, *]
            rw [← HR.out, HP.out]; exact RC_ret rfl (by simp [h2]; intros; omega)
          · by_cases h4 : e.table = []
            · by_cases h5 : e.name = []
              · simp (maxSteps:=1000000) (disch:=omega) only [go_sem,wrapI,wrapB,upd_is,upd_not,Nat.reduceAdd,Nat.reduceSub,Nat.reduceMul,Nat.reduceLeDiff,Nat.reduceEqDiff,Int.reduceAdd,Int.reduceSub,Int.reduceMul,Int.reduceNeg,Int.reduceLT,Int.reduceLE,Int.reduceEq,Int.reduceToNat,reduceCtorEq,reduceIte,Nat.zero_add,Nat.add_zero, *]
                rw [← HR.out, HP.out]; exact RC_ret rfl (by rw [hv]; simp [h2, h4, h5]; omega)
              · simp (maxSteps:=1000000) (disch:=omega) only [go_sem,wrapI,wrapB,upd_is,upd_not,Nat.reduceAdd,Nat.reduceSub,Nat.reduceMul,Nat.reduceLeDiff,Nat.reduceEqDiff,Int.reduceAdd,Int.reduceSub,Int.reduceMul,Int.reduceNeg,Int.reduceLT,Int.reduceLE,Int.reduceEq,Int.reduceToNat,reduceCtorEq,reduceIte,Nat.zero_add,Nat.add_zero, *]
                rw [← HR.out, HP.out]; exact RC_ret rfl (by simp [h5])
            · simp (maxSteps:=1000000) (disch:=omega) only [go_sem,wrapI,wrapB,upd_is,upd_not,Nat.reduceAdd,Nat.reduceSub,Nat.reduceMul,Nat.reduceLeDiff,Nat.reduceEqDiff,Int.reduceAdd,Int.reduceSub,Int.reduceMul,Int.reduceNeg,Int.reduceLT,Int.reduceLE,Int.reduceEq,Int.reduceToNat,reduceCtorEq,reduceIte,Nat.zero_add,Nat.add_zero, *]
              rw [← HR.out, HP.out]; exact RC_ret rfl (by simp [h4])
        · by_cases h4 : e.table = []
          · by_cases h5 : e.name = []
            · simp (maxSteps:=1000000) (disch:=omega) only [go_sem,wrapI,wrapB,upd_is,upd_not,Nat.reduceAdd,Nat.reduceSub,Nat.reduceMul,Nat.reduceLeDiff,Nat.reduceEqDiff,Int.reduceAdd,Int.reduceSub,Int.reduceMul,Int.reduceNeg,Int.reduceLT,Int.reduceLE,Int.reduceEq,Int.reduceToNat,reduceCtorEq,reduceIte,Nat.zero_add,Nat.add_zero, *]
              rw [← HR.out, HP.out]; exact RC_ret rfl (by simp [hv, h2, h4, h5])
            · simp (maxSteps:=1000000) (disch:=omega) only [go_sem,wrapI,wrapB,upd_is,upd_not,Nat.reduceAdd,Nat.reduceSub,Nat.reduceMul,Nat.reduceLeDiff,Nat.reduceEqDiff,Int.reduceAdd,Int.reduceSub,Int.reduceMul,Int.reduceNeg,Int.reduceLT,Int.reduceLE,Int.reduceEq,Int.reduceToNat,reduceCtorEq,reduceIte,Nat.zero_add,Nat.add_zero, *]
              rw [← HR.out, HP.out]; exact RC_ret rfl (by simp [h5])
          · simp (maxSteps:=1000000) (disch:=omega) only [go_sem,wrapI,wrapB,upd_is,upd_not,Nat.reduceAdd,Nat.reduceSub,Nat.reduceMul,Nat.reduceLeDiff,Nat.reduceEqDiff,Int.reduceAdd,Int.reduceSub,Int.reduceMul,Int.reduceNeg,Int.reduceLT,Int.reduceLE,Int.reduceEq,Int.reduceToNat,reduceCtorEq,reduceIte,Nat.zero_add,Nat.add_zero, *]
            rw [← HR.out, HP.out]; exact RC_ret rfl (by simp [h4])
    · by_cases h1 : e.op = 1
      · have hp2 := HP.out
        rw [if_neg h0, if_pos h1] at hp2
        have HP := Lib.hid hp2; clear hp2
        rw [h1] at HA ha
        by_cases z1 : e.kind = 0
        · by_cases z2 : e.n = 0
          · by_cases z3 : e.text = []
            · simp (maxSteps:=1000000) (disch:=omega) only [sh_ref04_part,encE_eq,Bool.and_false,Bool.false_and,Bool.and_true,Bool.true_and,Bool.and_self,go_sem,wrapI,wrapB,upd_is,upd_not,Nat.reduceAdd,Nat.reduceSub,Nat.reduceMul,Nat.reduceLeDiff,Nat.reduceEqDiff,Int.reduceAdd,Int.reduceSub,Int.reduceMul,Int.reduceNeg,Int.reduceLT,Int.reduceLE,Int.reduceEq,Int.reduceToNat,reduceCtorEq,reduceIte,Nat.zero_add,Nat.add_zero, *]
              refine callD_conS (I := []) HA.out rfl rfl ?_
              simp (maxSteps:=1000000) (disch:=omega) only [Bool.and_false,Bool.false_and,Bool.and_true,Bool.true_and,Bool.and_self,go_sem,wrapI,wrapB,upd_is,upd_not,Nat.reduceAdd,Nat.reduceSub,Nat.reduceMul,Nat.reduceLeDiff,Nat.reduceEqDiff,Int.reduceAdd,Int.reduceSub,Int.reduceMul,Int.reduceNeg,Int.reduceLT,Int.reduceLE,Int.reduceEq,Int.reduceToNat,reduceCtorEq,reduceIte,Nat.zero_add,Nat.add_zero, *]
              intro n_ hn_
              refine CALL_con0 HN.out rfl ?_
              cases hnm : nameL e.name with
              | false =>
                simp (maxSteps:=1000000) (disch:=omega) only [go_sem,wrapI,wrapB,upd_is,upd_not,Nat.reduceAdd,Nat.reduceSub,Nat.reduceMul,Nat.reduceLeDiff,Nat.reduceEqDiff,Int.reduceAdd,Int.reduceSub,Int.reduceMul,Int.reduceNeg,Int.reduceLT,Int.reduceLE,Int.reduceEq,Int.reduceToNat,reduceCtorEq,reduceIte,Nat.zero_add,Nat.add_zero, *]
                rw [← HR.out, HP.out]; exact RC_ret rfl (by simp [hnm])
              | true =>
                by_cases h4 : e.table = []
                · simp (maxSteps:=1000000) (disch:=omega) only [go_sem,wrapI,wrapB,upd_is,upd_not,Nat.reduceAdd,Nat.reduceSub,Nat.reduceMul,Nat.reduceLeDiff,Nat.reduceEqDiff,Int.reduceAdd,Int.reduceSub,Int.reduceMul,Int.reduceNeg,Int.reduceLT,Int.reduceLE,Int.reduceEq,Int.reduceToNat,reduceCtorEq,reduceIte,Nat.zero_add,Nat.add_zero, *]
                  rw [← HR.out, HP.out]; exact RC_ret rfl (by simp [hnm, h4, z1, z2, z3])
                · have HNM := Lib.hid hnm; clear hnm
                  simp (maxSteps:=1000000) (disch:=omega) only [go_sem,wrapI,wrapB,upd_is,upd_not,Nat.reduceAdd,Nat.reduceSub,Nat.reduceMul,Nat.reduceLeDiff,Nat.reduceEqDiff,Int.reduceAdd,Int.reduceSub,Int.reduceMul,Int.reduceNeg,Int.reduceLT,Int.reduceLE,Int.reduceEq,Int.reduceToNat,reduceCtorEq,reduceIte,Nat.zero_add,Nat.add_zero, *]
                  refine CALL_con0 HT.out rfl ?_
                  simp (maxSteps:=1000000) (disch:=omega) only [go_sem,wrapI,wrapB,upd_is,upd_not,Nat.reduceAdd,Nat.reduceSub,Nat.reduceMul,Nat.reduceLeDiff,Nat.reduceEqDiff,Int.reduceAdd,Int.reduceSub,Int.reduceMul,Int.reduceNeg,Int.reduceLT,Int.reduceLE,Int.reduceEq,Int.reduceToNat,reduceCtorEq,reduceIte,Nat.zero_add,Nat.add_zero, *]
                  rw [← HR.out, HP.out, HNM.out]; exact RC_ret rfl (by simp [h4, z1, z2, z3])
            · simp (maxSteps:=1000000) (disch:=omega) only [sh_ref04_part,encE_eq,Bool.and_false,Bool.false_and,Bool.and_true,Bool.true_and,Bool.and_self,go_sem,wrapI,wrapB,upd_is,upd_not,Nat.reduceAdd,Nat.reduceSub,Nat.reduceMul,Nat.reduceLeDiff,Nat.reduceEqDiff,Int.reduceAdd,Int.reduceSub,Int.reduceMul,Int.reduceNeg,Int.reduceLT,Int.reduceLE,Int.reduceEq,Int.reduceToNat,reduceCtorEq,reduceIte,Nat.zero_add,Nat.add_zero, *]
              refine callD_conS (I := []) HA.out rfl rfl ?_
              simp (maxSteps:=1000000) (disch:=omega) only [Bool.and_false,Bool.false_and,Bool.and_true,Bool.true_and,Bool.and_self,go_sem,wrapI,wrapB,upd_is,upd_not,Nat.reduceAdd,Nat.reduceSub,Nat.reduceMul,Nat.reduceLeDiff,Nat.reduceEqDiff,Int.reduceAdd,Int.reduceSub,Int.reduceMul,Int.reduceNeg,Int.reduceLT,Int.reduceLE,Int.reduceEq,Int.reduceToNat,reduceCtorEq,reduceIte,Nat.zero_add,Nat.add_zero, *]
              intro n_ hn_
              rw [← HR.out, HP.out]; exact RC_ret rfl (by simp [z3])
          · simp (maxSteps:=1000000) (disch:=omega) only [sh_ref04_part,encE_eq,Bool.and_false,Bool.false_and,Bool.and_true,Bool.true_and,Bool.and_self,go_sem,wrapI,wrapB,upd_is,upd_not,Nat.reduceAdd,Nat.reduceSub,Nat.reduceMul,Nat.reduceLeDiff,Nat.reduceEqDiff,Int.reduceAdd,Int.reduceSub,Int.reduceMul,Int.reduceNeg,Int.reduceLT,Int.reduceLE,Int.reduceEq,Int.reduceToNat,reduceCtorEq,reduceIte,Nat.zero_add,Nat.add_zero, *]
            refine callD_conS (I := []) HA.out rfl rfl ?_
            simp (maxSteps:=1000000) (disch:=omega) only [Bool.and_false,Bool.false_and,Bool.and_true,Bool.true_and,Bool.and_self,go_sem,wrapI,wrapB,upd_is,upd_not,Nat.reduceAdd,Nat.reduceSub,Nat.reduceMul,Nat.reduceLeDiff,Nat.reduceEqDiff,Int.reduceAdd,Int.reduceSub,Int.reduceMul,Int.reduceNeg,Int.reduceLT,Int.reduceLE,Int.reduceEq,Int.reduceToNat,reduceCtorEq,reduceIte,Nat.zero_add,Nat.add_zero, *]
            intro n_ hn_
            rw [← HR.out, HP.out]; exact RC_ret rfl (by simp [z2])
        · simp (maxSteps:=1000000) (disch:=omega) only [sh_ref04_part,encE_eq,Bool.and_false,Bool.false_and,Bool.and_true,Bool.true_and,Bool.and_self,go_sem,wrapI,wrapB,upd_is,upd_not,Nat.reduceAdd,Nat.reduceSub,Nat.reduceMul,Nat.reduceLeDiff,Nat.reduceEqDiff,Int.reduceAdd,Int.reduceSub,Int.reduceMul,Int.reduceNeg,Int.reduceLT,Int.reduceLE,Int.reduceEq,Int.reduceToNat,reduceCtorEq,reduceIte,Nat.zero_add,Nat.add_zero, *]
          refine callD_conS (I := []) HA.out rfl rfl ?_
          simp (maxSteps:=1000000) (disch:=omega) only [Bool.and_false,Bool.false_and,Bool.and_true,Bool.true_and,Bool.and_self,go_sem,wrapI,wrapB,upd_is,upd_not,Nat.reduceAdd,Nat.reduceSub,Nat.reduceMul,Nat.reduceLeDiff,Nat.reduceEqDiff,Int.reduceAdd,Int.reduceSub,Int.reduceMul,Int.reduceNeg,Int.reduceLT,Int.reduceLE,Int.reduceEq,Int.reduceToNat,reduceCtorEq,reduceIte,Nat.zero_add,Nat.add_zero, *]
          intro n_ hn_
          rw [← HR.out, HP.out]; exact RC_ret rfl (by simp [z1])
      · have hp2 := HP.out
        rw [if_neg h0, if_neg h1] at hp2
        have HP := Lib.hid hp2; clear hp2
        clear HN HT HV
        by_cases z1 : e.kind = 0
        · by_cases z2 : e.n = 0
          · by_cases z3 : e.text = []
            · by_cases h4 : e.table = []
              · by_cases h5 : e.name = []
                · simp (maxSteps:=1000000) (disch:=omega) only [sh_ref04_part,encE_eq,Bool.and_false,Bool.false_and,Bool.and_true,Bool.true_and,Bool.and_self,go_sem,wrapI,wrapB,upd_is,upd_not,Nat.reduceAdd,Nat.reduceSub,Nat.reduceMul,Nat.reduceLeDiff,Nat.reduceEqDiff,Int.reduceAdd,Int.reduceSub,Int.reduceMul,Int.reduceNeg,Int.reduceLT,Int.reduceLE,Int.reduceEq,Int.reduceToNat,reduceCtorEq,reduceIte,Nat.zero_add,Nat.add_zero, *]
                  refine callD_conS (I := []) HA.out rfl rfl ?_
                  simp (maxSteps:=1000000) (disch:=omega) only [Bool.and_false,Bool.false_and,Bool.and_true,Bool.true_and,Bool.and_self,go_sem,wrapI,wrapB,upd_is,upd_not,Nat.reduceAdd,Nat.reduceSub,Nat.reduceMul,Nat.reduceLeDiff,Nat.reduceEqDiff,Int.reduceAdd,Int.reduceSub,Int.reduceMul,Int.reduceNeg,Int.reduceLT,Int.reduceLE,Int.reduceEq,Int.reduceToNat,reduceCtorEq,reduceIte,Nat.zero_add,Nat.add_zero, *]
                  intro n_ hn_
                  rw [← HR.out, HP.out]; exact RC_ret rfl (by simp [h4, h5, z1, z2, z3])
                · simp (maxSteps:=1000000) (disch:=omega) only [sh_ref04_part,encE_eq,Bool.and_false,Bool.false_and,Bool.and_true,Bool.true_and,Bool.and_self,go_sem,wrapI,wrapB,upd_is,upd_not,Nat.reduceAdd,Nat.reduceSub,Nat.reduceMul,Nat.reduceLeDiff,Nat.reduceEqDiff,Int.reduceAdd,Int.reduceSub,Int.reduceMul,Int.reduceNeg,Int.reduceLT,Int.reduceLE,Int.reduceEq,Int.reduceToNat,reduceCtorEq,reduceIte,Nat.zero_add,Nat.add_zero, *]
                  refine callD_conS (I := []) HA.out rfl rfl ?_
                  simp (maxSteps:=1000000) (disch:=omega) only [Bool.and_false,Bool.false_and,Bool.and_true,Bool.true_and,Bool.and_self,go_sem,wrapI,wrapB,upd_is,upd_not,Nat.reduceAdd,Nat.reduceSub,Nat.reduceMul,Nat.reduceLeDiff,Nat.reduceEqDiff,Int.reduceAdd,Int.reduceSub,Int.reduceMul,Int.reduceNeg,Int.reduceLT,Int.reduceLE,Int.reduceEq,Int.reduceToNat,reduceCtorEq,reduceIte,Nat.zero_add,Nat.add_zero, *]
                  intro n_ hn_
                  rw [← HR.out, HP.out]; exact RC_ret rfl (by simp [h5])
              · simp (maxSteps:=1000000) (disch:=omega) only [sh_ref04_part,encE_eq,Bool.and_false,Bool.false_and,Bool.and_true,Bool.true_and,Bool.and_self,go_sem,wrapI,wrapB,upd_is,upd_not,Nat.reduceAdd,Nat.reduceSub,Nat.reduceMul,Nat.reduceLeDiff,Nat.reduceEqDiff,Int.reduceAdd,Int.reduceSub,Int.reduceMul,Int.reduceNeg,Int.reduceLT,Int.reduceLE,Int.reduceEq,Int.reduceToNat,reduceCtorEq,reduceIte,Nat.zero_add,Nat.add_zero, *]
                refine callD_conS (I := []) HA.out rfl rfl ?_
                simp (maxSteps:=1000000) (disch:=omega) only [Bool.and_false,Bool.false_and,Bool.and_true,Bool.true_and,Bool.and_self,go_sem,wrapI,wrapB,upd_is,upd_not,Nat.reduceAdd,Nat.reduceSub,Nat.reduceMul,Nat.reduceLeDiff,Nat.reduceEqDiff,Int.reduceAdd,Int.reduceSub,Int.reduceMul,Int.reduceNeg,Int.reduceLT,Int.reduceLE,Int.reduceEq,Int.reduceToNat,reduceCtorEq,reduceIte,Nat.zero_add,Nat.add_zero, *]
                intro n_ hn_
                rw [← HR.out, HP.out]; exact RC_ret rfl (by simp [h4])
            · simp (maxSteps:=1000000) (disch:=omega) only [sh_ref04_part,encE_eq,Bool.and_false,Bool.false_and,Bool.and_true,Bool.true_and,Bool.and_self,go_sem,wrapI,wrapB,upd_is,upd_not,Nat.reduceAdd,Nat.reduceSub,Nat.reduceMul,Nat.reduceLeDiff,Nat.reduceEqDiff,Int.reduceAdd,Int.reduceSub,Int.reduceMul,Int.reduceNeg,Int.reduceLT,Int.reduceLE,Int.reduceEq,Int.reduceToNat,reduceCtorEq,reduceIte,Nat.zero_add,Nat.add_zero, *]
              refine callD_conS (I := []) HA.out rfl rfl ?_
              simp (maxSteps:=1000000) (disch:=omega) only [Bool.and_false,Bool.false_and,Bool.and_true,Bool.true_and,Bool.and_self,go_sem,wrapI,wrapB,upd_is,upd_not,Nat.reduceAdd,Nat.reduceSub,Nat.reduceMul,Nat.reduceLeDiff,Nat.reduceEqDiff,Int.reduceAdd,Int.reduceSub,Int.reduceMul,Int.reduceNeg,Int.reduceLT,Int.reduceLE,Int.reduceEq,Int.reduceToNat,reduceCtorEq,reduceIte,Nat.zero_add,Nat.add_zero, *]
              intro n_ hn_
              rw [← HR.out, HP.out]; exact RC_ret rfl (by simp [z3])
          · simp (maxSteps:=1000000) (disch:=omega) only [sh_ref04_part,encE_eq,Bool.and_false,Bool.false_and,Bool.and_true,Bool.true_and,Bool.and_self,go_sem,wrapI,wrapB,upd_is,upd_not,Nat.reduceAdd,Nat.reduceSub,Nat.reduceMul,Nat.reduceLeDiff,Nat.reduceEqDiff,Int.reduceAdd,Int.reduceSub,Int.reduceMul,Int.reduceNeg,Int.reduceLT,Int.reduceLE,Int.reduceEq,Int.reduceToNat,reduceCtorEq,reduceIte,Nat.zero_add,Nat.add_zero, *]
            refine callD_conS (I := []) HA.out rfl rfl ?_
            simp (maxSteps:=1000000) (disch:=omega) only [Bool.and_false,Bool.false_and,Bool.and_true,Bool.true_and,Bool.and_self,go_sem,wrapI,wrapB,upd_is,upd_not,Nat.reduceAdd,Nat.reduceSub,Nat.reduceMul,Nat.reduceLeDiff,Nat.reduceEqDiff,Int.reduceAdd,Int.reduceSub,Int.reduceMul,Int.reduceNeg,Int.reduceLT,Int.reduceLE,Int.reduceEq,Int.reduceToNat,reduceCtorEq,reduceIte,Nat.zero_add,Nat.add_zero, *]
            intro n_ hn_
            rw [← HR.out, HP.out]; exact RC_ret rfl (by simp [z2])
        · simp (maxSteps:=1000000) (disch:=omega) only [sh_ref04_part,encE_eq,Bool.and_false,Bool.false_and,Bool.and_true,Bool.true_and,Bool.and_self,go_sem,wrapI,wrapB,upd_is,upd_not,Nat.reduceAdd,Nat.reduceSub,Nat.reduceMul,Nat.reduceLeDiff,Nat.reduceEqDiff,Int.reduceAdd,Int.reduceSub,Int.reduceMul,Int.reduceNeg,Int.reduceLT,Int.reduceLE,Int.reduceEq,Int.reduceToNat,reduceCtorEq,reduceIte,Nat.zero_add,Nat.add_zero, *]
          refine callD_conS (I := []) HA.out rfl rfl ?_
          simp (maxSteps:=1000000) (disch:=omega) only [Bool.and_false,Bool.false_and,Bool.and_true,Bool.true_and,Bool.and_self,go_sem,wrapI,wrapB,upd_is,upd_not,Nat.reduceAdd,Nat.reduceSub,Nat.reduceMul,Nat.reduceLeDiff,Nat.reduceEqDiff,Int.reduceAdd,Int.reduceSub,Int.reduceMul,Int.reduceNeg,Int.reduceLT,Int.reduceLE,Int.reduceEq,Int.reduceToNat,reduceCtorEq,reduceIte,Nat.zero_add,Nat.add_zero, *]
          intro n_ hn_
          rw [← HR.out, HP.out]; exact RC_ret rfl (by simp [z1])
  · have HP := Lib.hid (partOk_no ha)
    clear HN HT HV
    simp (maxSteps:=1000000) (disch:=omega) only [sh_ref04_part,encE_eq,go_sem,wrapI,wrapB,upd_is,upd_not,Nat.reduceAdd,Nat.reduceSub,Nat.reduceMul,Nat.reduceLeDiff,Nat.reduceEqDiff,Int.reduceAdd,Int.reduceSub,Int.reduceMul,Int.reduceNeg,Int.reduceLT,Int.reduceLE,Int.reduceEq,Int.reduceToNat,reduceCtorEq,reduceIte,Nat.zero_add,Nat.add_zero, *]
    refine callD_conS (I := []) HA.out rfl rfl ?_
    simp (maxSteps:=1000000) (disch:=omega) only [go_sem,wrapI,wrapB,upd_is,upd_not,Nat.reduceAdd,Nat.reduceSub,Nat.reduceMul,Nat.reduceLeDiff,Nat.reduceEqDiff,Int.reduceAdd,Int.reduceSub,Int.reduceMul,Int.reduceNeg,Int.reduceLT,Int.reduceLE,Int.reduceEq,Int.reduceToNat,reduceCtorEq,reduceIte,Nat.zero_add,Nat.add_zero, *]
    intro n_ hn_
    rw [← HR.out, HP.out]; exact RC_ret rfl rfl
end Go.Proofs.YtodoejfkjimeaaaGreatDoor
set_option maxRecDepth 100000
namespace Go.Proofs.YtodoejfkjimeaaaGreatDoor
open Go Go.RowKit Am

abbrev walkEnd (r : Int × Nat) : AEnd := .ret (.tp [.sc (.int .i64 (r.2 : Nat)), .sc (.int .i64 r.1)])
set_option maxHeartbeats 4000000 in
theorem rfWalk_con : ∀ (k : Nat) (e : Ep) (c : Nat) (lv : Int), lv = 13 - k → Bd e → Rg e → c ≤ 64 → k ≤ 12 → Con Tryz.prog 65 [.ag (encE e), .sc (.int .i64 lv), .sc (.int .i64 c)] (walkEnd (walkF k e c)) := by
  intro k
  induction k with
  | zero =>
    intro e c lv hlv hb hg hc hk
    refine con_of (by_ref04_walk ?_)
    have hl : 12 < lv := by omega
    clear hlv
    simp (maxSteps:=1000000) (disch:=omega) only [sh_ref04_walk,go_sem,wrapI,wrapB,upd_is,upd_not,Nat.reduceAdd,Nat.reduceSub,Nat.reduceMul,Nat.reduceLeDiff,Nat.reduceEqDiff,Int.reduceAdd,Int.reduceSub,Int.reduceMul,Int.reduceNeg,Int.reduceLT,Int.reduceLE,Int.reduceEq,Int.reduceToNat,reduceCtorEq,reduceIte,Nat.zero_add,Nat.add_zero, *]
    exact RC_ret rfl rfl
  | succ k ih =>
    intro e c lv hlv hb hg hc hk
    refine con_of (by_ref04_walk ?_)
    have HL := Lib.hid hlv
    have hl : ¬ 12 < lv := by omega
    have hl0 : 0 ≤ lv := by omega
    clear hlv
    have HI := Lib.hid ih; clear ih
    by_cases h64 : 64 ≤ (c : Int)
    · have hw : walkF (k + 1) e c = (3, c) := by simp [walkF, show 64 ≤ c by omega]
      rw [hw]
      simp (maxSteps:=1000000) (disch:=omega) only [sh_ref04_walk,go_sem,wrapI,wrapB,upd_is,upd_not,Nat.reduceAdd,Nat.reduceSub,Nat.reduceMul,Nat.reduceLeDiff,Nat.reduceEqDiff,Int.reduceAdd,Int.reduceSub,Int.reduceMul,Int.reduceNeg,Int.reduceLT,Int.reduceLE,Int.reduceEq,Int.reduceToNat,reduceCtorEq,reduceIte,Nat.zero_add,Nat.add_zero, *]
      exact RC_ret rfl rfl
    · generalize hR : RC _ = R
      have HR := Lib.hid hR; clear hR
      have hp := rfPart_con e hb (by cases hg; assumption)
      have HB := Lib.hid hb; clear hb
      have HG := Lib.hid hg; clear hg
      simp (maxSteps:=1000000) (disch:=omega) only [sh_ref04_walk,go_sem,wrapI,wrapB,upd_is,upd_not,Nat.reduceAdd,Nat.reduceSub,Nat.reduceMul,Nat.reduceLeDiff,Nat.reduceEqDiff,Int.reduceAdd,Int.reduceSub,Int.reduceMul,Int.reduceNeg,Int.reduceLT,Int.reduceLE,Int.reduceEq,Int.reduceToNat,reduceCtorEq,reduceIte,Nat.zero_add,Nat.add_zero, *]
      refine CALL_con0 hp (by simp only [brwL_cons, brwL_nil, brw_ag, encE_brw, List.append_nil, Option.map_some]) ?_
      cases hq : partOk e with
      | false =>
        have hw : walkF (k + 1) e c = (9, c) := by simp [walkF, hq, show ¬ 64 ≤ c by omega]
        have HW := Lib.hid hw; clear hw hq hp
        simp (maxSteps:=1000000) (disch:=omega) only [go_sem,wrapI,wrapB,upd_is,upd_not,Nat.reduceAdd,Nat.reduceSub,Nat.reduceMul,Nat.reduceLeDiff,Nat.reduceEqDiff,Int.reduceAdd,Int.reduceSub,Int.reduceMul,Int.reduceNeg,Int.reduceLT,Int.reduceLE,Int.reduceEq,Int.reduceToNat,reduceCtorEq,reduceIte,Nat.zero_add,Nat.add_zero, *]
        rw [← HR.out, HW.out]; exact RC_ret rfl rfl
      | true =>
        have hw : walkF (k + 1) e c = goOver (walkF k) e.args (c + 1) := by simp [walkF, hq, show ¬ 64 ≤ c by omega]
        have HW := Lib.hid hw; clear hw hq hp
        simp (maxSteps:=1000000) (disch:=omega) only [go_sem,wrapI,wrapB,upd_is,upd_not,Nat.reduceAdd,Nat.reduceSub,Nat.reduceMul,Nat.reduceLeDiff,Nat.reduceEqDiff,Int.reduceAdd,Int.reduceSub,Int.reduceMul,Int.reduceNeg,Int.reduceLT,Int.reduceLE,Int.reduceEq,Int.reduceToNat,reduceCtorEq,reduceIte,Nat.zero_add,Nat.add_zero, *]
        refine LOOP_listM e.args (fun j s σ' n' => (∃ a b d f g h, s = [a, b, d, f, g, h, .sc (.int .i64 ((goOver (walkF k) (e.args.take j) (c + 1)).2 : Nat)), .sc (.int .i64 j)]) ∧ (goOver (walkF k) (e.args.take j) (c + 1)).1 = 0 ∧ (goOver (walkF k) (e.args.take j) (c + 1)).2 ≤ 64 ∧
          σ' 0 = some (.c ⟨7, [encE e], true, false⟩)) (.refl ⟨⟨_, _, _, _, _, _, by simp only [List.take_zero, goOver]; rfl⟩, rfl, ?_, rfl⟩) ?_ ?_
        · simp only [List.take_zero, goOver]; omega
        · rintro j a K s' σ' n' hx hj hj' hn ⟨⟨a1, b1, d1, f1, g1, h1, rfl⟩, h0, h64', hb0⟩ hK
          have HK := Lib.hid hK; clear hK
          have hb0' := hb0
          have HB0 := Lib.hid hb0'; clear hb0'
          rw [encE_eq] at hb0
          generalize hg : goOver (walkF k) (e.args.take j) (c + 1) = g at *
          have HGG := Lib.hid hg; clear hg
          have hnext : goOver (walkF k) (e.args.take (j + 1)) (c + 1) = walkF k a g.2 := by
            rw [List.take_add_one, hx, goOver_append _ _ _ _ (by rw [HGG.out]; exact h0), HGG.out]
            simp only [Option.toList, goOver]
            split
            · rename_i h; exact Prod.ext h.symm rfl
            · rfl
          have hle := walkF_le k a g.2 h64'
          have HC := Lib.hid (HI.out a g.2 (lv + 1) (by have := HL.out; omega) (HB.out.arg hx) (HG.out.arg hx) h64' (by omega))
          have HNX := Lib.hid hnext; clear hnext
          simp (maxSteps:=1000000) (disch:=omega) only [lb_ref04_walk2,go_sem,wrapI,wrapB,upd_is,upd_not,Nat.reduceAdd,Nat.reduceSub,Nat.reduceMul,Nat.reduceLeDiff,Nat.reduceEqDiff,Int.reduceAdd,Int.reduceSub,Int.reduceMul,Int.reduceNeg,Int.reduceLT,Int.reduceLE,Int.reduceEq,Int.reduceToNat,reduceCtorEq,reduceIte,Nat.zero_add,Nat.add_zero, *]
          intro _
          refine CALL_con0 HC.out (by simp only [brwL_cons, brwL_nil, brw_ag, brw_sc, encE_brw, List.append_nil, Option.map_some]) ?_
          generalize hw2 : walkF k a g.2 = r at *
          have HW2 := Lib.hid hw2; clear hw2 HC
          by_cases h1 : r.1 = 0
          · simp (maxSteps:=1000000) (disch:=omega) only [walkEnd,go_sem,wrapI,wrapB,upd_is,upd_not,Nat.reduceAdd,Nat.reduceSub,Nat.reduceMul,Nat.reduceLeDiff,Nat.reduceEqDiff,Int.reduceAdd,Int.reduceSub,Int.reduceMul,Int.reduceNeg,Int.reduceLT,Int.reduceLE,Int.reduceEq,Int.reduceToNat,reduceCtorEq,reduceIte,Nat.zero_add,Nat.add_zero, *]
            refine HK.out _ _ _ (.refl ⟨⟨_, _, _, _, _, _, by rw [HNX.out]; rfl⟩, ?_, ?_, HB0.out⟩)
            · rw [HNX.out]; exact h1
            · rw [HNX.out]; exact hle
          · simp (maxSteps:=1000000) (disch:=omega) only [walkEnd,go_sem,wrapI,wrapB,upd_is,upd_not,Nat.reduceAdd,Nat.reduceSub,Nat.reduceMul,Nat.reduceLeDiff,Nat.reduceEqDiff,Int.reduceAdd,Int.reduceSub,Int.reduceMul,Int.reduceNeg,Int.reduceLT,Int.reduceLE,Int.reduceEq,Int.reduceToNat,reduceCtorEq,reduceIte,Nat.zero_add,Nat.add_zero, *]
            have hall : goOver (walkF k) e.args (c + 1) = r := by
              have := goOver_stop (walkF k) (e.args.take (j + 1)) (e.args.drop (j + 1)) (c + 1) (by rw [HNX.out]; exact h1)
              rw [List.take_append_drop, HNX.out] at this; exact this
            rw [← HR.out, HW.out, hall]; exact RC_ret rfl rfl
        · rintro K s' σ' n' hn ⟨⟨a1, b1, d1, f1, g1, h1, rfl⟩, h0, h64', hb0⟩
          rw [encE_eq] at hb0
          have hfin : walkF (k + 1) e c = (0, (goOver (walkF k) (e.args.take e.args.length) (c + 1)).2) := by
            rw [HW.out, List.take_length] at *
            exact Prod.ext h0 rfl
          have HF := Lib.hid hfin; clear hfin
          generalize goOver (walkF k) (e.args.take e.args.length) (c + 1) = g at *
          simp (maxSteps:=1000000) (disch:=omega) only [lb_ref04_walk2,Int.lt_irrefl,go_sem,wrapI,wrapB,upd_is,upd_not,Nat.reduceAdd,Nat.reduceSub,Nat.reduceMul,Nat.reduceLeDiff,Nat.reduceEqDiff,Int.reduceAdd,Int.reduceSub,Int.reduceMul,Int.reduceNeg,Int.reduceLT,Int.reduceLE,Int.reduceEq,Int.reduceToNat,reduceCtorEq,reduceIte,Nat.zero_add,Nat.add_zero, *]
          intro _
          rw [← HR.out, HF.out]; exact RC_ret rfl rfl
theorem rfCheckExpr_con (e : Ep) (hb : Bd e) (hg : Rg e) : Con Tryz.prog 31 [.ag (encE e)] (.ret (.sc (.int .i64 (walkF 12 e 0).1))) := by
  refine con_of (by_ref04_CheckExpr ?_)
  have HW := Lib.hid (rfWalk_con 12 e 0 1 (by omega) hb hg (by omega) (by omega))
  generalize walkF 12 e 0 = r at *
  clear hb hg
  simp (maxSteps:=1000000) (disch:=omega) only [sh_ref04_CheckExpr,go_sem,wrapI,wrapB,upd_is,upd_not,Nat.reduceAdd,Nat.reduceSub,Nat.reduceMul,Nat.reduceLeDiff,Nat.reduceEqDiff,Int.reduceAdd,Int.reduceSub,Int.reduceMul,Int.reduceNeg,Int.reduceLT,Int.reduceLE,Int.reduceEq,Int.reduceToNat,reduceCtorEq,reduceIte,Nat.zero_add,Nat.add_zero, *]
  refine CALL_con0 HW.out (by simp only [brwL_cons, brwL_nil, brw_ag, brw_sc, encE_brw, List.append_nil, Option.map_some]; rfl) ?_
  simp (maxSteps:=1000000) (disch:=omega) only [walkEnd,go_sem,wrapI,wrapB,upd_is,upd_not,Nat.reduceAdd,Nat.reduceSub,Nat.reduceMul,Nat.reduceLeDiff,Nat.reduceEqDiff,Int.reduceAdd,Int.reduceSub,Int.reduceMul,Int.reduceNeg,Int.reduceLT,Int.reduceLE,Int.reduceEq,Int.reduceToNat,reduceCtorEq,reduceIte,Nat.zero_add,Nat.add_zero, *]
  exact RC_ret rfl rfl
end Go.Proofs.YtodoejfkjimeaaaGreatDoor
