/- Packed by a program of this repo: Sh4d. -/
import Derived.Test.YtodoejfkjimeaaaGreatDoorKTMs
import Derived.Test.YtodoejfkjimeaaaGreatDoorProg
set_option linter.unusedVariables false
set_option maxRecDepth 8000
namespace Go.Proofs.YtodoejfkjimeaaaGreatDoor
open Go Am
def kd_ref04_Print1 (v12 : AV) (v1 : AV) (σ : Hp) (v9 : AV) (n : Nat) (R : AEnd → Hp → Nat → Prop) (r : AEnd) (w14 : Wr) (d14 : List Nat) : Prop :=
 onEnd r (fun v14 =>
 bindP (semBin .add v12 v14) fun v16 =>
 bindP (semBin .add v16 (.s [80, 82, 73, 77, 65, 82, 89, 32, 75, 69, 89, 32, 40])) fun v17 =>
 bindP (aFad 3 v1) fun v18 =>
 bindP (aLd σ none v18) fun v19 =>
 bindP (semBin .add v17 v19) fun v20 =>
 bindP (semBin .add v20 (.s [41, 41])) fun v21 =>
 Apt (names []) (rdA v9) (names []) (rdA v1) ∧
 Apt (names []) (rdA v9) (names w14) d14 ∧
 Apt (names []) (rdA v9) (names []) (rdA v18) ∧
 Apt (names []) (rdA v1) (names []) (rdA v18) ∧
 Apt (names w14) d14 (names []) (rdA v18) ∧
 ∀ n_, n + 16 * 14 ≤ n_ → (fun n => (fun σ => R (.ret (.tp [v21, (.sc (.int .i64 0))])) σ n) (applyW σ w14)) n_) (fun v15 => bindP (aFad 3 v1) fun v24 =>
 bindP (aLd σ none v24) fun v25 =>
 Apt (names []) (rdA v9) (names []) (rdA v1) ∧
 Apt (names []) (rdA v9) (names []) d14 ∧
 Apt (names []) (rdA v9) (names []) (rdA v24) ∧
 Apt (names []) (rdA v1) (names []) (rdA v24) ∧
 Apt (names []) d14 (names []) (rdA v24) ∧
 ∀ (fr_ : Regs) σ n, R (.pan v15) σ n)
def kc_ref04_Print2 (v54 : AV) (s48 : List AV) (K48 : List AV → Hp → Nat → Prop) (v52 : AV) (s53 : List AV) (R : AEnd → Hp → Nat → Prop) (r : AEnd) (σ : Hp) (n : Nat) : Prop :=
 onEnd r (fun v59 =>
 bindP (semBin .add v54 v59) fun v61 =>
 bindP (semBin .add v61 (.s [41])) fun v62 =>
 bindP (semBin .add (s48.getD 3 .any) (.sc (.int .i64 1))) fun v63 =>
 K48 [v52, (s53.getD 0 .any), v62, v63] σ n) (fun v60 => R (.pan v60) σ n)
def jk_ref04_Print3 (v1 : AV) (s48 : List AV) (K48 : List AV → Hp → Nat → Prop) (v52 : AV) (R : AEnd → Hp → Nat → Prop) (s53 : List AV) (σ : Hp) (n : Nat) : Prop :=
 bindP (semBin .add (s53.getD 1 .any) (.s [40])) fun v54 =>
 bindP (aFad 5 v1) fun v55 =>
 bindP (aLd σ none v55) fun v56 =>
 bindP (aIad 1 v56 (s48.getD 3 .any)) fun v57 =>
 bindP (aLd σ none v57) fun v58 =>
 CALL Tryz.prog (.fn 19 []) [v58] σ n (kc_ref04_Print2 v54 s48 K48 v52 s53 R)
def lb_ref04_Print4 (v1 : AV) (R : AEnd → Hp → Nat → Prop) (K48 : List AV → Hp → Nat → Prop) (s48 : List AV) (σ : Hp) (n : Nat) : Prop :=
 bindP (aFad 5 v1) fun v49 =>
 bindP (aLd σ none v49) fun v50 =>
 bindP (aLen false v50) fun v51 => bnd σ v50 →
 bindP (semBin .lss (s48.getD 3 .any) v51) fun v52 =>
 COND v52 (
 JOIN (jk_ref04_Print3 v1 s48 K48 v52 R) fun K53 =>
 bindP (semBin .gtr (s48.getD 3 .any) (.sc (.int .i64 0))) fun v64 =>
 COND v64 (
 bindP (semBin .add (s48.getD 2 .any) (.s [44, 32])) fun v65 =>
 K53 [v64, v65] σ n) (
 K53 [v64, (s48.getD 2 .any)] σ n)) (
 R (.ret (.tp [(s48.getD 2 .any), (.sc (.int .i64 0))])) σ n)
def kd_ref04_Print5 (v85 : AV) (v78 : AV) (v86 : AV) (v82 : AV) (v90 : AV) (n : Nat) (σ : Hp) (s71 : List AV) (K71 : List AV → Hp → Nat → Prop) (v75 : AV) (s76 : List AV) (R : AEnd → Hp → Nat → Prop) (r : AEnd) (w92 : Wr) (d92 : List Nat) : Prop :=
 onEnd r (fun v92 =>
 bindP (semBin .add v85 v92) fun v94 =>
 Apt (names []) (rdA v78) (names []) (rdA v86) ∧
 Apt (names []) (rdA v82) (names []) (rdA v86) ∧
 Apt (names []) (rdA v78) (names []) (rdA v90) ∧
 Apt (names []) (rdA v82) (names []) (rdA v90) ∧
 Apt (names []) (rdA v78) (names w92) d92 ∧
 Apt (names []) (rdA v82) (names w92) d92 ∧
 ∀ n_, n + 16 * 18 ≤ n_ → (fun n => (fun σ => bindP (semBin .add (s71.getD 3 .any) (.sc (.int .i64 1))) fun v96 =>
 K71 [v75, (s76.getD 0 .any), v94, v96] σ n) (applyW σ w92)) n_) (fun v93 => Apt (names []) (rdA v78) (names []) (rdA v86) ∧
 Apt (names []) (rdA v82) (names []) (rdA v86) ∧
 Apt (names []) (rdA v78) (names []) (rdA v90) ∧
 Apt (names []) (rdA v82) (names []) (rdA v90) ∧
 Apt (names []) (rdA v78) (names []) d92 ∧
 Apt (names []) (rdA v82) (names []) d92 ∧
 ∀ (fr_ : Regs) σ n, R (.pan v93) σ n)
def jk_ref04_Print6 (v1 : AV) (s71 : List AV) (K71 : List AV → Hp → Nat → Prop) (v75 : AV) (R : AEnd → Hp → Nat → Prop) (s76 : List AV) (σ : Hp) (n : Nat) : Prop :=
 bindP (aFad 6 v1) fun v78 =>
 bindP (aLd σ none v78) fun v79 =>
 bindP (aIad 8 v79 (s71.getD 3 .any)) fun v81 =>
 bindP (aFad 0 v81) fun v82 =>
 bindP (aLd σ none v82) fun v83 =>
 bindP (semBin .add (s76.getD 1 .any) v83) fun v84 =>
 bindP (semBin .add v84 (.s [32, 61, 32])) fun v85 =>
 bindP (aFad 6 v1) fun v86 =>
 bindP (aLd σ none v86) fun v87 =>
 bindP (aIad 8 v87 (s71.getD 3 .any)) fun v89 =>
 bindP (aFad 1 v89) fun v90 =>
 bindP (aLd σ (some 7) v90) fun v91 =>
 callD Tryz.prog (.fn 20 []) [v91] σ (n + 16 * 15) (kd_ref04_Print5 v85 v78 v86 v82 v90 n σ s71 K71 v75 s76 R)
def kc_ref04_Print7 (s71 : List AV) (R : AEnd → Hp → Nat → Prop) (r : AEnd) (σ : Hp) (n : Nat) : Prop :=
 onEnd r (fun v101 =>
 bindP (semBin .add (s71.getD 2 .any) v101) fun v103 =>
 R (.ret (.tp [v103, (.sc (.int .i64 0))])) σ n) (fun v102 => R (.pan v102) σ n)
def lb_ref04_Print8 (v1 : AV) (R : AEnd → Hp → Nat → Prop) (K71 : List AV → Hp → Nat → Prop) (s71 : List AV) (σ : Hp) (n : Nat) : Prop :=
 bindP (aFad 6 v1) fun v72 =>
 bindP (aLd σ none v72) fun v73 =>
 bindP (aLen false v73) fun v74 => bnd σ v73 →
 bindP (semBin .lss (s71.getD 3 .any) v74) fun v75 =>
 COND v75 (
 JOIN (jk_ref04_Print6 v1 s71 K71 v75 R) fun K76 =>
 bindP (semBin .gtr (s71.getD 3 .any) (.sc (.int .i64 0))) fun v97 =>
 COND v97 (
 bindP (semBin .add (s71.getD 2 .any) (.s [44, 32])) fun v98 =>
 K76 [v97, v98] σ n) (
 K76 [v97, (s71.getD 2 .any)] σ n)) (
 bindP (aFad 10 v1) fun v99 =>
 bindP (aLd σ none v99) fun v100 =>
 CALL Tryz.prog (.fn 21 []) [(.s [87, 72, 69, 82, 69]), v100] σ n (kc_ref04_Print7 s71 R))
def kd_ref04_Print9 (v107 : AV) (v105 : AV) (v108 : AV) (n : Nat) (σ : Hp) (R : AEnd → Hp → Nat → Prop) (r : AEnd) (w110 : Wr) (d110 : List Nat) : Prop :=
 onEnd r (fun v110 =>
 bindP (semBin .add v107 v110) fun v112 =>
 Apt (names []) (rdA v105) (names []) (rdA v108) ∧
 Apt (names []) (rdA v105) (names w110) d110 ∧
 ∀ n_, n + 16 * 9 ≤ n_ → (fun n => (fun σ => R (.ret (.tp [v112, (.sc (.int .i64 0))])) σ n) (applyW σ w110)) n_) (fun v111 => Apt (names []) (rdA v105) (names []) (rdA v108) ∧
 Apt (names []) (rdA v105) (names []) d110 ∧
 ∀ (fr_ : Regs) σ n, R (.pan v111) σ n)
def kc_ref04_Print10 (R : AEnd → Hp → Nat → Prop) (r : AEnd) (σ : Hp) (n : Nat) : Prop :=
 onEnd r (fun v117 =>
 R (.ret (.tp [v117, (.sc (.int .i64 0))])) σ n) (fun v118 => R (.pan v118) σ n)
def kc_ref04_Print11 (R : AEnd → Hp → Nat → Prop) (v1 : AV) (r : AEnd) (σ : Hp) (n : Nat) : Prop :=
 onEnd r (fun v3 =>
 bindP (semBin .neq v3 (.sc (.int .i64 0))) fun v5 =>
 COND v5 (
 R (.ret (.tp [(.s []), v3])) σ n) (
 bindP (aFad 0 v1) fun v6 =>
 bindP (aLd σ none v6) fun v7 =>
 bindP (semBin .eql v7 (.sc (.int .i64 1))) fun v8 =>
 COND v8 (
 bindP (aFad 1 v1) fun v9 =>
 bindP (aLd σ none v9) fun v10 =>
 bindP (semBin .add (.s [67, 82, 69, 65, 84, 69, 32, 84, 65, 66, 76, 69, 32]) v10) fun v11 =>
 bindP (semBin .add v11 (.s [32, 40])) fun v12 =>
 bindP (aLd σ (some 14) v1) fun v13 =>
 callD Tryz.prog (.fn 18 []) [v13] σ (n + 16 * 5) (kd_ref04_Print1 v12 v1 σ v9 n R)) (
 bindP (semBin .eql v7 (.sc (.int .i64 2))) fun v26 =>
 COND v26 (
 bindP (aFad 4 v1) fun v27 =>
 bindP (aLd σ none v27) fun v28 =>
 bindP (semBin .add (.s [67, 82, 69, 65, 84, 69, 32, 73, 78, 68, 69, 88, 32]) v28) fun v29 =>
 bindP (semBin .add v29 (.s [32, 79, 78, 32])) fun v30 =>
 bindP (aFad 1 v1) fun v31 =>
 bindP (aLd σ none v31) fun v32 =>
 bindP (semBin .add v30 v32) fun v33 =>
 bindP (semBin .add v33 (.s [32, 40])) fun v34 =>
 bindP (aFad 3 v1) fun v35 =>
 bindP (aLd σ none v35) fun v36 =>
 bindP (semBin .add v34 v36) fun v37 =>
 bindP (semBin .add v37 (.s [41])) fun v38 =>
 R (.ret (.tp [v38, (.sc (.int .i64 0))])) σ n) (
 bindP (semBin .eql v7 (.sc (.int .i64 3))) fun v39 =>
 COND v39 (
 bindP (aFad 1 v1) fun v40 =>
 bindP (aLd σ none v40) fun v41 =>
 bindP (semBin .add (.s [68, 82, 79, 80, 32, 84, 65, 66, 76, 69, 32]) v41) fun v42 =>
 R (.ret (.tp [v42, (.sc (.int .i64 0))])) σ n) (
 bindP (semBin .eql v7 (.sc (.int .i64 4))) fun v43 =>
 COND v43 (
 bindP (aFad 1 v1) fun v44 =>
 bindP (aLd σ none v44) fun v45 =>
 bindP (semBin .add (.s [73, 78, 83, 69, 82, 84, 32, 73, 78, 84, 79, 32]) v45) fun v46 =>
 bindP (semBin .add v46 (.s [32, 86, 65, 76, 85, 69, 83, 32])) fun v47 =>
 LOOP (lb_ref04_Print4 v1 R) [(.tp []), (.tp []), v47, (.sc (.int .i64 0))] σ n) (
 bindP (semBin .eql v7 (.sc (.int .i64 5))) fun v66 =>
 COND v66 (
 bindP (aFad 1 v1) fun v67 =>
 bindP (aLd σ none v67) fun v68 =>
 bindP (semBin .add (.s [85, 80, 68, 65, 84, 69, 32]) v68) fun v69 =>
 bindP (semBin .add v69 (.s [32, 83, 69, 84, 32])) fun v70 =>
 LOOP (lb_ref04_Print8 v1 R) [(.tp []), (.tp []), v70, (.sc (.int .i64 0))] σ n) (
 bindP (semBin .eql v7 (.sc (.int .i64 6))) fun v104 =>
 COND v104 (
 bindP (aFad 1 v1) fun v105 =>
 bindP (aLd σ none v105) fun v106 =>
 bindP (semBin .add (.s [68, 69, 76, 69, 84, 69, 32, 70, 82, 79, 77, 32]) v106) fun v107 =>
 bindP (aFad 10 v1) fun v108 =>
 bindP (aLd σ none v108) fun v109 =>
 callD Tryz.prog (.fn 21 []) [(.s [87, 72, 69, 82, 69]), v109] σ (n + 16 * 5) (kd_ref04_Print9 v107 v105 v108 n σ R)) (
 bindP (semBin .eql v7 (.sc (.int .i64 7))) fun v115 =>
 COND v115 (
 bindP (aLd σ (some 14) v1) fun v116 =>
 CALL Tryz.prog (.fn 22 []) [v116] σ n (kc_ref04_Print10 R)) (
 bindS (hBsl σ n 1 [(.string ⟨#[]⟩)] 3 [(0, (.s [66, 69, 71, 73, 78])), (1, (.s [67, 79, 77, 77, 73, 84])), (2, (.s [82, 79, 76, 76, 66, 65, 67, 75]))]) σ n fun v119 σ n =>
 bindP (aFad 0 v1) fun v120 =>
 bindP (aLd σ none v120) fun v121 =>
 bindP (semBin .sub v121 (.sc (.int .i64 8))) fun v122 =>
 bindP (aIad 1 v119 v122) fun v123 =>
 bindP (aLd σ none v123) fun v124 =>
 R (.ret (.tp [v124, (.sc (.int .i64 0))])) σ n))))))))) (fun v4 => R (.pan v4) σ n)
attribute [go_sem] kd_ref04_Print1 kc_ref04_Print2 jk_ref04_Print3 lb_ref04_Print4 kd_ref04_Print5 jk_ref04_Print6 kc_ref04_Print7 lb_ref04_Print8 kd_ref04_Print9 kc_ref04_Print10 kc_ref04_Print11
noncomputable def sc_ref04_Print : SCode := (Tryz.f6.body.bind (cmpC Tryz.prog Tryz.f6.ntmps [0, 12, 4, 16, 30, 44, 49, 59, 63, 6, 5, 77, 87, 91, 8, 7, 116, 15, 125, 1, 2, 3])).getD .skip
def sh_ref04_Print (a0 : AV) (σ : Hp) (n : Nat) (R : AEnd → Hp → Nat → Prop) : Prop :=
 bindS (hBox n a0) σ n fun v1 σ n =>
 bindP (aLd σ (some 14) v1) fun v2 =>
 CALL Tryz.prog (.fn 9 []) [v2] σ n (kc_ref04_Print11 R v1)
theorem se_ref04_Print (a0 : AV) (σ : Hp) (n : Nat) (R : AEnd → Hp → Nat → Prop) : sh_ref04_Print a0 σ n R = swp Tryz.prog sc_ref04_Print (retQ [(.t 2), (.t 3)] R) (entry [a0]) σ n := by kernel_rfl
theorem by_ref04_Print {a0 : AV} {σ : Hp} {n : Nat} {R : AEnd → Hp → Nat → Prop} (h : sh_ref04_Print a0 σ n R) : ConH Tryz.prog 6 [a0] σ n R := by
  rw [se_ref04_Print] at h
  exact conH_of [(.t 2), (.t 3)] (fn := Tryz.f6) rfl [0, 12, 4, 16, 30, 44, 49, 59, 63, 6, 5, 77, 87, 91, 8, 7, 116, 15, 125, 1, 2, 3] (by kernel_rfl) (by kernel_rfl) (by kernel_rfl) (by kernel_rfl) h
def kc_ref04_list1 (s4 : List AV) (s1 : List AV) (K1 : List AV → Hp → Nat → Prop) (v3 : AV) (R : AEnd → Hp → Nat → Prop) (r : AEnd) (σ : Hp) (n : Nat) : Prop :=
 onEnd r (fun v7 =>
 bindP (semBin .add (s4.getD 1 .any) v7) fun v9 =>
 bindP (semBin .add (s1.getD 3 .any) (.sc (.int .i64 1))) fun v10 =>
 K1 [v3, (s4.getD 0 .any), v9, v10] σ n) (fun v8 => R (.pan v8) σ n)
def jk_ref04_list2 (a0 : AV) (s1 : List AV) (K1 : List AV → Hp → Nat → Prop) (v3 : AV) (R : AEnd → Hp → Nat → Prop) (s4 : List AV) (σ : Hp) (n : Nat) : Prop :=
 bindP (aIad 7 a0 (s1.getD 3 .any)) fun v5 =>
 bindP (aLd σ (some 7) v5) fun v6 =>
 CALL Tryz.prog (.fn 20 []) [v6] σ n (kc_ref04_list1 s4 s1 K1 v3 R)
def lb_ref04_list3 (a0 : AV) (R : AEnd → Hp → Nat → Prop) (K1 : List AV → Hp → Nat → Prop) (s1 : List AV) (σ : Hp) (n : Nat) : Prop :=
 bindP (aLen false a0) fun v2 => bnd σ a0 →
 bindP (semBin .lss (s1.getD 3 .any) v2) fun v3 =>
 COND v3 (
 JOIN (jk_ref04_list2 a0 s1 K1 v3 R) fun K4 =>
 bindP (semBin .gtr (s1.getD 3 .any) (.sc (.int .i64 0))) fun v11 =>
 COND v11 (
 bindP (semBin .add (s1.getD 2 .any) (.s [44, 32])) fun v12 =>
 K4 [v11, v12] σ n) (
 K4 [v11, (s1.getD 2 .any)] σ n)) (
 R (.ret (s1.getD 2 .any)) σ n)
attribute [go_sem] kc_ref04_list1 jk_ref04_list2 lb_ref04_list3
noncomputable def sc_ref04_list : SCode := (Tryz.f19.body.bind (cmpC Tryz.prog Tryz.f19.ntmps [8, 12, 0, 4, 3, 2])).getD .skip
def sh_ref04_list (a0 : AV) (σ : Hp) (n : Nat) (R : AEnd → Hp → Nat → Prop) : Prop :=
 LOOP (lb_ref04_list3 a0 R) [(.tp []), (.tp []), (.s []), (.sc (.int .i64 0))] σ n
theorem se_ref04_list (a0 : AV) (σ : Hp) (n : Nat) (R : AEnd → Hp → Nat → Prop) : sh_ref04_list a0 σ n R = swp Tryz.prog sc_ref04_list (retQ [(.t 2)] R) (entry [a0]) σ n := by kernel_rfl
theorem by_ref04_list {a0 : AV} {σ : Hp} {n : Nat} {R : AEnd → Hp → Nat → Prop} (h : sh_ref04_list a0 σ n R) : ConH Tryz.prog 19 [a0] σ n R := by
  rw [se_ref04_list] at h
  exact conH_of [(.t 2)] (fn := Tryz.f19) rfl [8, 12, 0, 4, 3, 2] (by kernel_rfl) (by kernel_rfl) (by kernel_rfl) (by kernel_rfl) h
def kc_ref04_with1 (v4 : AV) (R : AEnd → Hp → Nat → Prop) (r : AEnd) (σ : Hp) (n : Nat) : Prop :=
 onEnd r (fun v7 =>
 bindP (semBin .add v4 v7) fun v9 =>
 R (.ret v9) σ n) (fun v8 => R (.pan v8) σ n)
attribute [go_sem] kc_ref04_with1
noncomputable def sc_ref04_with : SCode := (Tryz.f21.body.bind (cmpC Tryz.prog Tryz.f21.ntmps [7, 0, 1, 4])).getD .skip
def sh_ref04_with (a0 a1 : AV) (σ : Hp) (n : Nat) (R : AEnd → Hp → Nat → Prop) : Prop :=
 bindP (aLen false a1) fun v1 => bnd σ a1 →
 bindP (semBin .eql v1 (.sc (.int .i64 0))) fun v2 =>
 COND v2 (
 R (.ret (.s [])) σ n) (
 bindP (semBin .add (.s [32]) a0) fun v3 =>
 bindP (semBin .add v3 (.s [32])) fun v4 =>
 bindP (aIad 7 a1 (.sc (.int .i64 0))) fun v5 =>
 bindP (aLd σ (some 7) v5) fun v6 =>
 CALL Tryz.prog (.fn 20 []) [v6] σ n (kc_ref04_with1 v4 R))
theorem se_ref04_with (a0 a1 : AV) (σ : Hp) (n : Nat) (R : AEnd → Hp → Nat → Prop) : sh_ref04_with a0 a1 σ n R = swp Tryz.prog sc_ref04_with (retQ [(.t 4)] R) (entry [a0, a1]) σ n := by kernel_rfl
theorem by_ref04_with {a0 a1 : AV} {σ : Hp} {n : Nat} {R : AEnd → Hp → Nat → Prop} (h : sh_ref04_with a0 a1 σ n R) : ConH Tryz.prog 21 [a0, a1] σ n R := by
  rw [se_ref04_with] at h
  exact conH_of [(.t 4)] (fn := Tryz.f21) rfl [7, 0, 1, 4] (by kernel_rfl) (by kernel_rfl) (by kernel_rfl) (by kernel_rfl) h
def jk_ref04_columns1 (s2 : List AV) (K2 : List AV → Hp → Nat → Prop) (v6 : AV) (v11 : AV) (s26 : List AV) (σ : Hp) (n : Nat) : Prop :=
 bindP (semBin .add (s26.getD 1 .any) (.s [44, 32])) fun v27 =>
 bindP (semBin .add (s2.getD 4 .any) (.sc (.int .i64 1))) fun v28 =>
 K2 [v6, v11, (s26.getD 0 .any), v27, v28] σ n
def lb_ref04_columns2 (v1 : AV) (R : AEnd → Hp → Nat → Prop) (K2 : List AV → Hp → Nat → Prop) (s2 : List AV) (σ : Hp) (n : Nat) : Prop :=
 bindP (aFad 2 v1) fun v3 =>
 bindP (aLd σ none v3) fun v4 =>
 bindP (aLen false v4) fun v5 => bnd σ v4 →
 bindP (semBin .lss (s2.getD 4 .any) v5) fun v6 =>
 COND v6 (
 bindP (aFad 2 v1) fun v7 =>
 bindP (aLd σ none v7) fun v8 =>
 bindP (aIad 3 v8 (s2.getD 4 .any)) fun v9 =>
 bindP (aLd σ (some 3) v9) fun v10 =>
 bindS (hAlloc n [(.string ⟨#[]⟩), (.int .i64 0), (.bool false)]) σ n fun v11 σ n =>
 bindS (hSt σ 3 v11 v10) σ n fun v12 σ n =>
 bindP (aFad 0 v11) fun v14 =>
 bindP (aLd σ none v14) fun v15 =>
 bindP (semBin .add (s2.getD 3 .any) v15) fun v16 =>
 bindP (semBin .add v16 (.s [32])) fun v17 =>
 bindH (hBsl σ (n + 16 * 5) 1 [(.string ⟨#[]⟩)] 3 [(0, (.s [73, 78, 84])), (1, (.s [66, 79, 79, 76])), (2, (.s [84, 69, 88, 84]))]) fun v18 w18 =>
 bindP (aFad 1 v11) fun v19 =>
 bindP (aLd σ none v19) fun v20 =>
 bindP (semBin .sub v20 (.sc (.int .i64 1))) fun v21 =>
 bindP (aIad 1 v18 v21) fun v22 =>
 bindP (aLd (applyW σ w18) none v22) fun v23 =>
 bindP (semBin .add v17 v23) fun v24 =>
 Apt (names []) (rdA v14) (names w18) (names w18) ∧
 Apt (names []) (rdA v14) (names []) (rdA v19) ∧
 Apt (names w18) (names w18) (names []) (rdA v19) ∧
 Apt (names []) (rdA v14) (names []) (rdA v22) ∧
 ∀ n_, n + 16 * 13 ≤ n_ → (fun n => (fun σ => JOIN (jk_ref04_columns1 s2 K2 v6 v11) fun K26 =>
 bindP (aFad 2 v11) fun v29 =>
 bindP (aLd σ none v29) fun v30 =>
 COND v30 (
 bindP (semBin .add v24 (.s [32, 78, 79, 84, 32, 78, 85, 76, 76])) fun v31 =>
 K26 [v30, v31] σ n) (
 K26 [v30, v24] σ n)) (applyW σ w18)) n_) (
 R (.ret (s2.getD 3 .any)) σ n)
attribute [go_sem] jk_ref04_columns1 lb_ref04_columns2
noncomputable def sc_ref04_columns : SCode := (Tryz.f18.body.bind (cmpC Tryz.prog Tryz.f18.ntmps [0, 10, 1, 5, 31, 4, 3, 2])).getD .skip
def sh_ref04_columns (a0 : AV) (σ : Hp) (n : Nat) (R : AEnd → Hp → Nat → Prop) : Prop :=
 bindS (hBox n a0) σ n fun v1 σ n =>
 LOOP (lb_ref04_columns2 v1 R) [(.tp []), (.tp []), (.tp []), (.s []), (.sc (.int .i64 0))] σ n
theorem se_ref04_columns (a0 : AV) (σ : Hp) (n : Nat) (R : AEnd → Hp → Nat → Prop) : sh_ref04_columns a0 σ n R = swp Tryz.prog sc_ref04_columns (retQ [(.t 2)] R) (entry [a0]) σ n := by kernel_rfl
theorem by_ref04_columns {a0 : AV} {σ : Hp} {n : Nat} {R : AEnd → Hp → Nat → Prop} (h : sh_ref04_columns a0 σ n R) : ConH Tryz.prog 18 [a0] σ n R := by
  rw [se_ref04_columns] at h
  exact conH_of [(.t 2)] (fn := Tryz.f18) rfl [0, 10, 1, 5, 31, 4, 3, 2] (by kernel_rfl) (by kernel_rfl) (by kernel_rfl) (by kernel_rfl) h
def kc_ref04_selected1 (s32 : List AV) (v1 : AV) (s25 : List AV) (K30 : List AV → Hp → Nat → Prop) (R : AEnd → Hp → Nat → Prop) (r : AEnd) (σ : Hp) (n : Nat) : Prop :=
 onEnd r (fun v38 =>
 bindP (semBin .add (s32.getD 1 .any) v38) fun v40 =>
 bindP (aFad 12 v1) fun v41 =>
 bindP (aLd σ none v41) fun v42 =>
 bindP (aIad 2 v42 (s25.getD 4 .any)) fun v43 =>
 bindP (aFad 1 v43) fun v44 =>
 bindP (aLd σ none v44) fun v45 =>
 COND v45 (
 bindP (semBin .add v40 (.s [32, 68, 69, 83, 67])) fun v46 =>
 K30 [(s32.getD 0 .any), v45, v46] σ n) (
 K30 [(s32.getD 0 .any), v45, v40] σ n)) (fun v39 => R (.pan v39) σ n)
def jk_ref04_selected2 (v1 : AV) (s25 : List AV) (K30 : List AV → Hp → Nat → Prop) (R : AEnd → Hp → Nat → Prop) (s32 : List AV) (σ : Hp) (n : Nat) : Prop :=
 bindP (aFad 12 v1) fun v33 =>
 bindP (aLd σ none v33) fun v34 =>
 bindP (aIad 2 v34 (s25.getD 4 .any)) fun v35 =>
 bindP (aFad 0 v35) fun v36 =>
 bindP (aLd σ none v36) fun v37 =>
 CALL Tryz.prog (.fn 49 []) [v37] σ n (kc_ref04_selected1 s32 v1 s25 K30 R)
def jk_ref04_selected3 (s25 : List AV) (K25 : List AV → Hp → Nat → Prop) (v29 : AV) (s30 : List AV) (σ : Hp) (n : Nat) : Prop :=
 bindP (semBin .add (s25.getD 4 .any) (.sc (.int .i64 1))) fun v31 =>
 K25 [v29, (s30.getD 0 .any), (s30.getD 1 .any), (s30.getD 2 .any), v31] σ n
def kc_ref04_selected4 (v54 : AV) (K50 : List AV → Hp → Nat → Prop) (v53 : AV) (R : AEnd → Hp → Nat → Prop) (r : AEnd) (σ : Hp) (n : Nat) : Prop :=
 onEnd r (fun v57 =>
 bindP (semBin .add v54 v57) fun v59 =>
 K50 [v53, v59] σ n) (fun v58 => R (.pan v58) σ n)
def jk_ref04_selected5 (R : AEnd → Hp → Nat → Prop) (s50 : List AV) (σ : Hp) (n : Nat) : Prop :=
 R (.ret (s50.getD 1 .any)) σ n
def lb_ref04_selected6 (v1 : AV) (R : AEnd → Hp → Nat → Prop) (K25 : List AV → Hp → Nat → Prop) (s25 : List AV) (σ : Hp) (n : Nat) : Prop :=
 bindP (aFad 12 v1) fun v26 =>
 bindP (aLd σ none v26) fun v27 =>
 bindP (aLen false v27) fun v28 => bnd σ v27 →
 bindP (semBin .lss (s25.getD 4 .any) v28) fun v29 =>
 COND v29 (
 JOIN (jk_ref04_selected3 s25 K25 v29) fun K30 =>
 JOIN (jk_ref04_selected2 v1 s25 K30 R) fun K32 =>
 bindP (semBin .eql (s25.getD 4 .any) (.sc (.int .i64 0))) fun v47 =>
 COND v47 (
 bindP (semBin .add (s25.getD 3 .any) (.s [32, 79, 82, 68, 69, 82, 32, 66, 89, 32])) fun v48 =>
 K32 [v47, v48] σ n) (
 bindP (semBin .add (s25.getD 3 .any) (.s [44, 32])) fun v49 =>
 K32 [v47, v49] σ n)) (
 JOIN (jk_ref04_selected5 R) fun K50 =>
 bindP (aFad 13 v1) fun v51 =>
 bindP (aLd σ none v51) fun v52 =>
 bindP (semBin .geq v52 (.sc (.int .i64 0))) fun v53 =>
 COND v53 (
 bindP (semBin .add (s25.getD 3 .any) (.s [32, 76, 73, 77, 73, 84, 32])) fun v54 =>
 bindP (aFad 13 v1) fun v55 =>
 bindP (aLd σ none v55) fun v56 =>
 CALL Tryz.prog (.fn 49 []) [v56] σ n (kc_ref04_selected4 v54 K50 v53 R)) (
 K50 [v53, (s25.getD 3 .any)] σ n))
def kd_ref04_selected7 (v18 : AV) (v14 : AV) (v19 : AV) (w16 : Wr) (d16 : List Nat) (n : Nat) (σ : Hp) (v1 : AV) (R : AEnd → Hp → Nat → Prop) (r : AEnd) (w21 : Wr) (d21 : List Nat) : Prop :=
 onEnd r (fun v21 =>
 bindP (semBin .add v18 v21) fun v23 =>
 Apt (names []) (rdA v14) (names []) (rdA v19) ∧
 Apt (names w16) d16 (names []) (rdA v19) ∧
 ∀ n_, n + 16 * 10 ≤ n_ → (fun n => (fun σ => LOOP (lb_ref04_selected6 v1 R) [(.tp []), (.tp []), (.tp []), v23, (.sc (.int .i64 0))] σ n) (applyW (applyW σ w16) w21)) n_) (fun v22 => Apt (names []) (rdA v14) (names []) (rdA v19) ∧
 Apt (names w16) d16 (names []) (rdA v19) ∧
 ∀ (fr_ : Regs) σ n, R (.pan v22) σ n)
def kd_ref04_selected8 (s12 : List AV) (v1 : AV) (σ : Hp) (n : Nat) (v14 : AV) (R : AEnd → Hp → Nat → Prop) (r : AEnd) (w16 : Wr) (d16 : List Nat) : Prop :=
 onEnd r (fun v16 =>
 bindP (semBin .add (s12.getD 1 .any) v16) fun v18 =>
 bindP (aFad 11 v1) fun v19 =>
 bindP (aLd σ none v19) fun v20 =>
 callD Tryz.prog (.fn 21 []) [(.s [71, 82, 79, 85, 80, 32, 66, 89]), v20] (applyW σ w16) (n + 16 * 7) (kd_ref04_selected7 v18 v14 v19 w16 d16 n σ v1 R)) (fun v17 => bindP (aFad 11 v1) fun v60 =>
 bindP (aLd σ none v60) fun v61 =>
 Apt (names []) (rdA v14) (names []) (rdA v60) ∧
 Apt (names []) d16 (names []) (rdA v60) ∧
 ∀ (fr_ : Regs) σ n, R (.pan v17) σ n)
def kd_ref04_selected9 (v69 : AV) (v67 : AV) (v70 : AV) (n : Nat) (σ : Hp) (K12 : List AV → Hp → Nat → Prop) (v64 : AV) (R : AEnd → Hp → Nat → Prop) (r : AEnd) (w72 : Wr) (d72 : List Nat) : Prop :=
 onEnd r (fun v72 =>
 bindP (semBin .add v69 v72) fun v74 =>
 Apt (names []) (rdA v67) (names []) (rdA v70) ∧
 Apt (names []) (rdA v67) (names w72) d72 ∧
 ∀ n_, n + 16 * 10 ≤ n_ → (fun n => (fun σ => K12 [v64, v74] σ n) (applyW σ w72)) n_) (fun v73 => Apt (names []) (rdA v67) (names []) (rdA v70) ∧
 Apt (names []) (rdA v67) (names []) d72 ∧
 ∀ (fr_ : Regs) σ n, R (.pan v73) σ n)
def jk_ref04_selected10 (v1 : AV) (R : AEnd → Hp → Nat → Prop) (s12 : List AV) (σ : Hp) (n : Nat) : Prop :=
 bindP (aFad 10 v1) fun v14 =>
 bindP (aLd σ none v14) fun v15 =>
 callD Tryz.prog (.fn 21 []) [(.s [87, 72, 69, 82, 69]), v15] σ (n + 16 * 3) (kd_ref04_selected8 s12 v1 σ n v14 R)
def kd_ref04_selected11 (v1 : AV) (σ : Hp) (v2 : AV) (n : Nat) (R : AEnd → Hp → Nat → Prop) (r : AEnd) (w4 : Wr) (d4 : List Nat) : Prop :=
 onEnd r (fun v4 =>
 bindP (semBin .add (.s [83, 69, 76, 69, 67, 84, 32]) v4) fun v6 =>
 bindP (semBin .add v6 (.s [32, 70, 82, 79, 77, 32])) fun v7 =>
 bindP (aFad 1 v1) fun v8 =>
 bindP (aLd σ none v8) fun v9 =>
 bindP (semBin .add v7 v9) fun v10 =>
 Apt (names []) (rdA v2) (names []) (rdA v8) ∧
 Apt (names w4) d4 (names []) (rdA v8) ∧
 ∀ n_, n + 16 * 9 ≤ n_ → (fun n => (fun σ => JOIN (jk_ref04_selected10 v1 R) fun K12 =>
 bindP (aFad 8 v1) fun v62 =>
 bindP (aLd σ none v62) fun v63 =>
 bindP (semBin .neq v63 (.s [])) fun v64 =>
 COND v64 (
 bindP (semBin .add v10 (.s [32, 74, 79, 73, 78, 32])) fun v66 =>
 bindP (aFad 8 v1) fun v67 =>
 bindP (aLd σ none v67) fun v68 =>
 bindP (semBin .add v66 v68) fun v69 =>
 bindP (aFad 9 v1) fun v70 =>
 bindP (aLd σ none v70) fun v71 =>
 callD Tryz.prog (.fn 21 []) [(.s [79, 78]), v71] σ (n + 16 * 7) (kd_ref04_selected9 v69 v67 v70 n σ K12 v64 R)) (
 K12 [v64, v10] σ n)) (applyW σ w4)) n_) (fun v5 => bindP (aFad 1 v1) fun v76 =>
 bindP (aLd σ none v76) fun v77 =>
 Apt (names []) (rdA v2) (names []) (rdA v76) ∧
 Apt (names []) d4 (names []) (rdA v76) ∧
 ∀ (fr_ : Regs) σ n, R (.pan v5) σ n)
attribute [go_sem] kc_ref04_selected1 jk_ref04_selected2 jk_ref04_selected3 kc_ref04_selected4 jk_ref04_selected5 lb_ref04_selected6 kd_ref04_selected7 kd_ref04_selected8 kd_ref04_selected9 jk_ref04_selected10 kd_ref04_selected11
noncomputable def sc_ref04_selected : SCode := (Tryz.f22.body.bind (cmpC Tryz.prog Tryz.f22.ntmps [0, 15, 38, 42, 61, 4, 66, 1, 3, 2])).getD .skip
def sh_ref04_selected (a0 : AV) (σ : Hp) (n : Nat) (R : AEnd → Hp → Nat → Prop) : Prop :=
 bindS (hBox n a0) σ n fun v1 σ n =>
 bindP (aFad 7 v1) fun v2 =>
 bindP (aLd σ none v2) fun v3 =>
 callD Tryz.prog (.fn 19 []) [v3] σ (n + 16 * 2) (kd_ref04_selected11 v1 σ v2 n R)
theorem se_ref04_selected (a0 : AV) (σ : Hp) (n : Nat) (R : AEnd → Hp → Nat → Prop) : sh_ref04_selected a0 σ n R = swp Tryz.prog sc_ref04_selected (retQ [(.t 2)] R) (entry [a0]) σ n := by kernel_rfl
theorem by_ref04_selected {a0 : AV} {σ : Hp} {n : Nat} {R : AEnd → Hp → Nat → Prop} (h : sh_ref04_selected a0 σ n R) : ConH Tryz.prog 22 [a0] σ n R := by
  rw [se_ref04_selected] at h
  exact conH_of [(.t 2)] (fn := Tryz.f22) rfl [0, 15, 38, 42, 61, 4, 66, 1, 3, 2] (by kernel_rfl) (by kernel_rfl) (by kernel_rfl) (by kernel_rfl) h
end Go.Proofs.YtodoejfkjimeaaaGreatDoor
