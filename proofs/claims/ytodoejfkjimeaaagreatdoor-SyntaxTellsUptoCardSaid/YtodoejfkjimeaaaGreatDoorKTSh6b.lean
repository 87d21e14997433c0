/- Packed by a program of this repo: Sh6b. -/
import Derived.Test.YtodoejfkjimeaaaGreatDoorKTMs
import Derived.Test.YtodoejfkjimeaaaGreatDoorProg
set_option linter.unusedVariables false
set_option maxRecDepth 8000
namespace Go.Proofs.YtodoejfkjimeaaaGreatDoor
open Go Am
def kc_ref04_Check1 (Kg : AV → Hp → Nat → Prop) (R : AEnd → Hp → Nat → Prop) (r : AEnd) (σ : Hp) (n : Nat) : Prop :=
 onEnd r (fun v19 =>
 Kg v19 σ n) (fun v20 => R (.pan v20) σ n)
def kc_ref04_Check2 (Kg : AV → Hp → Nat → Prop) (R : AEnd → Hp → Nat → Prop) (r : AEnd) (σ : Hp) (n : Nat) : Prop :=
 onEnd r (fun v25 =>
 Kg v25 σ n) (fun v26 => R (.pan v26) σ n)
def kc_ref04_Check3 (R : AEnd → Hp → Nat → Prop) (s41 : List AV) (K41 : List AV → Hp → Nat → Prop) (v45 : AV) (r : AEnd) (σ : Hp) (n : Nat) : Prop :=
 onEnd r (fun v50 =>
 bindP (semBin .neq v50 (.sc (.int .i64 0))) fun v52 =>
 COND v52 (
 R (.ret v50) σ n) (
 bindP (semBin .add (s41.getD 4 .any) (.sc (.int .i64 1))) fun v53 =>
 K41 [v45, v50, v52, (s41.getD 3 .any), v53] σ n)) (fun v51 => R (.pan v51) σ n)
def kc_ref04_Check4 (R : AEnd → Hp → Nat → Prop) (s54 : List AV) (K54 : List AV → Hp → Nat → Prop) (v58 : AV) (r : AEnd) (σ : Hp) (n : Nat) : Prop :=
 onEnd r (fun v64 =>
 bindP (semBin .neq v64 (.sc (.int .i64 0))) fun v66 =>
 COND v66 (
 R (.ret v64) σ n) (
 bindP (semBin .add (s54.getD 4 .any) (.sc (.int .i64 1))) fun v67 =>
 K54 [v58, v64, v66, (s54.getD 3 .any), v67] σ n)) (fun v65 => R (.pan v65) σ n)
def kc_ref04_Check5 (R : AEnd → Hp → Nat → Prop) (s77 : List AV) (K77 : List AV → Hp → Nat → Prop) (v78 : AV) (r : AEnd) (σ : Hp) (n : Nat) : Prop :=
 onEnd r (fun v81 =>
 bindP (semBin .neq v81 (.sc (.int .i64 0))) fun v83 =>
 COND v83 (
 R (.ret v81) σ n) (
 bindP (semBin .add (s77.getD 4 .any) (.sc (.int .i64 1))) fun v84 =>
 K77 [v78, v81, v83, (s77.getD 3 .any), v84] σ n)) (fun v82 => R (.pan v82) σ n)
def lb_ref04_Check6 (v76 : AV) (R : AEnd → Hp → Nat → Prop) (v1 : AV) (K77 : List AV → Hp → Nat → Prop) (s77 : List AV) (σ : Hp) (n : Nat) : Prop :=
 bindP (semBin .lss (s77.getD 4 .any) (.sc (.int .i64 4))) fun v78 =>
 COND v78 (
 bindP (aIad 1 v76 (s77.getD 4 .any)) fun v79 =>
 bindP (aLd σ none v79) fun v80 =>
 CALL Tryz.prog (.fn 30 []) [v80] σ n (kc_ref04_Check5 R s77 K77 v78)) (
 bindP (aFad 11 v1) fun v85 =>
 bindP (aLd σ none v85) fun v86 =>
 bindP (aLen false v86) fun v87 => bnd σ v86 →
 bindP (semBin .gtr v87 (.sc (.int .i64 0))) fun v88 =>
 guardP v88 true (aFad 11 v1) fun v89 =>
 guardP v88 true (aLd σ none v89) fun v90 =>
 guardP v88 true (aIad 7 v90 (.sc (.int .i64 0))) fun v91 =>
 guardP v88 true (aFad 0 v91) fun v92 =>
 guardP v88 true (aLd σ none v92) fun v93 =>
 guardP v88 true (semBin .neq v93 (.sc (.int .i64 1))) fun v94 =>
 bindP (aPick v88 v94 (.sc (.bool false))) fun v95 =>
 COND v95 (
 R (.ret (.sc (.int .i64 9))) σ n) (
 R (.ret (.sc (.int .i64 0))) σ n))
def lb_ref04_Check7 (v1 : AV) (R : AEnd → Hp → Nat → Prop) (K54 : List AV → Hp → Nat → Prop) (s54 : List AV) (σ : Hp) (n : Nat) : Prop :=
 bindP (aFad 6 v1) fun v55 =>
 bindP (aLd σ none v55) fun v56 =>
 bindP (aLen false v56) fun v57 => bnd σ v56 →
 bindP (semBin .lss (s54.getD 4 .any) v57) fun v58 =>
 COND v58 (
 bindP (aFad 6 v1) fun v59 =>
 bindP (aLd σ none v59) fun v60 =>
 bindP (aIad 8 v60 (s54.getD 4 .any)) fun v61 =>
 bindP (aFad 1 v61) fun v62 =>
 bindP (aLd σ (some 7) v62) fun v63 =>
 CALL Tryz.prog (.fn 31 []) [v63] σ n (kc_ref04_Check4 R s54 K54 v58)) (
 bindP (aFad 7 v1) fun v68 =>
 bindP (aLd σ none v68) fun v69 =>
 bindP (aFad 9 v1) fun v70 =>
 bindP (aLd σ none v70) fun v71 =>
 bindP (aFad 10 v1) fun v72 =>
 bindP (aLd σ none v72) fun v73 =>
 bindP (aFad 11 v1) fun v74 =>
 bindP (aLd σ none v74) fun v75 =>
 bindS (hBsl σ n 1 [(.slice none 0 0)] 4 [(0, v69), (1, v71), (2, v73), (3, v75)]) σ n fun v76 σ n =>
 LOOP (lb_ref04_Check6 v76 R v1) [(.tp []), (.tp []), (.tp []), (s54.getD 3 .any), (.sc (.int .i64 0))] σ n)
def lb_ref04_Check8 (v1 : AV) (R : AEnd → Hp → Nat → Prop) (K41 : List AV → Hp → Nat → Prop) (s41 : List AV) (σ : Hp) (n : Nat) : Prop :=
 bindP (aFad 5 v1) fun v42 =>
 bindP (aLd σ none v42) fun v43 =>
 bindP (aLen false v43) fun v44 => bnd σ v43 →
 bindP (semBin .lss (s41.getD 4 .any) v44) fun v45 =>
 COND v45 (
 bindP (aFad 5 v1) fun v46 =>
 bindP (aLd σ none v46) fun v47 =>
 bindP (aIad 1 v47 (s41.getD 4 .any)) fun v48 =>
 bindP (aLd σ none v48) fun v49 =>
 CALL Tryz.prog (.fn 30 []) [v49] σ n (kc_ref04_Check3 R s41 K41 v45)) (
 LOOP (lb_ref04_Check7 v1 R) [(.tp []), (.tp []), (.tp []), (s41.getD 3 .any), (.sc (.int .i64 0))] σ n)
def kc_ref04_Check9 (v1 : AV) (R : AEnd → Hp → Nat → Prop) (s12 : List AV) (r : AEnd) (σ : Hp) (n : Nat) : Prop :=
 onEnd r (fun v14 =>
 bindP (aUn .not v14) fun v16 =>
 guardP v16 false (aLd σ (some 14) v1) fun v17 =>
 guardK v16 false (fun Kg => CALL Tryz.prog (.fn 28 []) [v17] σ n (kc_ref04_Check1 Kg R)) σ n fun v18 σ n =>
 guardP v16 false (aUn .not v18) fun v21 =>
 bindP (aPick v16 (.sc (.bool true)) v21) fun v22 =>
 guardP v22 false (aLd σ (some 14) v1) fun v23 =>
 guardK v22 false (fun Kg => CALL Tryz.prog (.fn 29 []) [v23] σ n (kc_ref04_Check2 Kg R)) σ n fun v24 σ n =>
 guardP v22 false (aUn .not v24) fun v27 =>
 bindP (aPick v22 (.sc (.bool true)) v27) fun v28 =>
 guardP v28 false (some (s12.getD 1 .any)) fun v29 =>
 guardP v28 false (aUn .not v29) fun v30 =>
 bindP (aPick v28 (.sc (.bool true)) v30) fun v31 =>
 guardP v31 false (aFad 8 v1) fun v32 =>
 guardP v31 false (aLd σ none v32) fun v33 =>
 guardP v31 false (semBin .neq v33 (.s [])) fun v34 =>
 guardP v31 false (aFad 9 v1) fun v35 =>
 guardP v31 false (aLd σ none v35) fun v36 =>
 guardP v31 false (aLen false v36) fun v37 =>
 guardP v31 false (semBin .gtr v37 (.sc (.int .i64 0))) fun v38 =>
 guardP v31 false (aEqb true v34 v38) fun v39 =>
 bindP (aPick v31 (.sc (.bool true)) v39) fun v40 =>
 COND v40 (
 R (.ret (.sc (.int .i64 9))) σ n) (
 LOOP (lb_ref04_Check8 v1 R) [(.tp []), (.tp []), (.tp []), (.sc (.int .i64 0)), (.sc (.int .i64 0))] σ n)) (fun v15 => R (.pan v15) σ n)
def jk_ref04_Check10 (v1 : AV) (R : AEnd → Hp → Nat → Prop) (s12 : List AV) (σ : Hp) (n : Nat) : Prop :=
 bindP (aLd σ (some 14) v1) fun v13 =>
 CALL Tryz.prog (.fn 27 []) [v13] σ n (kc_ref04_Check9 v1 R s12)
attribute [go_sem] kc_ref04_Check1 kc_ref04_Check2 kc_ref04_Check3 kc_ref04_Check4 kc_ref04_Check5 lb_ref04_Check6 lb_ref04_Check7 lb_ref04_Check8 kc_ref04_Check9 jk_ref04_Check10
noncomputable def sc_ref04_Check : SCode := (Tryz.f9.body.bind (cmpC Tryz.prog Tryz.f9.ntmps [0, 18, 24, 3, 59, 64, 74, 5, 4, 80, 91, 7, 6, 103, 8, 112, 10, 9, 1, 125, 2])).getD .skip
def sh_ref04_Check (a0 : AV) (σ : Hp) (n : Nat) (R : AEnd → Hp → Nat → Prop) : Prop :=
 bindS (hBox n a0) σ n fun v1 σ n =>
 bindP (aFad 0 v1) fun v2 =>
 bindP (aLd σ none v2) fun v3 =>
 bindP (semBin .lss v3 (.sc (.int .i64 1))) fun v4 =>
 guardP v4 false (aFad 0 v1) fun v5 =>
 guardP v4 false (aLd σ none v5) fun v6 =>
 guardP v4 false (semBin .gtr v6 (.sc (.int .i64 10))) fun v7 =>
 bindP (aPick v4 (.sc (.bool true)) v7) fun v8 =>
 COND v8 (
 R (.ret (.sc (.int .i64 22))) σ n) (
 bindP (aFad 13 v1) fun v9 =>
 bindP (aLd σ none v9) fun v10 =>
 bindP (semBin .eql v10 (.sc (.int .i64 0))) fun v11 =>
 JOIN (jk_ref04_Check10 v1 R) fun K12 =>
 bindP (aFad 0 v1) fun v96 =>
 bindP (aLd σ none v96) fun v97 =>
 bindP (semBin .eql v97 (.sc (.int .i64 7))) fun v98 =>
 COND v98 (
 bindP (aFad 13 v1) fun v99 =>
 bindP (aLd σ none v99) fun v100 =>
 bindP (semBin .geq v100 (.sc (.int .i64 (-1)))) fun v101 =>
 guardP v101 true (aFad 13 v1) fun v102 =>
 guardP v101 true (aLd σ none v102) fun v103 =>
 guardP v101 true (semBin .leq v103 (.sc (.int .i64 2147483648))) fun v104 =>
 bindP (aPick v101 v104 (.sc (.bool false))) fun v105 =>
 K12 [v98, v105] σ n) (
 K12 [v98, v11] σ n))
theorem se_ref04_Check (a0 : AV) (σ : Hp) (n : Nat) (R : AEnd → Hp → Nat → Prop) : sh_ref04_Check a0 σ n R = swp Tryz.prog sc_ref04_Check (retQ [(.t 2)] R) (entry [a0]) σ n := by kernel_rfl
theorem by_ref04_Check {a0 : AV} {σ : Hp} {n : Nat} {R : AEnd → Hp → Nat → Prop} (h : sh_ref04_Check a0 σ n R) : ConH Tryz.prog 9 [a0] σ n R := by
  rw [se_ref04_Check] at h
  exact conH_of [(.t 2)] (fn := Tryz.f9) rfl [0, 18, 24, 3, 59, 64, 74, 5, 4, 80, 91, 7, 6, 103, 8, 112, 10, 9, 1, 125, 2] (by kernel_rfl) (by kernel_rfl) (by kernel_rfl) (by kernel_rfl) h
def kc_syntax_Check_c11 (R : AEnd → Hp → Nat → Prop) (r : AEnd) (σ : Hp) (n : Nat) : Prop :=
 onEnd r (fun v2 =>
 R (.ret (.tp [])) σ n) (fun v3 => R (.pan v3) σ n)
attribute [go_sem] kc_syntax_Check_c11
noncomputable def sc_syntax_Check_c1 : SCode := (Tryz.f24.body.bind (cmpC Tryz.prog Tryz.f24.ntmps [1, 0])).getD .skip
def sh_syntax_Check_c1 (a0 a1 : AV) (σ : Hp) (n : Nat) (R : AEnd → Hp → Nat → Prop) : Prop :=
 bindP (aLd σ (some 14) a1) fun v1 =>
 CALL Tryz.prog (.fn 25 []) [v1, a0] σ n (kc_syntax_Check_c11 R)
theorem se_syntax_Check_c1 (a0 a1 : AV) (σ : Hp) (n : Nat) (R : AEnd → Hp → Nat → Prop) : sh_syntax_Check_c1 a0 a1 σ n R = swp Tryz.prog sc_syntax_Check_c1 (retQ [] R) (entry [a0, a1]) σ n := by kernel_rfl
theorem by_syntax_Check_c1 {a0 a1 : AV} {σ : Hp} {n : Nat} {R : AEnd → Hp → Nat → Prop} (h : sh_syntax_Check_c1 a0 a1 σ n R) : ConH Tryz.prog 24 [a0, a1] σ n R := by
  rw [se_syntax_Check_c1] at h
  exact conH_of [] (fn := Tryz.f24) rfl [1, 0] (by kernel_rfl) (by kernel_rfl) (by kernel_rfl) (by kernel_rfl) h
def kc_syntax_exprs1 (R : AEnd → Hp → Nat → Prop) (s37 : List AV) (K37 : List AV → Hp → Nat → Prop) (v38 : AV) (v41 : AV) (r : AEnd) (σ : Hp) (n : Nat) : Prop :=
 onEnd r (fun v44 =>
 bindP (aUn .not v44) fun v46 =>
 COND v46 (
 R (.ret (.tp [])) σ n) (
 bindP (semBin .add (s37.getD 3 .any) (.sc (.int .i64 1))) fun v47 =>
 K37 [v38, v41, v46, v47] σ n)) (fun v45 => R (.pan v45) σ n)
def lb_syntax_exprs2 (v36 : AV) (v35 : AV) (a1 : AV) (R : AEnd → Hp → Nat → Prop) (s32 : List AV) (K32 : List AV → Hp → Nat → Prop) (v33 : AV) (K37 : List AV → Hp → Nat → Prop) (s37 : List AV) (σ : Hp) (n : Nat) : Prop :=
 bindP (semBin .lss (s37.getD 3 .any) v36) fun v38 =>
 COND v38 (
 bindP (aIad 7 v35 (s37.getD 3 .any)) fun v39 =>
 bindP (aLd σ (some 7) v39) fun v40 =>
 bindS (hAlloc n [(.int .i64 0), (.int .i64 0), (.int .i64 0), (.string ⟨#[]⟩), (.string ⟨#[]⟩), (.string ⟨#[]⟩), (.slice none 0 0)]) σ n fun v41 σ n =>
 bindS (hSt σ 7 v41 v40) σ n fun v42 σ n =>
 bindP (aLd σ (some 7) v41) fun v43 =>
 CALL Tryz.prog a1 [v43] σ n (kc_syntax_exprs1 R s37 K37 v38 v41)) (
 bindP (semBin .add (s32.getD 8 .any) (.sc (.int .i64 1))) fun v48 =>
 K32 [v33, v35, v35, v36, v38, (s37.getD 1 .any), (s37.getD 2 .any), (s37.getD 3 .any), v48] σ n)
def lb_syntax_exprs3 (v31 : AV) (v30 : AV) (a1 : AV) (R : AEnd → Hp → Nat → Prop) (K32 : List AV → Hp → Nat → Prop) (s32 : List AV) (σ : Hp) (n : Nat) : Prop :=
 bindP (semBin .lss (s32.getD 8 .any) v31) fun v33 =>
 COND v33 (
 bindP (aIad 1 v30 (s32.getD 8 .any)) fun v34 =>
 bindP (aLd σ none v34) fun v35 =>
 bindP (aLen false v35) fun v36 => bnd σ v35 →
 LOOP (lb_syntax_exprs2 v36 v35 a1 R s32 K32 v33) [(s32.getD 4 .any), (s32.getD 5 .any), (s32.getD 6 .any), (.sc (.int .i64 0))] σ n) (
 R (.ret (.tp [])) σ n)
def lb_syntax_exprs4 (v8 : AV) (v7 : AV) (v1 : AV) (a1 : AV) (R : AEnd → Hp → Nat → Prop) (K9 : List AV → Hp → Nat → Prop) (s9 : List AV) (σ : Hp) (n : Nat) : Prop :=
 bindP (semBin .lss (s9.getD 3 .any) v8) fun v10 =>
 COND v10 (
 bindP (aIad 8 v7 (s9.getD 3 .any)) fun v11 =>
 bindP (aLd σ (some 8) v11) fun v12 =>
 bindS (hAlloc n [(.string ⟨#[]⟩), (.int .i64 0), (.int .i64 0), (.int .i64 0), (.string ⟨#[]⟩), (.string ⟨#[]⟩), (.string ⟨#[]⟩), (.slice none 0 0)]) σ n fun v13 σ n =>
 bindS (hSt σ 8 v13 v12) σ n fun v14 σ n =>
 bindP (aFad 1 v13) fun v15 =>
 bindP (aLd σ (some 7) v15) fun v16 =>
 bindS (hBsl σ n 7 [(.int .i64 0), (.int .i64 0), (.int .i64 0), (.string ⟨#[]⟩), (.string ⟨#[]⟩), (.string ⟨#[]⟩), (.slice none 0 0)] 1 [(0, v16)]) σ n fun v17 σ n =>
 bindS (hBsl σ n 1 [(.slice none 0 0)] 1 [(0, v17)]) σ n fun v18 σ n =>
 bindS (hApp σ n 1 24 (s9.getD 2 .any) v18) σ n fun v19 σ n =>
 bindP (semBin .add (s9.getD 3 .any) (.sc (.int .i64 1))) fun v20 =>
 K9 [v10, v13, v19, v20] σ n) (
 bindP (aFad 7 v1) fun v21 =>
 bindP (aLd σ none v21) fun v22 =>
 bindP (aFad 9 v1) fun v23 =>
 bindP (aLd σ none v23) fun v24 =>
 bindP (aFad 10 v1) fun v25 =>
 bindP (aLd σ none v25) fun v26 =>
 bindP (aFad 11 v1) fun v27 =>
 bindP (aLd σ none v27) fun v28 =>
 bindS (hBsl σ n 1 [(.slice none 0 0)] 4 [(0, v22), (1, v24), (2, v26), (3, v28)]) σ n fun v29 σ n =>
 bindS (hApp σ n 1 24 (s9.getD 2 .any) v29) σ n fun v30 σ n =>
 bindP (aLen false v30) fun v31 => bnd σ v30 →
 LOOP (lb_syntax_exprs3 v31 v30 a1 R) [(.tp []), (.tp []), (.tp []), (.tp []), (.tp []), (.tp []), (.tp []), (.tp []), (.sc (.int .i64 0))] σ n)
def kc_syntax_exprs5 (v1 : AV) (a1 : AV) (R : AEnd → Hp → Nat → Prop) (r : AEnd) (σ : Hp) (n : Nat) : Prop :=
 onEnd r (fun v4 =>
 bindP (aFad 6 v1) fun v6 =>
 bindP (aLd σ none v6) fun v7 =>
 bindP (aLen false v7) fun v8 => bnd σ v7 →
 LOOP (lb_syntax_exprs4 v8 v7 v1 a1 R) [(.tp []), (.tp []), v4, (.sc (.int .i64 0))] σ n) (fun v5 => R (.pan v5) σ n)
attribute [go_sem] kc_syntax_exprs1 lb_syntax_exprs2 lb_syntax_exprs3 lb_syntax_exprs4 kc_syntax_exprs5
noncomputable def sc_syntax_exprs : SCode := (Tryz.f25.body.bind (cmpC Tryz.prog Tryz.f25.ntmps [0, 16, 18, 15, 6, 17, 4, 2, 39, 41, 38, 8, 45, 47, 44, 1, 10, 53, 46, 40])).getD .skip
def sh_syntax_exprs (a0 a1 : AV) (σ : Hp) (n : Nat) (R : AEnd → Hp → Nat → Prop) : Prop :=
 bindS (hBox n a0) σ n fun v1 σ n =>
 bindP (aFad 5 v1) fun v2 =>
 bindP (aLd σ none v2) fun v3 =>
 CALL Tryz.prog (.fn 60 []) [v3] σ n (kc_syntax_exprs5 v1 a1 R)
theorem se_syntax_exprs (a0 a1 : AV) (σ : Hp) (n : Nat) (R : AEnd → Hp → Nat → Prop) : sh_syntax_exprs a0 a1 σ n R = swp Tryz.prog sc_syntax_exprs (retQ [] R) (entry [a0, a1]) σ n := by kernel_rfl
theorem by_syntax_exprs {a0 a1 : AV} {σ : Hp} {n : Nat} {R : AEnd → Hp → Nat → Prop} (h : sh_syntax_exprs a0 a1 σ n R) : ConH Tryz.prog 25 [a0, a1] σ n R := by
  rw [se_syntax_exprs] at h
  exact conH_of [] (fn := Tryz.f25) rfl [0, 16, 18, 15, 6, 17, 4, 2, 39, 41, 38, 8, 45, 47, 44, 1, 10, 53, 46, 40] (by kernel_rfl) (by kernel_rfl) (by kernel_rfl) (by kernel_rfl) h
def lb_ref04_counts1 (v30 : AV) (v4 : AV) (R : AEnd → Hp → Nat → Prop) (K31 : List AV → Hp → Nat → Prop) (s31 : List AV) (σ : Hp) (n : Nat) : Prop :=
 bindP (semBin .lss (s31.getD 3 .any) (.sc (.int .i64 8))) fun v32 =>
 COND v32 (
 bindP (aIad 1 v30 (s31.getD 3 .any)) fun v35 =>
 bindP (aLd σ none v35) fun v36 =>
 bindP (semBin .mul (.sc (.int .i64 2)) (s31.getD 3 .any)) fun v39 =>
 bindP (aIad 1 v4 v39) fun v40 =>
 bindP (aLd σ none v40) fun v41 =>
 bindP (semBin .lss v36 v41) fun v42 =>
 guardP v42 false (some v30) fun v44 =>
 guardP v42 false (some (s31.getD 3 .any)) fun v45 =>
 guardP v42 false (aIad 1 v44 v45) fun v46 =>
 guardP v42 false (aLd σ none v46) fun v47 =>
 guardP v42 false (some v4) fun v48 =>
 guardP v42 false (some (s31.getD 3 .any)) fun v49 =>
 guardP v42 false (semBin .mul (.sc (.int .i64 2)) v49) fun v50 =>
 guardP v42 false (semBin .add v50 (.sc (.int .i64 1))) fun v51 =>
 guardP v42 false (aIad 1 v48 v51) fun v52 =>
 guardP v42 false (aLd σ none v52) fun v53 =>
 guardP v42 false (semBin .gtr v47 v53) fun v54 =>
 bindP (aPick v42 (.sc (.bool true)) v54) fun v55 =>
 Apt (names []) (rdA v35) (names []) (rdA v40) ∧
 Apt (names []) (rdA v46) (names []) (rdA v52) ∧
 ∀ n_, n + 16 * 23 ≤ n_ → (fun n => COND v55 (
 R (.ret (.sc (.bool false))) σ n) (
 bindP (semBin .add (s31.getD 3 .any) (.sc (.int .i64 1))) fun v56 =>
 K31 [v32, v55, (s31.getD 2 .any), v56] σ n)) n_) (
 R (.ret (.sc (.bool true))) σ n)
def kc_ref04_counts2 (v1 : AV) (R : AEnd → Hp → Nat → Prop) (r : AEnd) (σ : Hp) (n : Nat) : Prop :=
 onEnd r (fun v4 =>
 bindP (aFad 2 v1) fun v6 =>
 bindP (aLd σ none v6) fun v7 =>
 bindP (aLen false v7) fun v8 => bnd σ v7 →
 bindP (aFad 5 v1) fun v9 =>
 bindP (aLd σ none v9) fun v10 =>
 bindP (aLen false v10) fun v11 => bnd σ v10 →
 bindP (aFad 6 v1) fun v12 =>
 bindP (aLd σ none v12) fun v13 =>
 bindP (aLen false v13) fun v14 => bnd σ v13 →
 bindP (aFad 7 v1) fun v15 =>
 bindP (aLd σ none v15) fun v16 =>
 bindP (aLen false v16) fun v17 => bnd σ v16 →
 bindP (aFad 9 v1) fun v18 =>
 bindP (aLd σ none v18) fun v19 =>
 bindP (aLen false v19) fun v20 => bnd σ v19 →
 bindP (aFad 10 v1) fun v21 =>
 bindP (aLd σ none v21) fun v22 =>
 bindP (aLen false v22) fun v23 => bnd σ v22 →
 bindP (aFad 11 v1) fun v24 =>
 bindP (aLd σ none v24) fun v25 =>
 bindP (aLen false v25) fun v26 => bnd σ v25 →
 bindP (aFad 12 v1) fun v27 =>
 bindP (aLd σ none v27) fun v28 =>
 bindP (aLen false v28) fun v29 => bnd σ v28 →
 bindS (hBsl σ n 1 [(.int .i64 0)] 8 [(0, v8), (1, v11), (2, v14), (3, v17), (4, v20), (5, v23), (6, v26), (7, v29)]) σ n fun v30 σ n =>
 LOOP (lb_ref04_counts1 v30 v4 R) [(.tp []), (.tp []), (.sc (.bool false)), (.sc (.int .i64 0))] σ n) (fun v5 => R (.pan v5) σ n)
attribute [go_sem] lb_ref04_counts1 kc_ref04_counts2
noncomputable def sc_ref04_counts : SCode := (Tryz.f27.body.bind (cmpC Tryz.prog Tryz.f27.ntmps [0, 1, 35, 4, 3, 60, 5, 2])).getD .skip
def sh_ref04_counts (a0 : AV) (σ : Hp) (n : Nat) (R : AEnd → Hp → Nat → Prop) : Prop :=
 bindS (hBox n a0) σ n fun v1 σ n =>
 bindP (aFad 0 v1) fun v2 =>
 bindP (aLd σ none v2) fun v3 =>
 CALL Tryz.prog (.fn 64 []) [v3] σ n (kc_ref04_counts2 v1 R)
theorem se_ref04_counts (a0 : AV) (σ : Hp) (n : Nat) (R : AEnd → Hp → Nat → Prop) : sh_ref04_counts a0 σ n R = swp Tryz.prog sc_ref04_counts (retQ [(.t 2)] R) (entry [a0]) σ n := by kernel_rfl
theorem by_ref04_counts {a0 : AV} {σ : Hp} {n : Nat} {R : AEnd → Hp → Nat → Prop} (h : sh_ref04_counts a0 σ n R) : ConH Tryz.prog 27 [a0] σ n R := by
  rw [se_ref04_counts] at h
  exact conH_of [(.t 2)] (fn := Tryz.f27) rfl [0, 1, 35, 4, 3, 60, 5, 2] (by kernel_rfl) (by kernel_rfl) (by kernel_rfl) (by kernel_rfl) h
def kc_ref04_names1 (Kg : AV → Hp → Nat → Prop) (R : AEnd → Hp → Nat → Prop) (r : AEnd) (σ : Hp) (n : Nat) : Prop :=
 onEnd r (fun v43 =>
 Kg v43 σ n) (fun v44 => R (.pan v44) σ n)
def kc_ref04_names2 (Kg : AV → Hp → Nat → Prop) (R : AEnd → Hp → Nat → Prop) (r : AEnd) (σ : Hp) (n : Nat) : Prop :=
 onEnd r (fun v52 =>
 Kg v52 σ n) (fun v53 => R (.pan v53) σ n)
def kc_ref04_names3 (Kg : AV → Hp → Nat → Prop) (R : AEnd → Hp → Nat → Prop) (r : AEnd) (σ : Hp) (n : Nat) : Prop :=
 onEnd r (fun v62 =>
 Kg v62 σ n) (fun v63 => R (.pan v63) σ n)
def kc_ref04_names4 (Kg : AV → Hp → Nat → Prop) (R : AEnd → Hp → Nat → Prop) (r : AEnd) (σ : Hp) (n : Nat) : Prop :=
 onEnd r (fun v76 =>
 Kg v76 σ n) (fun v77 => R (.pan v77) σ n)
attribute [go_sem] kc_ref04_names1 kc_ref04_names2 kc_ref04_names3 kc_ref04_names4
noncomputable def sc_ref04_names : SCode := (Tryz.f28.body.bind (cmpC Tryz.prog Tryz.f28.ntmps [0, 42, 6, 3, 4, 5, 1, 2])).getD .skip
def sh_ref04_names (a0 : AV) (σ : Hp) (n : Nat) (R : AEnd → Hp → Nat → Prop) : Prop :=
 bindS (hBox n a0) σ n fun v1 σ n =>
 bindP (aFad 0 v1) fun v2 =>
 bindP (aLd σ none v2) fun v3 =>
 bindP (semBin .eql v3 (.sc (.int .i64 1))) fun v4 =>
 guardP v4 false (aFad 0 v1) fun v6 =>
 guardP v4 false (aLd σ none v6) fun v7 =>
 guardP v4 false (semBin .eql v7 (.sc (.int .i64 2))) fun v8 =>
 bindP (aPick v4 (.sc (.bool true)) v8) fun v9 =>
 bindP (aFad 0 v1) fun v10 =>
 bindP (aLd σ none v10) fun v11 =>
 bindP (semBin .eql v11 (.sc (.int .i64 2))) fun v12 =>
 bindP (aFad 8 v1) fun v13 =>
 bindP (aLd σ none v13) fun v14 =>
 bindP (semBin .neq v14 (.s [])) fun v15 =>
 bindP (aFad 0 v1) fun v16 =>
 bindP (aLd σ none v16) fun v17 =>
 bindP (semBin .leq v17 (.sc (.int .i64 7))) fun v18 =>
 Apt (names []) (rdA v2) (names []) (rdA v10) ∧
 Apt (names []) (rdA v6) (names []) (rdA v10) ∧
 Apt (names []) (rdA v2) (names []) (rdA v13) ∧
 Apt (names []) (rdA v6) (names []) (rdA v13) ∧
 Apt (names []) (rdA v10) (names []) (rdA v13) ∧
 Apt (names []) (rdA v2) (names []) (rdA v16) ∧
 Apt (names []) (rdA v6) (names []) (rdA v16) ∧
 Apt (names []) (rdA v10) (names []) (rdA v16) ∧
 Apt (names []) (rdA v13) (names []) (rdA v16) ∧
 ∀ n_, n + 16 * 21 ≤ n_ → (fun n => bindP (aFad 1 v1) fun v23 =>
 bindP (aLd σ none v23) fun v24 =>
 bindP (semBin .neq v24 (.s [])) fun v25 =>
 bindP (aEqb true v18 v25) fun v26 =>
 guardP v26 false (some v9) fun v27 =>
 guardP v26 false (aFad 3 v1) fun v28 =>
 guardP v26 false (aLd σ none v28) fun v29 =>
 guardP v26 false (semBin .neq v29 (.s [])) fun v30 =>
 guardP v26 false (aEqb true v27 v30) fun v31 =>
 bindP (aPick v26 (.sc (.bool true)) v31) fun v32 =>
 guardP v32 false (some v12) fun v33 =>
 guardP v32 false (aFad 4 v1) fun v34 =>
 guardP v32 false (aLd σ none v34) fun v35 =>
 guardP v32 false (semBin .neq v35 (.s [])) fun v36 =>
 guardP v32 false (aEqb true v33 v36) fun v37 =>
 bindP (aPick v32 (.sc (.bool true)) v37) fun v38 =>
 COND v38 (
 R (.ret (.sc (.bool false))) σ n) (
 bindP (aUn .not v18) fun v39 =>
 guardP v39 false (aFad 1 v1) fun v40 =>
 guardP v39 false (aLd σ none v40) fun v41 =>
 guardK v39 false (fun Kg => CALL Tryz.prog (.fn 11 []) [v41] σ n (kc_ref04_names1 Kg R)) σ n fun v42 σ n =>
 bindP (aPick v39 (.sc (.bool true)) v42) fun v45 =>
 guardP v45 true (some v9) fun v46 =>
 guardP v45 true (aUn .not v46) fun v47 =>
 guardP v45 true (some v47) fun v48 =>
 guardP v48 false (aFad 3 v1) fun v49 =>
 guardP v48 false (aLd σ none v49) fun v50 =>
 guardK v48 false (fun Kg => CALL Tryz.prog (.fn 11 []) [v50] σ n (kc_ref04_names2 Kg R)) σ n fun v51 σ n =>
 guardP v45 true (aPick v48 (.sc (.bool true)) v51) fun v54 =>
 bindP (aPick v45 v54 (.sc (.bool false))) fun v55 =>
 guardP v55 true (some v12) fun v56 =>
 guardP v55 true (aUn .not v56) fun v57 =>
 guardP v55 true (some v57) fun v58 =>
 guardP v58 false (aFad 4 v1) fun v59 =>
 guardP v58 false (aLd σ none v59) fun v60 =>
 guardK v58 false (fun Kg => CALL Tryz.prog (.fn 11 []) [v60] σ n (kc_ref04_names3 Kg R)) σ n fun v61 σ n =>
 guardP v55 true (aPick v58 (.sc (.bool true)) v61) fun v64 =>
 bindP (aPick v55 v64 (.sc (.bool false))) fun v65 =>
 guardP v65 true (some v15) fun v66 =>
 guardP v65 true (aUn .not v66) fun v67 =>
 guardP v65 true (some v67) fun v68 =>
 guardP v68 false (aFad 0 v1) fun v69 =>
 guardP v68 false (aLd σ none v69) fun v70 =>
 guardP v68 false (semBin .eql v70 (.sc (.int .i64 7))) fun v71 =>
 guardP v68 false (some v71) fun v72 =>
 guardP v72 true (aFad 8 v1) fun v73 =>
 guardP v72 true (aLd σ none v73) fun v74 =>
 guardK v72 true (fun Kg => CALL Tryz.prog (.fn 11 []) [v74] σ n (kc_ref04_names4 Kg R)) σ n fun v75 σ n =>
 guardP v68 false (aPick v72 v75 (.sc (.bool false))) fun v78 =>
 guardP v65 true (aPick v68 (.sc (.bool true)) v78) fun v79 =>
 bindP (aPick v65 v79 (.sc (.bool false))) fun v80 =>
 R (.ret v80) σ n)) n_
theorem se_ref04_names (a0 : AV) (σ : Hp) (n : Nat) (R : AEnd → Hp → Nat → Prop) : sh_ref04_names a0 σ n R = swp Tryz.prog sc_ref04_names (retQ [(.t 2)] R) (entry [a0]) σ n := by kernel_rfl
theorem by_ref04_names {a0 : AV} {σ : Hp} {n : Nat} {R : AEnd → Hp → Nat → Prop} (h : sh_ref04_names a0 σ n R) : ConH Tryz.prog 28 [a0] σ n R := by
  rw [se_ref04_names] at h
  exact conH_of [(.t 2)] (fn := Tryz.f28) rfl [0, 42, 6, 3, 4, 5, 1, 2] (by kernel_rfl) (by kernel_rfl) (by kernel_rfl) (by kernel_rfl) h
def kc_ref04_lists1 (v1 : AV) (s2 : List AV) (R : AEnd → Hp → Nat → Prop) (K2 : List AV → Hp → Nat → Prop) (v6 : AV) (r : AEnd) (σ : Hp) (n : Nat) : Prop :=
 onEnd r (fun v12 =>
 bindP (aUn .not v12) fun v14 =>
 guardP v14 false (aFad 2 v1) fun v15 =>
 guardP v14 false (aLd σ none v15) fun v16 =>
 guardP v14 false (some (s2.getD 3 .any)) fun v17 =>
 guardP v14 false (aIad 3 v16 v17) fun v18 =>
 guardP v14 false (aFad 1 v18) fun v19 =>
 guardP v14 false (aLd σ none v19) fun v20 =>
 guardP v14 false (semBin .lss v20 (.sc (.int .i64 1))) fun v21 =>
 bindP (aPick v14 (.sc (.bool true)) v21) fun v22 =>
 guardP v22 false (aFad 2 v1) fun v23 =>
 guardP v22 false (aLd σ none v23) fun v24 =>
 guardP v22 false (some (s2.getD 3 .any)) fun v25 =>
 guardP v22 false (aIad 3 v24 v25) fun v26 =>
 guardP v22 false (aFad 1 v26) fun v27 =>
 guardP v22 false (aLd σ none v27) fun v28 =>
 guardP v22 false (semBin .gtr v28 (.sc (.int .i64 3))) fun v29 =>
 bindP (aPick v22 (.sc (.bool true)) v29) fun v30 =>
 COND v30 (
 R (.ret (.sc (.bool false))) σ n) (
 bindP (semBin .add (s2.getD 3 .any) (.sc (.int .i64 1))) fun v31 =>
 K2 [v6, v30, (s2.getD 2 .any), v31] σ n)) (fun v13 => R (.pan v13) σ n)
def kc_ref04_lists2 (R : AEnd → Hp → Nat → Prop) (s52 : List AV) (K52 : List AV → Hp → Nat → Prop) (v56 : AV) (r : AEnd) (σ : Hp) (n : Nat) : Prop :=
 onEnd r (fun v62 =>
 bindP (aUn .not v62) fun v64 =>
 COND v64 (
 R (.ret (.sc (.bool false))) σ n) (
 bindP (semBin .add (s52.getD 3 .any) (.sc (.int .i64 1))) fun v65 =>
 K52 [v56, v64, (s52.getD 2 .any), v65] σ n)) (fun v63 => R (.pan v63) σ n)
def lb_ref04_lists3 (v1 : AV) (R : AEnd → Hp → Nat → Prop) (K66 : List AV → Hp → Nat → Prop) (s66 : List AV) (σ : Hp) (n : Nat) : Prop :=
 bindP (aFad 12 v1) fun v67 =>
 bindP (aLd σ none v67) fun v68 =>
 bindP (aLen false v68) fun v69 => bnd σ v68 →
 bindP (semBin .lss (s66.getD 3 .any) v69) fun v70 =>
 COND v70 (
 bindP (aFad 12 v1) fun v71 =>
 bindP (aLd σ none v71) fun v72 =>
 bindP (aIad 2 v72 (s66.getD 3 .any)) fun v73 =>
 bindP (aFad 0 v73) fun v74 =>
 bindP (aLd σ none v74) fun v75 =>
 bindP (semBin .lss v75 (.sc (.int .i64 1))) fun v76 =>
 guardP v76 false (aFad 12 v1) fun v77 =>
 guardP v76 false (aLd σ none v77) fun v78 =>
 guardP v76 false (some (s66.getD 3 .any)) fun v79 =>
 guardP v76 false (aIad 2 v78 v79) fun v80 =>
 guardP v76 false (aFad 0 v80) fun v81 =>
 guardP v76 false (aLd σ none v81) fun v82 =>
 guardP v76 false (semBin .gtr v82 (.sc (.int .i64 16))) fun v83 =>
 bindP (aPick v76 (.sc (.bool true)) v83) fun v84 =>
 COND v84 (
 R (.ret (.sc (.bool false))) σ n) (
 bindP (semBin .add (s66.getD 3 .any) (.sc (.int .i64 1))) fun v85 =>
 K66 [v70, v84, (s66.getD 2 .any), v85] σ n)) (
 R (.ret (.sc (.bool true))) σ n)
def lb_ref04_lists4 (v1 : AV) (R : AEnd → Hp → Nat → Prop) (K52 : List AV → Hp → Nat → Prop) (s52 : List AV) (σ : Hp) (n : Nat) : Prop :=
 bindP (aFad 6 v1) fun v53 =>
 bindP (aLd σ none v53) fun v54 =>
 bindP (aLen false v54) fun v55 => bnd σ v54 →
 bindP (semBin .lss (s52.getD 3 .any) v55) fun v56 =>
 COND v56 (
 bindP (aFad 6 v1) fun v57 =>
 bindP (aLd σ none v57) fun v58 =>
 bindP (aIad 8 v58 (s52.getD 3 .any)) fun v59 =>
 bindP (aFad 0 v59) fun v60 =>
 bindP (aLd σ none v60) fun v61 =>
 CALL Tryz.prog (.fn 11 []) [v61] σ n (kc_ref04_lists2 R s52 K52 v56)) (
 LOOP (lb_ref04_lists3 v1 R) [(.tp []), (.tp []), (s52.getD 2 .any), (.sc (.int .i64 0))] σ n)
def lb_ref04_lists5 (v1 : AV) (R : AEnd → Hp → Nat → Prop) (K32 : List AV → Hp → Nat → Prop) (s32 : List AV) (σ : Hp) (n : Nat) : Prop :=
 bindP (aFad 5 v1) fun v33 =>
 bindP (aLd σ none v33) fun v34 =>
 bindP (aLen false v34) fun v35 => bnd σ v34 →
 bindP (semBin .lss (s32.getD 3 .any) v35) fun v36 =>
 COND v36 (
 bindP (aFad 5 v1) fun v37 =>
 bindP (aLd σ none v37) fun v38 =>
 bindP (aIad 1 v38 (s32.getD 3 .any)) fun v39 =>
 bindP (aLd σ none v39) fun v40 =>
 bindP (aLen false v40) fun v41 => bnd σ v40 →
 bindP (semBin .lss v41 (.sc (.int .i64 1))) fun v42 =>
 guardP v42 false (aFad 5 v1) fun v43 =>
 guardP v42 false (aLd σ none v43) fun v44 =>
 guardP v42 false (some (s32.getD 3 .any)) fun v45 =>
 guardP v42 false (aIad 1 v44 v45) fun v46 =>
 guardP v42 false (aLd σ none v46) fun v47 =>
 guardP v42 false (aLen false v47) fun v48 =>
 guardP v42 false (semBin .gtr v48 (.sc (.int .i64 8))) fun v49 =>
 bindP (aPick v42 (.sc (.bool true)) v49) fun v50 =>
 COND v50 (
 R (.ret (.sc (.bool false))) σ n) (
 bindP (semBin .add (s32.getD 3 .any) (.sc (.int .i64 1))) fun v51 =>
 K32 [v36, v50, (s32.getD 2 .any), v51] σ n)) (
 LOOP (lb_ref04_lists4 v1 R) [(.tp []), (.tp []), (s32.getD 2 .any), (.sc (.int .i64 0))] σ n)
def lb_ref04_lists6 (v1 : AV) (R : AEnd → Hp → Nat → Prop) (K2 : List AV → Hp → Nat → Prop) (s2 : List AV) (σ : Hp) (n : Nat) : Prop :=
 bindP (aFad 2 v1) fun v3 =>
 bindP (aLd σ none v3) fun v4 =>
 bindP (aLen false v4) fun v5 => bnd σ v4 →
 bindP (semBin .lss (s2.getD 3 .any) v5) fun v6 =>
 COND v6 (
 bindP (aFad 2 v1) fun v7 =>
 bindP (aLd σ none v7) fun v8 =>
 bindP (aIad 3 v8 (s2.getD 3 .any)) fun v9 =>
 bindP (aFad 0 v9) fun v10 =>
 bindP (aLd σ none v10) fun v11 =>
 CALL Tryz.prog (.fn 11 []) [v11] σ n (kc_ref04_lists1 v1 s2 R K2 v6)) (
 LOOP (lb_ref04_lists5 v1 R) [(.tp []), (.tp []), (s2.getD 2 .any), (.sc (.int .i64 0))] σ n)
attribute [go_sem] kc_ref04_lists1 kc_ref04_lists2 lb_ref04_lists3 lb_ref04_lists4 lb_ref04_lists5 lb_ref04_lists6
noncomputable def sc_ref04_lists : SCode := (Tryz.f29.body.bind (cmpC Tryz.prog Tryz.f29.ntmps [0, 11, 39, 3, 44, 62, 4, 67, 77, 5, 82, 1, 100, 6, 2])).getD .skip
def sh_ref04_lists (a0 : AV) (σ : Hp) (n : Nat) (R : AEnd → Hp → Nat → Prop) : Prop :=
 bindS (hBox n a0) σ n fun v1 σ n =>
 LOOP (lb_ref04_lists6 v1 R) [(.tp []), (.tp []), (.sc (.bool false)), (.sc (.int .i64 0))] σ n
theorem se_ref04_lists (a0 : AV) (σ : Hp) (n : Nat) (R : AEnd → Hp → Nat → Prop) : sh_ref04_lists a0 σ n R = swp Tryz.prog sc_ref04_lists (retQ [(.t 2)] R) (entry [a0]) σ n := by kernel_rfl
theorem by_ref04_lists {a0 : AV} {σ : Hp} {n : Nat} {R : AEnd → Hp → Nat → Prop} (h : sh_ref04_lists a0 σ n R) : ConH Tryz.prog 29 [a0] σ n R := by
  rw [se_ref04_lists] at h
  exact conH_of [(.t 2)] (fn := Tryz.f29) rfl [0, 11, 39, 3, 44, 62, 4, 67, 77, 5, 82, 1, 100, 6, 2] (by kernel_rfl) (by kernel_rfl) (by kernel_rfl) (by kernel_rfl) h
def kc_ref04_exprs1 (R : AEnd → Hp → Nat → Prop) (s1 : List AV) (K1 : List AV → Hp → Nat → Prop) (v3 : AV) (r : AEnd) (σ : Hp) (n : Nat) : Prop :=
 onEnd r (fun v6 =>
 bindP (semBin .neq v6 (.sc (.int .i64 0))) fun v8 =>
 COND v8 (
 R (.ret v6) σ n) (
 bindP (semBin .add (s1.getD 4 .any) (.sc (.int .i64 1))) fun v9 =>
 K1 [v3, v6, v8, (s1.getD 3 .any), v9] σ n)) (fun v7 => R (.pan v7) σ n)
def lb_ref04_exprs2 (a0 : AV) (R : AEnd → Hp → Nat → Prop) (K1 : List AV → Hp → Nat → Prop) (s1 : List AV) (σ : Hp) (n : Nat) : Prop :=
 bindP (aLen false a0) fun v2 => bnd σ a0 →
 bindP (semBin .lss (s1.getD 4 .any) v2) fun v3 =>
 COND v3 (
 bindP (aIad 7 a0 (s1.getD 4 .any)) fun v4 =>
 bindP (aLd σ (some 7) v4) fun v5 =>
 CALL Tryz.prog (.fn 31 []) [v5] σ n (kc_ref04_exprs1 R s1 K1 v3)) (
 R (.ret (.sc (.int .i64 0))) σ n)
attribute [go_sem] kc_ref04_exprs1 lb_ref04_exprs2
noncomputable def sc_ref04_exprs : SCode := (Tryz.f30.body.bind (cmpC Tryz.prog Tryz.f30.ntmps [8, 0, 17, 4, 3, 2])).getD .skip
def sh_ref04_exprs (a0 : AV) (σ : Hp) (n : Nat) (R : AEnd → Hp → Nat → Prop) : Prop :=
 LOOP (lb_ref04_exprs2 a0 R) [(.tp []), (.tp []), (.tp []), (.sc (.int .i64 0)), (.sc (.int .i64 0))] σ n
theorem se_ref04_exprs (a0 : AV) (σ : Hp) (n : Nat) (R : AEnd → Hp → Nat → Prop) : sh_ref04_exprs a0 σ n R = swp Tryz.prog sc_ref04_exprs (retQ [(.t 2)] R) (entry [a0]) σ n := by kernel_rfl
theorem by_ref04_exprs {a0 : AV} {σ : Hp} {n : Nat} {R : AEnd → Hp → Nat → Prop} (h : sh_ref04_exprs a0 σ n R) : ConH Tryz.prog 30 [a0] σ n R := by
  rw [se_ref04_exprs] at h
  exact conH_of [(.t 2)] (fn := Tryz.f30) rfl [8, 0, 17, 4, 3, 2] (by kernel_rfl) (by kernel_rfl) (by kernel_rfl) (by kernel_rfl) h
def kc_syntax_named1 (R : AEnd → Hp → Nat → Prop) (r : AEnd) (σ : Hp) (n : Nat) : Prop :=
 onEnd r (fun v1 =>
 R (.ret v1) σ n) (fun v2 => R (.pan v2) σ n)
attribute [go_sem] kc_syntax_named1
noncomputable def sc_syntax_named : SCode := (Tryz.f50.body.bind (cmpC Tryz.prog Tryz.f50.ntmps [1, 5, 0, 4])).getD .skip
def sh_syntax_named (a0 a1 : AV) (σ : Hp) (n : Nat) (R : AEnd → Hp → Nat → Prop) : Prop :=
 COND a1 (
 CALL Tryz.prog (.fn 10 []) [a0] σ n (kc_syntax_named1 R)) (
 bindP (semBin .eql a0 (.s [])) fun v3 =>
 R (.ret v3) σ n)
theorem se_syntax_named (a0 a1 : AV) (σ : Hp) (n : Nat) (R : AEnd → Hp → Nat → Prop) : sh_syntax_named a0 a1 σ n R = swp Tryz.prog sc_syntax_named (retQ [(.t 4)] R) (entry [a0, a1]) σ n := by kernel_rfl
theorem by_syntax_named {a0 a1 : AV} {σ : Hp} {n : Nat} {R : AEnd → Hp → Nat → Prop} (h : sh_syntax_named a0 a1 σ n R) : ConH Tryz.prog 50 [a0, a1] σ n R := by
  rw [se_syntax_named] at h
  exact conH_of [(.t 4)] (fn := Tryz.f50) rfl [1, 5, 0, 4] (by kernel_rfl) (by kernel_rfl) (by kernel_rfl) (by kernel_rfl) h
noncomputable def sc_syntax_count : SCode := (Tryz.f51.body.bind (cmpC Tryz.prog Tryz.f51.ntmps [2, 10, 3, 0, 1, 8])).getD .skip
def sh_syntax_count (a0 a1 a2 a3 : AV) (σ : Hp) (n : Nat) (R : AEnd → Hp → Nat → Prop) : Prop :=
 bindP (aUn .not a2) fun v1 =>
 COND v1 (
 bindP (semBin .eql a0 (.sc (.int .i64 0))) fun v2 =>
 R (.ret v2) σ n) (
 bindP (semBin .geq a0 a3) fun v3 =>
 guardP v3 true (some a0) fun v4 =>
 guardP v3 true (some a1) fun v5 =>
 guardP v3 true (semBin .leq v4 v5) fun v6 =>
 bindP (aPick v3 v6 (.sc (.bool false))) fun v7 =>
 R (.ret v7) σ n)
theorem se_syntax_count (a0 a1 a2 a3 : AV) (σ : Hp) (n : Nat) (R : AEnd → Hp → Nat → Prop) : sh_syntax_count a0 a1 a2 a3 σ n R = swp Tryz.prog sc_syntax_count (retQ [(.t 8)] R) (entry [a0, a1, a2, a3]) σ n := by kernel_rfl
theorem by_syntax_count {a0 a1 a2 a3 : AV} {σ : Hp} {n : Nat} {R : AEnd → Hp → Nat → Prop} (h : sh_syntax_count a0 a1 a2 a3 σ n R) : ConH Tryz.prog 51 [a0, a1, a2, a3] σ n R := by
  rw [se_syntax_count] at h
  exact conH_of [(.t 8)] (fn := Tryz.f51) rfl [2, 10, 3, 0, 1, 8] (by kernel_rfl) (by kernel_rfl) (by kernel_rfl) (by kernel_rfl) h
def kc_slices_ContainsFunc_lapi_Column_api_Column1 (R : AEnd → Hp → Nat → Prop) (r : AEnd) (σ : Hp) (n : Nat) : Prop :=
 onEnd r (fun v1 =>
 bindP (semBin .geq v1 (.sc (.int .i64 0))) fun v3 =>
 R (.ret v3) σ n) (fun v2 => R (.pan v2) σ n)
attribute [go_sem] kc_slices_ContainsFunc_lapi_Column_api_Column1
noncomputable def sc_slices_ContainsFunc_lapi_Column_api_Column : SCode := (Tryz.f52.body.bind (cmpC Tryz.prog Tryz.f52.ntmps [0, 1, 4])).getD .skip
def sh_slices_ContainsFunc_lapi_Column_api_Column (a0 a1 : AV) (σ : Hp) (n : Nat) (R : AEnd → Hp → Nat → Prop) : Prop :=
 CALL Tryz.prog (.fn 78 []) [a0, a1] σ n (kc_slices_ContainsFunc_lapi_Column_api_Column1 R)
theorem se_slices_ContainsFunc_lapi_Column_api_Column (a0 a1 : AV) (σ : Hp) (n : Nat) (R : AEnd → Hp → Nat → Prop) : sh_slices_ContainsFunc_lapi_Column_api_Column a0 a1 σ n R = swp Tryz.prog sc_slices_ContainsFunc_lapi_Column_api_Column (retQ [(.t 4)] R) (entry [a0, a1]) σ n := by kernel_rfl
theorem by_slices_ContainsFunc_lapi_Column_api_Column {a0 a1 : AV} {σ : Hp} {n : Nat} {R : AEnd → Hp → Nat → Prop} (h : sh_slices_ContainsFunc_lapi_Column_api_Column a0 a1 σ n R) : ConH Tryz.prog 52 [a0, a1] σ n R := by
  rw [se_slices_ContainsFunc_lapi_Column_api_Column] at h
  exact conH_of [(.t 4)] (fn := Tryz.f52) rfl [0, 1, 4] (by kernel_rfl) (by kernel_rfl) (by kernel_rfl) (by kernel_rfl) h
def kc_syntax_shape_c11 (v1 : AV) (R : AEnd → Hp → Nat → Prop) (r : AEnd) (σ : Hp) (n : Nat) : Prop :=
 onEnd r (fun v4 =>
 bindP (aUn .not v4) fun v6 =>
 guardP v6 false (aFad 1 v1) fun v7 =>
 guardP v6 false (aLd σ none v7) fun v8 =>
 guardP v6 false (semBin .lss v8 (.sc (.int .i64 1))) fun v9 =>
 bindP (aPick v6 (.sc (.bool true)) v9) fun v10 =>
 guardP v10 false (aFad 1 v1) fun v11 =>
 guardP v10 false (aLd σ none v11) fun v12 =>
 guardP v10 false (semBin .gtr v12 (.sc (.int .i64 3))) fun v13 =>
 bindP (aPick v10 (.sc (.bool true)) v13) fun v14 =>
 R (.ret v14) σ n) (fun v5 => R (.pan v5) σ n)
attribute [go_sem] kc_syntax_shape_c11
noncomputable def sc_syntax_shape_c1 : SCode := (Tryz.f53.body.bind (cmpC Tryz.prog Tryz.f53.ntmps [0, 1, 2])).getD .skip
def sh_syntax_shape_c1 (a0 : AV) (σ : Hp) (n : Nat) (R : AEnd → Hp → Nat → Prop) : Prop :=
 bindS (hBox n a0) σ n fun v1 σ n =>
 bindP (aFad 0 v1) fun v2 =>
 bindP (aLd σ none v2) fun v3 =>
 CALL Tryz.prog (.fn 10 []) [v3] σ n (kc_syntax_shape_c11 v1 R)
theorem se_syntax_shape_c1 (a0 : AV) (σ : Hp) (n : Nat) (R : AEnd → Hp → Nat → Prop) : sh_syntax_shape_c1 a0 σ n R = swp Tryz.prog sc_syntax_shape_c1 (retQ [(.t 2)] R) (entry [a0]) σ n := by kernel_rfl
theorem by_syntax_shape_c1 {a0 : AV} {σ : Hp} {n : Nat} {R : AEnd → Hp → Nat → Prop} (h : sh_syntax_shape_c1 a0 σ n R) : ConH Tryz.prog 53 [a0] σ n R := by
  rw [se_syntax_shape_c1] at h
  exact conH_of [(.t 2)] (fn := Tryz.f53) rfl [0, 1, 2] (by kernel_rfl) (by kernel_rfl) (by kernel_rfl) (by kernel_rfl) h
def kc_slices_ContainsFunc_llapi_Expr_lapi_Expr1 (R : AEnd → Hp → Nat → Prop) (r : AEnd) (σ : Hp) (n : Nat) : Prop :=
 onEnd r (fun v1 =>
 bindP (semBin .geq v1 (.sc (.int .i64 0))) fun v3 =>
 R (.ret v3) σ n) (fun v2 => R (.pan v2) σ n)
attribute [go_sem] kc_slices_ContainsFunc_llapi_Expr_lapi_Expr1
noncomputable def sc_slices_ContainsFunc_llapi_Expr_lapi_Expr : SCode := (Tryz.f54.body.bind (cmpC Tryz.prog Tryz.f54.ntmps [0, 1, 4])).getD .skip
def sh_slices_ContainsFunc_llapi_Expr_lapi_Expr (a0 a1 : AV) (σ : Hp) (n : Nat) (R : AEnd → Hp → Nat → Prop) : Prop :=
 CALL Tryz.prog (.fn 79 []) [a0, a1] σ n (kc_slices_ContainsFunc_llapi_Expr_lapi_Expr1 R)
theorem se_slices_ContainsFunc_llapi_Expr_lapi_Expr (a0 a1 : AV) (σ : Hp) (n : Nat) (R : AEnd → Hp → Nat → Prop) : sh_slices_ContainsFunc_llapi_Expr_lapi_Expr a0 a1 σ n R = swp Tryz.prog sc_slices_ContainsFunc_llapi_Expr_lapi_Expr (retQ [(.t 4)] R) (entry [a0, a1]) σ n := by kernel_rfl
theorem by_slices_ContainsFunc_llapi_Expr_lapi_Expr {a0 a1 : AV} {σ : Hp} {n : Nat} {R : AEnd → Hp → Nat → Prop} (h : sh_slices_ContainsFunc_llapi_Expr_lapi_Expr a0 a1 σ n R) : ConH Tryz.prog 54 [a0, a1] σ n R := by
  rw [se_slices_ContainsFunc_llapi_Expr_lapi_Expr] at h
  exact conH_of [(.t 4)] (fn := Tryz.f54) rfl [0, 1, 4] (by kernel_rfl) (by kernel_rfl) (by kernel_rfl) (by kernel_rfl) h
noncomputable def sc_syntax_shape_c2 : SCode := (Tryz.f55.body.bind (cmpC Tryz.prog Tryz.f55.ntmps [0, 2])).getD .skip
def sh_syntax_shape_c2 (a0 : AV) (σ : Hp) (n : Nat) (R : AEnd → Hp → Nat → Prop) : Prop :=
 bindP (aLen false a0) fun v1 => bnd σ a0 →
 bindP (semBin .lss v1 (.sc (.int .i64 1))) fun v2 =>
 guardP v2 false (some a0) fun v3 =>
 guardP v2 false (aLen false v3) fun v4 =>
 guardP v2 false (semBin .gtr v4 (.sc (.int .i64 8))) fun v5 =>
 bindP (aPick v2 (.sc (.bool true)) v5) fun v6 =>
 R (.ret v6) σ n
theorem se_syntax_shape_c2 (a0 : AV) (σ : Hp) (n : Nat) (R : AEnd → Hp → Nat → Prop) : sh_syntax_shape_c2 a0 σ n R = swp Tryz.prog sc_syntax_shape_c2 (retQ [(.t 2)] R) (entry [a0]) σ n := by kernel_rfl
theorem by_syntax_shape_c2 {a0 : AV} {σ : Hp} {n : Nat} {R : AEnd → Hp → Nat → Prop} (h : sh_syntax_shape_c2 a0 σ n R) : ConH Tryz.prog 55 [a0] σ n R := by
  rw [se_syntax_shape_c2] at h
  exact conH_of [(.t 2)] (fn := Tryz.f55) rfl [0, 2] (by kernel_rfl) (by kernel_rfl) (by kernel_rfl) (by kernel_rfl) h
def kc_slices_ContainsFunc_lapi_Set_api_Set1 (R : AEnd → Hp → Nat → Prop) (r : AEnd) (σ : Hp) (n : Nat) : Prop :=
 onEnd r (fun v1 =>
 bindP (semBin .geq v1 (.sc (.int .i64 0))) fun v3 =>
 R (.ret v3) σ n) (fun v2 => R (.pan v2) σ n)
attribute [go_sem] kc_slices_ContainsFunc_lapi_Set_api_Set1
noncomputable def sc_slices_ContainsFunc_lapi_Set_api_Set : SCode := (Tryz.f56.body.bind (cmpC Tryz.prog Tryz.f56.ntmps [0, 1, 4])).getD .skip
def sh_slices_ContainsFunc_lapi_Set_api_Set (a0 a1 : AV) (σ : Hp) (n : Nat) (R : AEnd → Hp → Nat → Prop) : Prop :=
 CALL Tryz.prog (.fn 80 []) [a0, a1] σ n (kc_slices_ContainsFunc_lapi_Set_api_Set1 R)
theorem se_slices_ContainsFunc_lapi_Set_api_Set (a0 a1 : AV) (σ : Hp) (n : Nat) (R : AEnd → Hp → Nat → Prop) : sh_slices_ContainsFunc_lapi_Set_api_Set a0 a1 σ n R = swp Tryz.prog sc_slices_ContainsFunc_lapi_Set_api_Set (retQ [(.t 4)] R) (entry [a0, a1]) σ n := by kernel_rfl
theorem by_slices_ContainsFunc_lapi_Set_api_Set {a0 a1 : AV} {σ : Hp} {n : Nat} {R : AEnd → Hp → Nat → Prop} (h : sh_slices_ContainsFunc_lapi_Set_api_Set a0 a1 σ n R) : ConH Tryz.prog 56 [a0, a1] σ n R := by
  rw [se_slices_ContainsFunc_lapi_Set_api_Set] at h
  exact conH_of [(.t 4)] (fn := Tryz.f56) rfl [0, 1, 4] (by kernel_rfl) (by kernel_rfl) (by kernel_rfl) (by kernel_rfl) h
def kc_syntax_shape_c31 (R : AEnd → Hp → Nat → Prop) (r : AEnd) (σ : Hp) (n : Nat) : Prop :=
 onEnd r (fun v4 =>
 bindP (aUn .not v4) fun v6 =>
 R (.ret v6) σ n) (fun v5 => R (.pan v5) σ n)
attribute [go_sem] kc_syntax_shape_c31
noncomputable def sc_syntax_shape_c3 : SCode := (Tryz.f57.body.bind (cmpC Tryz.prog Tryz.f57.ntmps [0, 1, 2])).getD .skip
def sh_syntax_shape_c3 (a0 : AV) (σ : Hp) (n : Nat) (R : AEnd → Hp → Nat → Prop) : Prop :=
 bindS (hBox n a0) σ n fun v1 σ n =>
 bindP (aFad 0 v1) fun v2 =>
 bindP (aLd σ none v2) fun v3 =>
 CALL Tryz.prog (.fn 10 []) [v3] σ n (kc_syntax_shape_c31 R)
theorem se_syntax_shape_c3 (a0 : AV) (σ : Hp) (n : Nat) (R : AEnd → Hp → Nat → Prop) : sh_syntax_shape_c3 a0 σ n R = swp Tryz.prog sc_syntax_shape_c3 (retQ [(.t 2)] R) (entry [a0]) σ n := by kernel_rfl
theorem by_syntax_shape_c3 {a0 : AV} {σ : Hp} {n : Nat} {R : AEnd → Hp → Nat → Prop} (h : sh_syntax_shape_c3 a0 σ n R) : ConH Tryz.prog 57 [a0] σ n R := by
  rw [se_syntax_shape_c3] at h
  exact conH_of [(.t 2)] (fn := Tryz.f57) rfl [0, 1, 2] (by kernel_rfl) (by kernel_rfl) (by kernel_rfl) (by kernel_rfl) h
def kc_slices_ContainsFunc_lapi_Order_api_Order1 (R : AEnd → Hp → Nat → Prop) (r : AEnd) (σ : Hp) (n : Nat) : Prop :=
 onEnd r (fun v1 =>
 bindP (semBin .geq v1 (.sc (.int .i64 0))) fun v3 =>
 R (.ret v3) σ n) (fun v2 => R (.pan v2) σ n)
attribute [go_sem] kc_slices_ContainsFunc_lapi_Order_api_Order1
noncomputable def sc_slices_ContainsFunc_lapi_Order_api_Order : SCode := (Tryz.f58.body.bind (cmpC Tryz.prog Tryz.f58.ntmps [0, 1, 4])).getD .skip
def sh_slices_ContainsFunc_lapi_Order_api_Order (a0 a1 : AV) (σ : Hp) (n : Nat) (R : AEnd → Hp → Nat → Prop) : Prop :=
 CALL Tryz.prog (.fn 81 []) [a0, a1] σ n (kc_slices_ContainsFunc_lapi_Order_api_Order1 R)
theorem se_slices_ContainsFunc_lapi_Order_api_Order (a0 a1 : AV) (σ : Hp) (n : Nat) (R : AEnd → Hp → Nat → Prop) : sh_slices_ContainsFunc_lapi_Order_api_Order a0 a1 σ n R = swp Tryz.prog sc_slices_ContainsFunc_lapi_Order_api_Order (retQ [(.t 4)] R) (entry [a0, a1]) σ n := by kernel_rfl
theorem by_slices_ContainsFunc_lapi_Order_api_Order {a0 a1 : AV} {σ : Hp} {n : Nat} {R : AEnd → Hp → Nat → Prop} (h : sh_slices_ContainsFunc_lapi_Order_api_Order a0 a1 σ n R) : ConH Tryz.prog 58 [a0, a1] σ n R := by
  rw [se_slices_ContainsFunc_lapi_Order_api_Order] at h
  exact conH_of [(.t 4)] (fn := Tryz.f58) rfl [0, 1, 4] (by kernel_rfl) (by kernel_rfl) (by kernel_rfl) (by kernel_rfl) h
noncomputable def sc_syntax_shape_c4 : SCode := (Tryz.f59.body.bind (cmpC Tryz.prog Tryz.f59.ntmps [0, 1, 2])).getD .skip
def sh_syntax_shape_c4 (a0 : AV) (σ : Hp) (n : Nat) (R : AEnd → Hp → Nat → Prop) : Prop :=
 bindS (hBox n a0) σ n fun v1 σ n =>
 bindP (aFad 0 v1) fun v2 =>
 bindP (aLd σ none v2) fun v3 =>
 bindP (semBin .lss v3 (.sc (.int .i64 1))) fun v4 =>
 guardP v4 false (aFad 0 v1) fun v5 =>
 guardP v4 false (aLd σ none v5) fun v6 =>
 guardP v4 false (semBin .gtr v6 (.sc (.int .i64 16))) fun v7 =>
 bindP (aPick v4 (.sc (.bool true)) v7) fun v8 =>
 R (.ret v8) σ n
theorem se_syntax_shape_c4 (a0 : AV) (σ : Hp) (n : Nat) (R : AEnd → Hp → Nat → Prop) : sh_syntax_shape_c4 a0 σ n R = swp Tryz.prog sc_syntax_shape_c4 (retQ [(.t 2)] R) (entry [a0]) σ n := by kernel_rfl
theorem by_syntax_shape_c4 {a0 : AV} {σ : Hp} {n : Nat} {R : AEnd → Hp → Nat → Prop} (h : sh_syntax_shape_c4 a0 σ n R) : ConH Tryz.prog 59 [a0] σ n R := by
  rw [se_syntax_shape_c4] at h
  exact conH_of [(.t 2)] (fn := Tryz.f59) rfl [0, 1, 2] (by kernel_rfl) (by kernel_rfl) (by kernel_rfl) (by kernel_rfl) h
noncomputable def sc_slices_Clone_llapi_Expr_lapi_Expr : SCode := (Tryz.f60.body.bind (cmpC Tryz.prog Tryz.f60.ntmps [4, 0, 2])).getD .skip
def sh_slices_Clone_llapi_Expr_lapi_Expr (a0 : AV) (σ : Hp) (n : Nat) (R : AEnd → Hp → Nat → Prop) : Prop :=
 bindP (aEqn false a0) fun v1 =>
 COND v1 (
 R (.ret .em) σ n) (
 bindS (hBsl σ n 1 [(.slice none 0 0)] 0 []) σ n fun v2 σ n =>
 bindS (hApp σ n 1 24 v2 a0) σ n fun v3 σ n =>
 R (.ret v3) σ n)
theorem se_slices_Clone_llapi_Expr_lapi_Expr (a0 : AV) (σ : Hp) (n : Nat) (R : AEnd → Hp → Nat → Prop) : sh_slices_Clone_llapi_Expr_lapi_Expr a0 σ n R = swp Tryz.prog sc_slices_Clone_llapi_Expr_lapi_Expr (retQ [(.t 2)] R) (entry [a0]) σ n := by kernel_rfl
theorem by_slices_Clone_llapi_Expr_lapi_Expr {a0 : AV} {σ : Hp} {n : Nat} {R : AEnd → Hp → Nat → Prop} (h : sh_slices_Clone_llapi_Expr_lapi_Expr a0 σ n R) : ConH Tryz.prog 60 [a0] σ n R := by
  rw [se_slices_Clone_llapi_Expr_lapi_Expr] at h
  exact conH_of [(.t 2)] (fn := Tryz.f60) rfl [4, 0, 2] (by kernel_rfl) (by kernel_rfl) (by kernel_rfl) (by kernel_rfl) h
noncomputable def sc_ref04_bounds : SCode := (Tryz.f64.body.bind (cmpC Tryz.prog Tryz.f64.ntmps [0, 4, 7, 10, 13, 3, 16, 2])).getD .skip
def sh_ref04_bounds (a0 : AV) (σ : Hp) (n : Nat) (R : AEnd → Hp → Nat → Prop) : Prop :=
 bindP (semBin .eql a0 (.sc (.int .i64 1))) fun v1 =>
 COND v1 (
 bindS (hBsl σ n 1 [(.int .i64 0)] 16 [(0, (.sc (.int .i64 1))), (1, (.sc (.int .i64 8))), (2, (.sc (.int .i64 0))), (3, (.sc (.int .i64 0))), (4, (.sc (.int .i64 0))), (5, (.sc (.int .i64 0))), (6, (.sc (.int .i64 0))), (7, (.sc (.int .i64 0))), (8, (.sc (.int .i64 0))), (9, (.sc (.int .i64 0))), (10, (.sc (.int .i64 0))), (11, (.sc (.int .i64 0))), (12, (.sc (.int .i64 0))), (13, (.sc (.int .i64 0))), (14, (.sc (.int .i64 0))), (15, (.sc (.int .i64 0)))]) σ n fun v2 σ n =>
 R (.ret v2) σ n) (
 bindP (semBin .eql a0 (.sc (.int .i64 4))) fun v3 =>
 COND v3 (
 bindS (hBsl σ n 1 [(.int .i64 0)] 16 [(0, (.sc (.int .i64 0))), (1, (.sc (.int .i64 0))), (2, (.sc (.int .i64 1))), (3, (.sc (.int .i64 16))), (4, (.sc (.int .i64 0))), (5, (.sc (.int .i64 0))), (6, (.sc (.int .i64 0))), (7, (.sc (.int .i64 0))), (8, (.sc (.int .i64 0))), (9, (.sc (.int .i64 0))), (10, (.sc (.int .i64 0))), (11, (.sc (.int .i64 0))), (12, (.sc (.int .i64 0))), (13, (.sc (.int .i64 0))), (14, (.sc (.int .i64 0))), (15, (.sc (.int .i64 0)))]) σ n fun v4 σ n =>
 R (.ret v4) σ n) (
 bindP (semBin .eql a0 (.sc (.int .i64 5))) fun v5 =>
 COND v5 (
 bindS (hBsl σ n 1 [(.int .i64 0)] 16 [(0, (.sc (.int .i64 0))), (1, (.sc (.int .i64 0))), (2, (.sc (.int .i64 0))), (3, (.sc (.int .i64 0))), (4, (.sc (.int .i64 1))), (5, (.sc (.int .i64 8))), (6, (.sc (.int .i64 0))), (7, (.sc (.int .i64 0))), (8, (.sc (.int .i64 0))), (9, (.sc (.int .i64 0))), (10, (.sc (.int .i64 0))), (11, (.sc (.int .i64 1))), (12, (.sc (.int .i64 0))), (13, (.sc (.int .i64 0))), (14, (.sc (.int .i64 0))), (15, (.sc (.int .i64 0)))]) σ n fun v6 σ n =>
 R (.ret v6) σ n) (
 bindP (semBin .eql a0 (.sc (.int .i64 6))) fun v7 =>
 COND v7 (
 bindS (hBsl σ n 1 [(.int .i64 0)] 16 [(0, (.sc (.int .i64 0))), (1, (.sc (.int .i64 0))), (2, (.sc (.int .i64 0))), (3, (.sc (.int .i64 0))), (4, (.sc (.int .i64 0))), (5, (.sc (.int .i64 0))), (6, (.sc (.int .i64 0))), (7, (.sc (.int .i64 0))), (8, (.sc (.int .i64 0))), (9, (.sc (.int .i64 0))), (10, (.sc (.int .i64 0))), (11, (.sc (.int .i64 1))), (12, (.sc (.int .i64 0))), (13, (.sc (.int .i64 0))), (14, (.sc (.int .i64 0))), (15, (.sc (.int .i64 0)))]) σ n fun v8 σ n =>
 R (.ret v8) σ n) (
 bindP (semBin .eql a0 (.sc (.int .i64 7))) fun v9 =>
 COND v9 (
 bindS (hBsl σ n 1 [(.int .i64 0)] 16 [(0, (.sc (.int .i64 0))), (1, (.sc (.int .i64 0))), (2, (.sc (.int .i64 0))), (3, (.sc (.int .i64 0))), (4, (.sc (.int .i64 0))), (5, (.sc (.int .i64 0))), (6, (.sc (.int .i64 1))), (7, (.sc (.int .i64 16))), (8, (.sc (.int .i64 0))), (9, (.sc (.int .i64 1))), (10, (.sc (.int .i64 0))), (11, (.sc (.int .i64 1))), (12, (.sc (.int .i64 0))), (13, (.sc (.int .i64 1))), (14, (.sc (.int .i64 0))), (15, (.sc (.int .i64 8)))]) σ n fun v10 σ n =>
 R (.ret v10) σ n) (
 bindS (hBsl σ n 1 [(.int .i64 0)] 16 []) σ n fun v11 σ n =>
 R (.ret v11) σ n)))))
theorem se_ref04_bounds (a0 : AV) (σ : Hp) (n : Nat) (R : AEnd → Hp → Nat → Prop) : sh_ref04_bounds a0 σ n R = swp Tryz.prog sc_ref04_bounds (retQ [(.t 2)] R) (entry [a0]) σ n := by kernel_rfl
theorem by_ref04_bounds {a0 : AV} {σ : Hp} {n : Nat} {R : AEnd → Hp → Nat → Prop} (h : sh_ref04_bounds a0 σ n R) : ConH Tryz.prog 64 [a0] σ n R := by
  rw [se_ref04_bounds] at h
  exact conH_of [(.t 2)] (fn := Tryz.f64) rfl [0, 4, 7, 10, 13, 3, 16, 2] (by kernel_rfl) (by kernel_rfl) (by kernel_rfl) (by kernel_rfl) h
def kc_slices_IndexFunc_llapi_Expr_lapi_Expr1 (R : AEnd → Hp → Nat → Prop) (s2 : List AV) (K2 : List AV → Hp → Nat → Prop) (v3 : AV) (r : AEnd) (σ : Hp) (n : Nat) : Prop :=
 onEnd r (fun v6 =>
 COND v6 (
 R (.ret (s2.getD 4 .any)) σ n) (
 bindP (semBin .add (s2.getD 4 .any) (.sc (.int .i64 1))) fun v8 =>
 K2 [v3, (s2.getD 4 .any), v6, (s2.getD 3 .any), v8] σ n)) (fun v7 => R (.pan v7) σ n)
def lb_slices_IndexFunc_llapi_Expr_lapi_Expr2 (v1 : AV) (a0 : AV) (a1 : AV) (R : AEnd → Hp → Nat → Prop) (K2 : List AV → Hp → Nat → Prop) (s2 : List AV) (σ : Hp) (n : Nat) : Prop :=
 bindP (semBin .lss (s2.getD 4 .any) v1) fun v3 =>
 COND v3 (
 bindP (aIad 1 a0 (s2.getD 4 .any)) fun v4 =>
 bindP (aLd σ none v4) fun v5 =>
 CALL Tryz.prog a1 [v5] σ n (kc_slices_IndexFunc_llapi_Expr_lapi_Expr1 R s2 K2 v3)) (
 R (.ret (.sc (.int .i64 (-1)))) σ n)
attribute [go_sem] kc_slices_IndexFunc_llapi_Expr_lapi_Expr1 lb_slices_IndexFunc_llapi_Expr_lapi_Expr2
noncomputable def sc_slices_IndexFunc_llapi_Expr_lapi_Expr : SCode := (Tryz.f79.body.bind (cmpC Tryz.prog Tryz.f79.ntmps [7, 9, 1, 0, 16, 5, 8, 4])).getD .skip
def sh_slices_IndexFunc_llapi_Expr_lapi_Expr (a0 a1 : AV) (σ : Hp) (n : Nat) (R : AEnd → Hp → Nat → Prop) : Prop :=
 bindP (aLen false a0) fun v1 => bnd σ a0 →
 LOOP (lb_slices_IndexFunc_llapi_Expr_lapi_Expr2 v1 a0 a1 R) [(.tp []), (.tp []), (.tp []), (.sc (.int .i64 0)), (.sc (.int .i64 0))] σ n
theorem se_slices_IndexFunc_llapi_Expr_lapi_Expr (a0 a1 : AV) (σ : Hp) (n : Nat) (R : AEnd → Hp → Nat → Prop) : sh_slices_IndexFunc_llapi_Expr_lapi_Expr a0 a1 σ n R = swp Tryz.prog sc_slices_IndexFunc_llapi_Expr_lapi_Expr (retQ [(.t 4)] R) (entry [a0, a1]) σ n := by kernel_rfl
theorem by_slices_IndexFunc_llapi_Expr_lapi_Expr {a0 a1 : AV} {σ : Hp} {n : Nat} {R : AEnd → Hp → Nat → Prop} (h : sh_slices_IndexFunc_llapi_Expr_lapi_Expr a0 a1 σ n R) : ConH Tryz.prog 79 [a0, a1] σ n R := by
  rw [se_slices_IndexFunc_llapi_Expr_lapi_Expr] at h
  exact conH_of [(.t 4)] (fn := Tryz.f79) rfl [7, 9, 1, 0, 16, 5, 8, 4] (by kernel_rfl) (by kernel_rfl) (by kernel_rfl) (by kernel_rfl) h
def kc_slices_IndexFunc_lapi_Set_api_Set1 (R : AEnd → Hp → Nat → Prop) (s2 : List AV) (K2 : List AV → Hp → Nat → Prop) (v3 : AV) (r : AEnd) (σ : Hp) (n : Nat) : Prop :=
 onEnd r (fun v6 =>
 COND v6 (
 R (.ret (s2.getD 4 .any)) σ n) (
 bindP (semBin .add (s2.getD 4 .any) (.sc (.int .i64 1))) fun v8 =>
 K2 [v3, (s2.getD 4 .any), v6, (s2.getD 3 .any), v8] σ n)) (fun v7 => R (.pan v7) σ n)
def lb_slices_IndexFunc_lapi_Set_api_Set2 (v1 : AV) (a0 : AV) (a1 : AV) (R : AEnd → Hp → Nat → Prop) (K2 : List AV → Hp → Nat → Prop) (s2 : List AV) (σ : Hp) (n : Nat) : Prop :=
 bindP (semBin .lss (s2.getD 4 .any) v1) fun v3 =>
 COND v3 (
 bindP (aIad 8 a0 (s2.getD 4 .any)) fun v4 =>
 bindP (aLd σ (some 8) v4) fun v5 =>
 CALL Tryz.prog a1 [v5] σ n (kc_slices_IndexFunc_lapi_Set_api_Set1 R s2 K2 v3)) (
 R (.ret (.sc (.int .i64 (-1)))) σ n)
attribute [go_sem] kc_slices_IndexFunc_lapi_Set_api_Set1 lb_slices_IndexFunc_lapi_Set_api_Set2
noncomputable def sc_slices_IndexFunc_lapi_Set_api_Set : SCode := (Tryz.f80.body.bind (cmpC Tryz.prog Tryz.f80.ntmps [7, 9, 1, 0, 16, 5, 8, 4])).getD .skip
def sh_slices_IndexFunc_lapi_Set_api_Set (a0 a1 : AV) (σ : Hp) (n : Nat) (R : AEnd → Hp → Nat → Prop) : Prop :=
 bindP (aLen false a0) fun v1 => bnd σ a0 →
 LOOP (lb_slices_IndexFunc_lapi_Set_api_Set2 v1 a0 a1 R) [(.tp []), (.tp []), (.tp []), (.sc (.int .i64 0)), (.sc (.int .i64 0))] σ n
theorem se_slices_IndexFunc_lapi_Set_api_Set (a0 a1 : AV) (σ : Hp) (n : Nat) (R : AEnd → Hp → Nat → Prop) : sh_slices_IndexFunc_lapi_Set_api_Set a0 a1 σ n R = swp Tryz.prog sc_slices_IndexFunc_lapi_Set_api_Set (retQ [(.t 4)] R) (entry [a0, a1]) σ n := by kernel_rfl
theorem by_slices_IndexFunc_lapi_Set_api_Set {a0 a1 : AV} {σ : Hp} {n : Nat} {R : AEnd → Hp → Nat → Prop} (h : sh_slices_IndexFunc_lapi_Set_api_Set a0 a1 σ n R) : ConH Tryz.prog 80 [a0, a1] σ n R := by
  rw [se_slices_IndexFunc_lapi_Set_api_Set] at h
  exact conH_of [(.t 4)] (fn := Tryz.f80) rfl [7, 9, 1, 0, 16, 5, 8, 4] (by kernel_rfl) (by kernel_rfl) (by kernel_rfl) (by kernel_rfl) h
def kc_slices_IndexFunc_lapi_Order_api_Order1 (R : AEnd → Hp → Nat → Prop) (s2 : List AV) (K2 : List AV → Hp → Nat → Prop) (v3 : AV) (r : AEnd) (σ : Hp) (n : Nat) : Prop :=
 onEnd r (fun v6 =>
 COND v6 (
 R (.ret (s2.getD 4 .any)) σ n) (
 bindP (semBin .add (s2.getD 4 .any) (.sc (.int .i64 1))) fun v8 =>
 K2 [v3, (s2.getD 4 .any), v6, (s2.getD 3 .any), v8] σ n)) (fun v7 => R (.pan v7) σ n)
def lb_slices_IndexFunc_lapi_Order_api_Order2 (v1 : AV) (a0 : AV) (a1 : AV) (R : AEnd → Hp → Nat → Prop) (K2 : List AV → Hp → Nat → Prop) (s2 : List AV) (σ : Hp) (n : Nat) : Prop :=
 bindP (semBin .lss (s2.getD 4 .any) v1) fun v3 =>
 COND v3 (
 bindP (aIad 2 a0 (s2.getD 4 .any)) fun v4 =>
 bindP (aLd σ (some 2) v4) fun v5 =>
 CALL Tryz.prog a1 [v5] σ n (kc_slices_IndexFunc_lapi_Order_api_Order1 R s2 K2 v3)) (
 R (.ret (.sc (.int .i64 (-1)))) σ n)
attribute [go_sem] kc_slices_IndexFunc_lapi_Order_api_Order1 lb_slices_IndexFunc_lapi_Order_api_Order2
noncomputable def sc_slices_IndexFunc_lapi_Order_api_Order : SCode := (Tryz.f81.body.bind (cmpC Tryz.prog Tryz.f81.ntmps [7, 9, 1, 0, 16, 5, 8, 4])).getD .skip
def sh_slices_IndexFunc_lapi_Order_api_Order (a0 a1 : AV) (σ : Hp) (n : Nat) (R : AEnd → Hp → Nat → Prop) : Prop :=
 bindP (aLen false a0) fun v1 => bnd σ a0 →
 LOOP (lb_slices_IndexFunc_lapi_Order_api_Order2 v1 a0 a1 R) [(.tp []), (.tp []), (.tp []), (.sc (.int .i64 0)), (.sc (.int .i64 0))] σ n
theorem se_slices_IndexFunc_lapi_Order_api_Order (a0 a1 : AV) (σ : Hp) (n : Nat) (R : AEnd → Hp → Nat → Prop) : sh_slices_IndexFunc_lapi_Order_api_Order a0 a1 σ n R = swp Tryz.prog sc_slices_IndexFunc_lapi_Order_api_Order (retQ [(.t 4)] R) (entry [a0, a1]) σ n := by kernel_rfl
theorem by_slices_IndexFunc_lapi_Order_api_Order {a0 a1 : AV} {σ : Hp} {n : Nat} {R : AEnd → Hp → Nat → Prop} (h : sh_slices_IndexFunc_lapi_Order_api_Order a0 a1 σ n R) : ConH Tryz.prog 81 [a0, a1] σ n R := by
  rw [se_slices_IndexFunc_lapi_Order_api_Order] at h
  exact conH_of [(.t 4)] (fn := Tryz.f81) rfl [7, 9, 1, 0, 16, 5, 8, 4] (by kernel_rfl) (by kernel_rfl) (by kernel_rfl) (by kernel_rfl) h
def kc_syntax_shape1 (Kg : AV → Hp → Nat → Prop) (R : AEnd → Hp → Nat → Prop) (r : AEnd) (σ : Hp) (n : Nat) : Prop :=
 onEnd r (fun v25 =>
 Kg v25 σ n) (fun v26 => R (.pan v26) σ n)
def kc_syntax_shape2 (Kg : AV → Hp → Nat → Prop) (R : AEnd → Hp → Nat → Prop) (r : AEnd) (σ : Hp) (n : Nat) : Prop :=
 onEnd r (fun v33 =>
 Kg v33 σ n) (fun v34 => R (.pan v34) σ n)
def kc_syntax_shape3 (Kg : AV → Hp → Nat → Prop) (R : AEnd → Hp → Nat → Prop) (r : AEnd) (σ : Hp) (n : Nat) : Prop :=
 onEnd r (fun v46 =>
 Kg v46 σ n) (fun v47 => R (.pan v47) σ n)
def kc_syntax_shape4 (Kg : AV → Hp → Nat → Prop) (R : AEnd → Hp → Nat → Prop) (r : AEnd) (σ : Hp) (n : Nat) : Prop :=
 onEnd r (fun v57 =>
 Kg v57 σ n) (fun v58 => R (.pan v58) σ n)
def kc_syntax_shape5 (Kg : AV → Hp → Nat → Prop) (R : AEnd → Hp → Nat → Prop) (r : AEnd) (σ : Hp) (n : Nat) : Prop :=
 onEnd r (fun v66 =>
 Kg v66 σ n) (fun v67 => R (.pan v67) σ n)
def kc_syntax_shape6 (Kg : AV → Hp → Nat → Prop) (R : AEnd → Hp → Nat → Prop) (r : AEnd) (σ : Hp) (n : Nat) : Prop :=
 onEnd r (fun v75 =>
 Kg v75 σ n) (fun v76 => R (.pan v76) σ n)
def kc_syntax_shape7 (Kg : AV → Hp → Nat → Prop) (R : AEnd → Hp → Nat → Prop) (r : AEnd) (σ : Hp) (n : Nat) : Prop :=
 onEnd r (fun v84 =>
 Kg v84 σ n) (fun v85 => R (.pan v85) σ n)
def kc_syntax_shape8 (Kg : AV → Hp → Nat → Prop) (R : AEnd → Hp → Nat → Prop) (r : AEnd) (σ : Hp) (n : Nat) : Prop :=
 onEnd r (fun v94 =>
 Kg v94 σ n) (fun v95 => R (.pan v95) σ n)
def kc_syntax_shape9 (Kg : AV → Hp → Nat → Prop) (R : AEnd → Hp → Nat → Prop) (r : AEnd) (σ : Hp) (n : Nat) : Prop :=
 onEnd r (fun v102 =>
 Kg v102 σ n) (fun v103 => R (.pan v103) σ n)
def kc_syntax_shape10 (Kg : AV → Hp → Nat → Prop) (R : AEnd → Hp → Nat → Prop) (r : AEnd) (σ : Hp) (n : Nat) : Prop :=
 onEnd r (fun v111 =>
 Kg v111 σ n) (fun v112 => R (.pan v112) σ n)
def kc_syntax_shape11 (Kg : AV → Hp → Nat → Prop) (R : AEnd → Hp → Nat → Prop) (r : AEnd) (σ : Hp) (n : Nat) : Prop :=
 onEnd r (fun v120 =>
 Kg v120 σ n) (fun v121 => R (.pan v121) σ n)
def kc_syntax_shape12 (Kg : AV → Hp → Nat → Prop) (R : AEnd → Hp → Nat → Prop) (r : AEnd) (σ : Hp) (n : Nat) : Prop :=
 onEnd r (fun v127 =>
 Kg v127 σ n) (fun v128 => R (.pan v128) σ n)
def kc_syntax_shape13 (Kg : AV → Hp → Nat → Prop) (R : AEnd → Hp → Nat → Prop) (r : AEnd) (σ : Hp) (n : Nat) : Prop :=
 onEnd r (fun v134 =>
 Kg v134 σ n) (fun v135 => R (.pan v135) σ n)
def kc_syntax_shape14 (Kg : AV → Hp → Nat → Prop) (R : AEnd → Hp → Nat → Prop) (r : AEnd) (σ : Hp) (n : Nat) : Prop :=
 onEnd r (fun v141 =>
 Kg v141 σ n) (fun v142 => R (.pan v142) σ n)
def kc_syntax_shape15 (Kg : AV → Hp → Nat → Prop) (R : AEnd → Hp → Nat → Prop) (r : AEnd) (σ : Hp) (n : Nat) : Prop :=
 onEnd r (fun v148 =>
 Kg v148 σ n) (fun v149 => R (.pan v149) σ n)
def jk_syntax_shape16 (v1 : AV) (R : AEnd → Hp → Nat → Prop) (s123 : List AV) (σ : Hp) (n : Nat) : Prop :=
 guardP (s123.getD 1 .any) true (aFad 2 v1) fun v124 =>
 guardP (s123.getD 1 .any) true (aLd σ none v124) fun v125 =>
 guardK (s123.getD 1 .any) true (fun Kg => CALL Tryz.prog (.fn 52 []) [v125, (.fn 53 [])] σ n (kc_syntax_shape12 Kg R)) σ n fun v126 σ n =>
 guardP (s123.getD 1 .any) true (aUn .not v126) fun v129 =>
 bindP (aPick (s123.getD 1 .any) v129 (.sc (.bool false))) fun v130 =>
 guardP v130 true (aFad 5 v1) fun v131 =>
 guardP v130 true (aLd σ none v131) fun v132 =>
 guardK v130 true (fun Kg => CALL Tryz.prog (.fn 54 []) [v132, (.fn 55 [])] σ n (kc_syntax_shape13 Kg R)) σ n fun v133 σ n =>
 guardP v130 true (aUn .not v133) fun v136 =>
 bindP (aPick v130 v136 (.sc (.bool false))) fun v137 =>
 guardP v137 true (aFad 6 v1) fun v138 =>
 guardP v137 true (aLd σ none v138) fun v139 =>
 guardK v137 true (fun Kg => CALL Tryz.prog (.fn 56 []) [v139, (.fn 57 [])] σ n (kc_syntax_shape14 Kg R)) σ n fun v140 σ n =>
 guardP v137 true (aUn .not v140) fun v143 =>
 bindP (aPick v137 v143 (.sc (.bool false))) fun v144 =>
 guardP v144 true (aFad 12 v1) fun v145 =>
 guardP v144 true (aLd σ none v145) fun v146 =>
 guardK v144 true (fun Kg => CALL Tryz.prog (.fn 58 []) [v146, (.fn 59 [])] σ n (kc_syntax_shape15 Kg R)) σ n fun v147 σ n =>
 guardP v144 true (aUn .not v147) fun v150 =>
 bindP (aPick v144 v150 (.sc (.bool false))) fun v151 =>
 R (.ret v151) σ n
def kc_syntax_shape17 (v1 : AV) (v3 : AV) (R : AEnd → Hp → Nat → Prop) (v10 : AV) (r : AEnd) (σ : Hp) (n : Nat) : Prop :=
 onEnd r (fun v14 =>
 guardP v14 true (aFad 3 v1) fun v16 =>
 guardP v14 true (aLd σ none v16) fun v17 =>
 guardP v14 true (some v3) fun v18 =>
 guardP v14 true (semBin .eql v18 (.sc (.int .i64 1))) fun v19 =>
 guardP v14 true (some v19) fun v20 =>
 guardP v20 false (some v3) fun v21 =>
 guardP v20 false (semBin .eql v21 (.sc (.int .i64 2))) fun v22 =>
 guardP v14 true (aPick v20 (.sc (.bool true)) v22) fun v23 =>
 guardK v14 true (fun Kg => CALL Tryz.prog (.fn 50 []) [v17, v23] σ n (kc_syntax_shape1 Kg R)) σ n fun v24 σ n =>
 bindP (aPick v14 v24 (.sc (.bool false))) fun v27 =>
 guardP v27 true (aFad 4 v1) fun v28 =>
 guardP v27 true (aLd σ none v28) fun v29 =>
 guardP v27 true (some v3) fun v30 =>
 guardP v27 true (semBin .eql v30 (.sc (.int .i64 2))) fun v31 =>
 guardK v27 true (fun Kg => CALL Tryz.prog (.fn 50 []) [v29, v31] σ n (kc_syntax_shape2 Kg R)) σ n fun v32 σ n =>
 bindP (aPick v27 v32 (.sc (.bool false))) fun v35 =>
 guardP v35 true (aFad 8 v1) fun v36 =>
 guardP v35 true (aLd σ none v36) fun v37 =>
 guardP v35 true (semBin .eql v37 (.s [])) fun v38 =>
 guardP v35 true (some v38) fun v39 =>
 guardP v39 false (some v3) fun v40 =>
 guardP v39 false (semBin .eql v40 (.sc (.int .i64 7))) fun v41 =>
 guardP v39 false (some v41) fun v42 =>
 guardP v42 true (aFad 8 v1) fun v43 =>
 guardP v42 true (aLd σ none v43) fun v44 =>
 guardK v42 true (fun Kg => CALL Tryz.prog (.fn 10 []) [v44] σ n (kc_syntax_shape3 Kg R)) σ n fun v45 σ n =>
 guardP v39 false (aPick v42 v45 (.sc (.bool false))) fun v48 =>
 guardP v35 true (aPick v39 (.sc (.bool true)) v48) fun v49 =>
 bindP (aPick v35 v49 (.sc (.bool false))) fun v50 =>
 guardP v50 true (aFad 2 v1) fun v51 =>
 guardP v50 true (aLd σ none v51) fun v52 =>
 guardP v50 true (aLen false v52) fun v53 =>
 guardP v50 true (some v3) fun v54 =>
 guardP v50 true (semBin .eql v54 (.sc (.int .i64 1))) fun v55 =>
 guardK v50 true (fun Kg => CALL Tryz.prog (.fn 51 []) [v53, (.sc (.int .i64 8)), v55, (.sc (.int .i64 1))] σ n (kc_syntax_shape4 Kg R)) σ n fun v56 σ n =>
 bindP (aPick v50 v56 (.sc (.bool false))) fun v59 =>
 guardP v59 true (aFad 5 v1) fun v60 =>
 guardP v59 true (aLd σ none v60) fun v61 =>
 guardP v59 true (aLen false v61) fun v62 =>
 guardP v59 true (some v3) fun v63 =>
 guardP v59 true (semBin .eql v63 (.sc (.int .i64 4))) fun v64 =>
 guardK v59 true (fun Kg => CALL Tryz.prog (.fn 51 []) [v62, (.sc (.int .i64 16)), v64, (.sc (.int .i64 1))] σ n (kc_syntax_shape5 Kg R)) σ n fun v65 σ n =>
 bindP (aPick v59 v65 (.sc (.bool false))) fun v68 =>
 guardP v68 true (aFad 6 v1) fun v69 =>
 guardP v68 true (aLd σ none v69) fun v70 =>
 guardP v68 true (aLen false v70) fun v71 =>
 guardP v68 true (some v3) fun v72 =>
 guardP v68 true (semBin .eql v72 (.sc (.int .i64 5))) fun v73 =>
 guardK v68 true (fun Kg => CALL Tryz.prog (.fn 51 []) [v71, (.sc (.int .i64 8)), v73, (.sc (.int .i64 1))] σ n (kc_syntax_shape6 Kg R)) σ n fun v74 σ n =>
 bindP (aPick v68 v74 (.sc (.bool false))) fun v77 =>
 guardP v77 true (aFad 7 v1) fun v78 =>
 guardP v77 true (aLd σ none v78) fun v79 =>
 guardP v77 true (aLen false v79) fun v80 =>
 guardP v77 true (some v3) fun v81 =>
 guardP v77 true (semBin .eql v81 (.sc (.int .i64 7))) fun v82 =>
 guardK v77 true (fun Kg => CALL Tryz.prog (.fn 51 []) [v80, (.sc (.int .i64 16)), v82, (.sc (.int .i64 1))] σ n (kc_syntax_shape7 Kg R)) σ n fun v83 σ n =>
 bindP (aPick v77 v83 (.sc (.bool false))) fun v86 =>
 guardP v86 true (aFad 9 v1) fun v87 =>
 guardP v86 true (aLd σ none v87) fun v88 =>
 guardP v86 true (aLen false v88) fun v89 =>
 guardP v86 true (aFad 8 v1) fun v90 =>
 guardP v86 true (aLd σ none v90) fun v91 =>
 guardP v86 true (semBin .neq v91 (.s [])) fun v92 =>
 guardK v86 true (fun Kg => CALL Tryz.prog (.fn 51 []) [v89, (.sc (.int .i64 1)), v92, (.sc (.int .i64 1))] σ n (kc_syntax_shape8 Kg R)) σ n fun v93 σ n =>
 bindP (aPick v86 v93 (.sc (.bool false))) fun v96 =>
 guardP v96 true (aFad 10 v1) fun v97 =>
 guardP v96 true (aLd σ none v97) fun v98 =>
 guardP v96 true (aLen false v98) fun v99 =>
 guardP v96 true (some v10) fun v100 =>
 guardK v96 true (fun Kg => CALL Tryz.prog (.fn 51 []) [v99, (.sc (.int .i64 1)), v100, (.sc (.int .i64 0))] σ n (kc_syntax_shape9 Kg R)) σ n fun v101 σ n =>
 bindP (aPick v96 v101 (.sc (.bool false))) fun v104 =>
 guardP v104 true (aFad 11 v1) fun v105 =>
 guardP v104 true (aLd σ none v105) fun v106 =>
 guardP v104 true (aLen false v106) fun v107 =>
 guardP v104 true (some v3) fun v108 =>
 guardP v104 true (semBin .eql v108 (.sc (.int .i64 7))) fun v109 =>
 guardK v104 true (fun Kg => CALL Tryz.prog (.fn 51 []) [v107, (.sc (.int .i64 1)), v109, (.sc (.int .i64 0))] σ n (kc_syntax_shape10 Kg R)) σ n fun v110 σ n =>
 bindP (aPick v104 v110 (.sc (.bool false))) fun v113 =>
 guardP v113 true (aFad 12 v1) fun v114 =>
 guardP v113 true (aLd σ none v114) fun v115 =>
 guardP v113 true (aLen false v115) fun v116 =>
 guardP v113 true (some v3) fun v117 =>
 guardP v113 true (semBin .eql v117 (.sc (.int .i64 7))) fun v118 =>
 guardK v113 true (fun Kg => CALL Tryz.prog (.fn 51 []) [v116, (.sc (.int .i64 8)), v118, (.sc (.int .i64 0))] σ n (kc_syntax_shape11 Kg R)) σ n fun v119 σ n =>
 bindP (aPick v113 v119 (.sc (.bool false))) fun v122 =>
 JOIN (jk_syntax_shape16 v1 R) fun K123 =>
 bindP (semBin .eql v3 (.sc (.int .i64 7))) fun v152 =>
 COND v152 (
 guardP v122 true (aFad 13 v1) fun v153 =>
 guardP v122 true (aLd σ none v153) fun v154 =>
 guardP v122 true (semBin .geq v154 (.sc (.int .i64 (-1)))) fun v155 =>
 bindP (aPick v122 v155 (.sc (.bool false))) fun v156 =>
 guardP v156 true (aFad 13 v1) fun v157 =>
 guardP v156 true (aLd σ none v157) fun v158 =>
 guardP v156 true (semBin .leq v158 (.sc (.int .i64 2147483648))) fun v159 =>
 bindP (aPick v156 v159 (.sc (.bool false))) fun v160 =>
 K123 [v152, v160] σ n) (
 guardP v122 true (aFad 13 v1) fun v161 =>
 guardP v122 true (aLd σ none v161) fun v162 =>
 guardP v122 true (semBin .eql v162 (.sc (.int .i64 0))) fun v163 =>
 bindP (aPick v122 v163 (.sc (.bool false))) fun v164 =>
 K123 [v152, v164] σ n)) (fun v15 => R (.pan v15) σ n)
attribute [go_sem] kc_syntax_shape1 kc_syntax_shape2 kc_syntax_shape3 kc_syntax_shape4 kc_syntax_shape5 kc_syntax_shape6 kc_syntax_shape7 kc_syntax_shape8 kc_syntax_shape9 kc_syntax_shape10 kc_syntax_shape11 kc_syntax_shape12 kc_syntax_shape13 kc_syntax_shape14 kc_syntax_shape15 jk_syntax_shape16 kc_syntax_shape17
noncomputable def sc_syntax_shape : SCode := (Tryz.f23.body.bind (cmpC Tryz.prog Tryz.f23.ntmps [0, 4, 3, 122, 5, 1, 2])).getD .skip
def sh_syntax_shape (a0 : AV) (σ : Hp) (n : Nat) (R : AEnd → Hp → Nat → Prop) : Prop :=
 bindS (hBox n a0) σ n fun v1 σ n =>
 bindP (aFad 0 v1) fun v2 =>
 bindP (aLd σ none v2) fun v3 =>
 bindP (semBin .eql v3 (.sc (.int .i64 5))) fun v4 =>
 guardP v4 false (some v3) fun v5 =>
 guardP v4 false (semBin .eql v5 (.sc (.int .i64 6))) fun v6 =>
 bindP (aPick v4 (.sc (.bool true)) v6) fun v7 =>
 guardP v7 false (some v3) fun v8 =>
 guardP v7 false (semBin .eql v8 (.sc (.int .i64 7))) fun v9 =>
 bindP (aPick v7 (.sc (.bool true)) v9) fun v10 =>
 bindP (aFad 1 v1) fun v11 =>
 bindP (aLd σ none v11) fun v12 =>
 bindP (semBin .leq v3 (.sc (.int .i64 7))) fun v13 =>
 CALL Tryz.prog (.fn 50 []) [v12, v13] σ n (kc_syntax_shape17 v1 v3 R v10)
theorem se_syntax_shape (a0 : AV) (σ : Hp) (n : Nat) (R : AEnd → Hp → Nat → Prop) : sh_syntax_shape a0 σ n R = swp Tryz.prog sc_syntax_shape (retQ [(.t 2)] R) (entry [a0]) σ n := by kernel_rfl
theorem by_syntax_shape {a0 : AV} {σ : Hp} {n : Nat} {R : AEnd → Hp → Nat → Prop} (h : sh_syntax_shape a0 σ n R) : ConH Tryz.prog 23 [a0] σ n R := by
  rw [se_syntax_shape] at h
  exact conH_of [(.t 2)] (fn := Tryz.f23) rfl [0, 4, 3, 122, 5, 1, 2] (by kernel_rfl) (by kernel_rfl) (by kernel_rfl) (by kernel_rfl) h
end Go.Proofs.YtodoejfkjimeaaaGreatDoor
