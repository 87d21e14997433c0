/- Packed by a program of this repo: Sh6. -/
import Derived.Test.YtodoejfkjimeaaaGreatDoorKTMs
import Derived.Test.YtodoejfkjimeaaaGreatDoorProg
set_option linter.unusedVariables false
set_option maxRecDepth 8000
namespace Go.Proofs.YtodoejfkjimeaaaGreatDoor
open Go Am
def kd_plain_SameStmt1 (v91 : AV) (v96 : AV) (v94 : AV) (v99 : AV) (n : Nat) (σ : Hp) (R : AEnd → Hp → Nat → Prop) (s86 : List AV) (K86 : List AV → Hp → Nat → Prop) (v90 : AV) (r : AEnd) (w101 : Wr) (d101 : List Nat) : Prop :=
 onEnd r (fun v101 =>
 bindP (aUn .not v101) fun v103 =>
 Apt (names []) (rdA v91) (names []) (rdA v96) ∧
 Apt (names []) (rdA v94) (names []) (rdA v96) ∧
 Apt (names []) (rdA v91) (names []) (rdA v99) ∧
 Apt (names []) (rdA v94) (names []) (rdA v99) ∧
 ∀ n_, n + 16 * 12 ≤ n_ → (fun n => (fun σ => COND v103 (
 R (.ret (.sc (.bool false))) σ n) (
 bindP (semBin .add (s86.getD 3 .any) (.sc (.int .i64 1))) fun v104 =>
 K86 [v90, v103, (s86.getD 2 .any), v104] σ n)) (applyW σ w101)) n_) (fun v102 => Apt (names []) (rdA v91) (names []) (rdA v96) ∧
 Apt (names []) (rdA v94) (names []) (rdA v96) ∧
 Apt (names []) (rdA v91) (names []) (rdA v99) ∧
 Apt (names []) (rdA v94) (names []) (rdA v99) ∧
 ∀ (fr_ : Regs) σ n, R (.pan v102) σ n)
def kd_plain_SameStmt2 (Kd : AV → Wr → List Nat → Prop) (v110 : AV) (v116 : AV) (v114 : AV) (v120 : AV) (v124 : AV) (v130 : AV) (v128 : AV) (v134 : AV) (σ : Hp) (n : Nat) (R : AEnd → Hp → Nat → Prop) (r : AEnd) (w137 : Wr) (d137 : List Nat) : Prop :=
 onEnd r (fun v137 =>
 Kd v137 w137 d137) (fun v138 => Apt (names []) (rdA v110) (names []) (rdA v116) ∧
 Apt (names []) (rdA v114) (names []) (rdA v116) ∧
 Apt (names []) (rdA v110) (names []) (rdA v120) ∧
 Apt (names []) (rdA v114) (names []) (rdA v120) ∧
 Apt (names []) (rdA v124) (names []) (rdA v130) ∧
 Apt (names []) (rdA v128) (names []) (rdA v130) ∧
 Apt (names []) (rdA v124) (names []) (rdA v134) ∧
 Apt (names []) (rdA v128) (names []) (rdA v134) ∧
 ∀ (fr_ : Regs) σ n, R (.pan v138) σ n)
def kc_plain_SameStmt3 (Kg : AV → Hp → Nat → Prop) (R : AEnd → Hp → Nat → Prop) (r : AEnd) (σ : Hp) (n : Nat) : Prop :=
 onEnd r (fun v170 =>
 Kg v170 σ n) (fun v171 => R (.pan v171) σ n)
def kc_plain_SameStmt4 (Kg : AV → Hp → Nat → Prop) (R : AEnd → Hp → Nat → Prop) (r : AEnd) (σ : Hp) (n : Nat) : Prop :=
 onEnd r (fun v178 =>
 Kg v178 σ n) (fun v179 => R (.pan v179) σ n)
def kc_plain_SameStmt5 (Kg : AV → Hp → Nat → Prop) (R : AEnd → Hp → Nat → Prop) (r : AEnd) (σ : Hp) (n : Nat) : Prop :=
 onEnd r (fun v186 =>
 Kg v186 σ n) (fun v187 => R (.pan v187) σ n)
def kc_plain_SameStmt6 (v1 : AV) (v2 : AV) (R : AEnd → Hp → Nat → Prop) (r : AEnd) (σ : Hp) (n : Nat) : Prop :=
 onEnd r (fun v163 =>
 guardP v163 true (aFad 9 v1) fun v165 =>
 guardP v163 true (aLd σ none v165) fun v166 =>
 guardP v163 true (aFad 9 v2) fun v167 =>
 guardP v163 true (aLd σ none v167) fun v168 =>
 guardK v163 true (fun Kg => CALL Tryz.prog (.fn 36 []) [v166, v168] σ n (kc_plain_SameStmt3 Kg R)) σ n fun v169 σ n =>
 bindP (aPick v163 v169 (.sc (.bool false))) fun v172 =>
 guardP v172 true (aFad 10 v1) fun v173 =>
 guardP v172 true (aLd σ none v173) fun v174 =>
 guardP v172 true (aFad 10 v2) fun v175 =>
 guardP v172 true (aLd σ none v175) fun v176 =>
 guardK v172 true (fun Kg => CALL Tryz.prog (.fn 36 []) [v174, v176] σ n (kc_plain_SameStmt4 Kg R)) σ n fun v177 σ n =>
 bindP (aPick v172 v177 (.sc (.bool false))) fun v180 =>
 guardP v180 true (aFad 11 v1) fun v181 =>
 guardP v180 true (aLd σ none v181) fun v182 =>
 guardP v180 true (aFad 11 v2) fun v183 =>
 guardP v180 true (aLd σ none v183) fun v184 =>
 guardK v180 true (fun Kg => CALL Tryz.prog (.fn 36 []) [v182, v184] σ n (kc_plain_SameStmt5 Kg R)) σ n fun v185 σ n =>
 bindP (aPick v180 v185 (.sc (.bool false))) fun v188 =>
 R (.ret v188) σ n) (fun v164 => R (.pan v164) σ n)
def lb_plain_SameStmt7 (v1 : AV) (v2 : AV) (R : AEnd → Hp → Nat → Prop) (K142 : List AV → Hp → Nat → Prop) (s142 : List AV) (σ : Hp) (n : Nat) : Prop :=
 bindP (aFad 12 v1) fun v143 =>
 bindP (aLd σ none v143) fun v144 =>
 bindP (aLen false v144) fun v145 => bnd σ v144 →
 bindP (semBin .lss (s142.getD 3 .any) v145) fun v146 =>
 COND v146 (
 bindP (aFad 12 v1) fun v147 =>
 bindP (aLd σ none v147) fun v148 =>
 bindP (aIad 2 v148 (s142.getD 3 .any)) fun v150 =>
 bindP (aLd σ (some 2) v150) fun v151 =>
 bindP (aFad 12 v2) fun v152 =>
 bindP (aLd σ none v152) fun v153 =>
 bindP (aIad 2 v153 (s142.getD 3 .any)) fun v155 =>
 bindP (aLd σ (some 2) v155) fun v156 =>
 bindP (aEqs [0, 1] true v151 v156) fun v157 =>
 Apt (names []) (rdA v147) (names []) (rdA v152) ∧
 Apt (names []) (rdA v150) (names []) (rdA v152) ∧
 Apt (names []) (rdA v147) (names []) (rdA v155) ∧
 Apt (names []) (rdA v150) (names []) (rdA v155) ∧
 ∀ n_, n + 16 * 11 ≤ n_ → (fun n => COND v157 (
 R (.ret (.sc (.bool false))) σ n) (
 bindP (semBin .add (s142.getD 3 .any) (.sc (.int .i64 1))) fun v158 =>
 K142 [v146, v157, (s142.getD 2 .any), v158] σ n)) n_) (
 bindP (aFad 7 v1) fun v159 =>
 bindP (aLd σ none v159) fun v160 =>
 bindP (aFad 7 v2) fun v161 =>
 bindP (aLd σ none v161) fun v162 =>
 CALL Tryz.prog (.fn 36 []) [v160, v162] σ n (kc_plain_SameStmt6 v1 v2 R))
def lb_plain_SameStmt8 (v1 : AV) (v2 : AV) (R : AEnd → Hp → Nat → Prop) (K105 : List AV → Hp → Nat → Prop) (s105 : List AV) (σ : Hp) (n : Nat) : Prop :=
 bindP (aFad 6 v1) fun v106 =>
 bindP (aLd σ none v106) fun v107 =>
 bindP (aLen false v107) fun v108 => bnd σ v107 →
 bindP (semBin .lss (s105.getD 3 .any) v108) fun v109 =>
 COND v109 (
 bindP (aFad 6 v1) fun v110 =>
 bindP (aLd σ none v110) fun v111 =>
 bindP (aIad 8 v111 (s105.getD 3 .any)) fun v113 =>
 bindP (aFad 0 v113) fun v114 =>
 bindP (aLd σ none v114) fun v115 =>
 bindP (aFad 6 v2) fun v116 =>
 bindP (aLd σ none v116) fun v117 =>
 bindP (aIad 8 v117 (s105.getD 3 .any)) fun v119 =>
 bindP (aFad 0 v119) fun v120 =>
 bindP (aLd σ none v120) fun v121 =>
 bindP (semBin .neq v115 v121) fun v122 =>
 guardP v122 false (aFad 6 v1) fun v124 =>
 guardP v122 false (aLd σ none v124) fun v125 =>
 guardP v122 false (some (s105.getD 3 .any)) fun v126 =>
 guardP v122 false (aIad 8 v125 v126) fun v127 =>
 guardP v122 false (aFad 1 v127) fun v128 =>
 guardP v122 false (aLd σ (some 7) v128) fun v129 =>
 guardP v122 false (aFad 6 v2) fun v130 =>
 guardP v122 false (aLd σ none v130) fun v131 =>
 guardP v122 false (some (s105.getD 3 .any)) fun v132 =>
 guardP v122 false (aIad 8 v131 v132) fun v133 =>
 guardP v122 false (aFad 1 v133) fun v134 =>
 guardP v122 false (aLd σ (some 7) v134) fun v135 =>
 guardD v122 false (fun Kd => callD Tryz.prog (.fn 37 []) [v129, v135] σ (n + 16 * 26) (kd_plain_SameStmt2 Kd v110 v116 v114 v120 v124 v130 v128 v134 σ n R)) fun v136 w136 d136 =>
 guardP v122 false (aUn .not v136) fun v139 =>
 bindP (aPick v122 (.sc (.bool true)) v139) fun v140 =>
 Apt (names []) (rdA v110) (names []) (rdA v116) ∧
 Apt (names []) (rdA v114) (names []) (rdA v116) ∧
 Apt (names []) (rdA v110) (names []) (rdA v120) ∧
 Apt (names []) (rdA v114) (names []) (rdA v120) ∧
 Apt (names []) (rdA v124) (names []) (rdA v130) ∧
 Apt (names []) (rdA v128) (names []) (rdA v130) ∧
 Apt (names []) (rdA v124) (names []) (rdA v134) ∧
 Apt (names []) (rdA v128) (names []) (rdA v134) ∧
 ∀ n_, n + 16 * 29 ≤ n_ → (fun n => (fun σ => COND v140 (
 R (.ret (.sc (.bool false))) σ n) (
 bindP (semBin .add (s105.getD 3 .any) (.sc (.int .i64 1))) fun v141 =>
 K105 [v109, v140, (s105.getD 2 .any), v141] σ n)) (applyW σ w136)) n_) (
 LOOP (lb_plain_SameStmt7 v1 v2 R) [(.tp []), (.tp []), (s105.getD 2 .any), (.sc (.int .i64 0))] σ n)
def lb_plain_SameStmt9 (v1 : AV) (v2 : AV) (R : AEnd → Hp → Nat → Prop) (K86 : List AV → Hp → Nat → Prop) (s86 : List AV) (σ : Hp) (n : Nat) : Prop :=
 bindP (aFad 5 v1) fun v87 =>
 bindP (aLd σ none v87) fun v88 =>
 bindP (aLen false v88) fun v89 => bnd σ v88 →
 bindP (semBin .lss (s86.getD 3 .any) v89) fun v90 =>
 COND v90 (
 bindP (aFad 5 v1) fun v91 =>
 bindP (aLd σ none v91) fun v92 =>
 bindP (aIad 1 v92 (s86.getD 3 .any)) fun v94 =>
 bindP (aLd σ none v94) fun v95 =>
 bindP (aFad 5 v2) fun v96 =>
 bindP (aLd σ none v96) fun v97 =>
 bindP (aIad 1 v97 (s86.getD 3 .any)) fun v99 =>
 bindP (aLd σ none v99) fun v100 =>
 callD Tryz.prog (.fn 36 []) [v95, v100] σ (n + 16 * 10) (kd_plain_SameStmt1 v91 v96 v94 v99 n σ R s86 K86 v90)) (
 LOOP (lb_plain_SameStmt8 v1 v2 R) [(.tp []), (.tp []), (s86.getD 2 .any), (.sc (.int .i64 0))] σ n)
def lb_plain_SameStmt10 (v1 : AV) (v2 : AV) (R : AEnd → Hp → Nat → Prop) (K69 : List AV → Hp → Nat → Prop) (s69 : List AV) (σ : Hp) (n : Nat) : Prop :=
 bindP (aFad 2 v1) fun v70 =>
 bindP (aLd σ none v70) fun v71 =>
 bindP (aLen false v71) fun v72 => bnd σ v71 →
 bindP (semBin .lss (s69.getD 3 .any) v72) fun v73 =>
 COND v73 (
 bindP (aFad 2 v1) fun v74 =>
 bindP (aLd σ none v74) fun v75 =>
 bindP (aIad 3 v75 (s69.getD 3 .any)) fun v77 =>
 bindP (aLd σ (some 3) v77) fun v78 =>
 bindP (aFad 2 v2) fun v79 =>
 bindP (aLd σ none v79) fun v80 =>
 bindP (aIad 3 v80 (s69.getD 3 .any)) fun v82 =>
 bindP (aLd σ (some 3) v82) fun v83 =>
 bindP (aEqs [2, 0, 1] true v78 v83) fun v84 =>
 Apt (names []) (rdA v74) (names []) (rdA v79) ∧
 Apt (names []) (rdA v77) (names []) (rdA v79) ∧
 Apt (names []) (rdA v74) (names []) (rdA v82) ∧
 Apt (names []) (rdA v77) (names []) (rdA v82) ∧
 ∀ n_, n + 16 * 11 ≤ n_ → (fun n => COND v84 (
 R (.ret (.sc (.bool false))) σ n) (
 bindP (semBin .add (s69.getD 3 .any) (.sc (.int .i64 1))) fun v85 =>
 K69 [v73, v84, (s69.getD 2 .any), v85] σ n)) n_) (
 LOOP (lb_plain_SameStmt9 v1 v2 R) [(.tp []), (.tp []), (s69.getD 2 .any), (.sc (.int .i64 0))] σ n)
attribute [go_sem] kd_plain_SameStmt1 kd_plain_SameStmt2 kc_plain_SameStmt3 kc_plain_SameStmt4 kc_plain_SameStmt5 kc_plain_SameStmt6 lb_plain_SameStmt7 lb_plain_SameStmt8 lb_plain_SameStmt9 lb_plain_SameStmt10
noncomputable def sc_plain_SameStmt : SCode := (Tryz.f12.body.bind (cmpC Tryz.prog Tryz.f12.ntmps [0, 1, 48, 82, 87, 100, 5, 105, 119, 6, 124, 155, 7, 160, 173, 8, 2, 3, 4])).getD .skip
def sh_plain_SameStmt (a0 a1 : AV) (σ : Hp) (n : Nat) (R : AEnd → Hp → Nat → Prop) : Prop :=
 bindS (hBox n a0) σ n fun v1 σ n =>
 bindS (hBox n a1) σ n fun v2 σ n =>
 bindP (aFad 0 v1) fun v3 =>
 bindP (aLd σ none v3) fun v4 =>
 bindP (aFad 0 v2) fun v5 =>
 bindP (aLd σ none v5) fun v6 =>
 bindP (semBin .neq v4 v6) fun v7 =>
 guardP v7 false (aFad 1 v1) fun v8 =>
 guardP v7 false (aLd σ none v8) fun v9 =>
 guardP v7 false (aFad 1 v2) fun v10 =>
 guardP v7 false (aLd σ none v10) fun v11 =>
 guardP v7 false (semBin .neq v9 v11) fun v12 =>
 bindP (aPick v7 (.sc (.bool true)) v12) fun v13 =>
 guardP v13 false (aFad 3 v1) fun v14 =>
 guardP v13 false (aLd σ none v14) fun v15 =>
 guardP v13 false (aFad 3 v2) fun v16 =>
 guardP v13 false (aLd σ none v16) fun v17 =>
 guardP v13 false (semBin .neq v15 v17) fun v18 =>
 bindP (aPick v13 (.sc (.bool true)) v18) fun v19 =>
 guardP v19 false (aFad 4 v1) fun v20 =>
 guardP v19 false (aLd σ none v20) fun v21 =>
 guardP v19 false (aFad 4 v2) fun v22 =>
 guardP v19 false (aLd σ none v22) fun v23 =>
 guardP v19 false (semBin .neq v21 v23) fun v24 =>
 bindP (aPick v19 (.sc (.bool true)) v24) fun v25 =>
 guardP v25 false (aFad 8 v1) fun v26 =>
 guardP v25 false (aLd σ none v26) fun v27 =>
 guardP v25 false (aFad 8 v2) fun v28 =>
 guardP v25 false (aLd σ none v28) fun v29 =>
 guardP v25 false (semBin .neq v27 v29) fun v30 =>
 bindP (aPick v25 (.sc (.bool true)) v30) fun v31 =>
 guardP v31 false (aFad 13 v1) fun v32 =>
 guardP v31 false (aLd σ none v32) fun v33 =>
 guardP v31 false (aFad 13 v2) fun v34 =>
 guardP v31 false (aLd σ none v34) fun v35 =>
 guardP v31 false (semBin .neq v33 v35) fun v36 =>
 bindP (aPick v31 (.sc (.bool true)) v36) fun v37 =>
 COND v37 (
 R (.ret (.sc (.bool false))) σ n) (
 bindP (aFad 2 v1) fun v38 =>
 bindP (aLd σ none v38) fun v39 =>
 bindP (aLen false v39) fun v40 => bnd σ v39 →
 bindP (aFad 2 v2) fun v41 =>
 bindP (aLd σ none v41) fun v42 =>
 bindP (aLen false v42) fun v43 => bnd σ v42 →
 bindP (semBin .neq v40 v43) fun v44 =>
 guardP v44 false (aFad 5 v1) fun v45 =>
 guardP v44 false (aLd σ none v45) fun v46 =>
 guardP v44 false (aLen false v46) fun v47 =>
 guardP v44 false (aFad 5 v2) fun v48 =>
 guardP v44 false (aLd σ none v48) fun v49 =>
 guardP v44 false (aLen false v49) fun v50 =>
 guardP v44 false (semBin .neq v47 v50) fun v51 =>
 bindP (aPick v44 (.sc (.bool true)) v51) fun v52 =>
 guardP v52 false (aFad 6 v1) fun v53 =>
 guardP v52 false (aLd σ none v53) fun v54 =>
 guardP v52 false (aLen false v54) fun v55 =>
 guardP v52 false (aFad 6 v2) fun v56 =>
 guardP v52 false (aLd σ none v56) fun v57 =>
 guardP v52 false (aLen false v57) fun v58 =>
 guardP v52 false (semBin .neq v55 v58) fun v59 =>
 bindP (aPick v52 (.sc (.bool true)) v59) fun v60 =>
 guardP v60 false (aFad 12 v1) fun v61 =>
 guardP v60 false (aLd σ none v61) fun v62 =>
 guardP v60 false (aLen false v62) fun v63 =>
 guardP v60 false (aFad 12 v2) fun v64 =>
 guardP v60 false (aLd σ none v64) fun v65 =>
 guardP v60 false (aLen false v65) fun v66 =>
 guardP v60 false (semBin .neq v63 v66) fun v67 =>
 bindP (aPick v60 (.sc (.bool true)) v67) fun v68 =>
 COND v68 (
 R (.ret (.sc (.bool false))) σ n) (
 LOOP (lb_plain_SameStmt10 v1 v2 R) [(.tp []), (.tp []), (.sc (.bool false)), (.sc (.int .i64 0))] σ n))
theorem se_plain_SameStmt (a0 a1 : AV) (σ : Hp) (n : Nat) (R : AEnd → Hp → Nat → Prop) : sh_plain_SameStmt a0 a1 σ n R = swp Tryz.prog sc_plain_SameStmt (retQ [(.t 4)] R) (entry [a0, a1]) σ n := by kernel_rfl
theorem by_plain_SameStmt {a0 a1 : AV} {σ : Hp} {n : Nat} {R : AEnd → Hp → Nat → Prop} (h : sh_plain_SameStmt a0 a1 σ n R) : ConH Tryz.prog 12 [a0, a1] σ n R := by
  rw [se_plain_SameStmt] at h
  exact conH_of [(.t 4)] (fn := Tryz.f12) rfl [0, 1, 48, 82, 87, 100, 5, 105, 119, 6, 124, 155, 7, 160, 173, 8, 2, 3, 4] (by kernel_rfl) (by kernel_rfl) (by kernel_rfl) (by kernel_rfl) h
def kc_plain_CopyStmt1 (s3 : List AV) (K3 : List AV → Hp → Nat → Prop) (v7 : AV) (R : AEnd → Hp → Nat → Prop) (r : AEnd) (σ : Hp) (n : Nat) : Prop :=
 onEnd r (fun v12 =>
 bindS (hBsl σ n 1 [(.slice none 0 0)] 1 [(0, v12)]) σ n fun v14 σ n =>
 bindS (hApp σ n 1 24 (s3.getD 1 .any) v14) σ n fun v15 σ n =>
 bindP (semBin .add (s3.getD 2 .any) (.sc (.int .i64 1))) fun v16 =>
 K3 [v7, v15, v16] σ n) (fun v13 => R (.pan v13) σ n)
def kd_plain_CopyStmt2 (v28 : AV) (σ : Hp) (n : Nat) (s17 : List AV) (v23 : AV) (v29 : AV) (v27 : AV) (v33 : AV) (K17 : List AV → Hp → Nat → Prop) (v21 : AV) (R : AEnd → Hp → Nat → Prop) (r : AEnd) (w35 : Wr) (d35 : List Nat) : Prop :=
 onEnd r (fun v35 =>
 bindP (aBuild [(.string ⟨#[]⟩), (.int .i64 0), (.int .i64 0), (.int .i64 0), (.string ⟨#[]⟩), (.string ⟨#[]⟩), (.string ⟨#[]⟩), (.slice none 0 0)] [(0, 1, v28), (1, 7, v35)]) fun v37 =>
 bindH (hBsl (applyW σ w35) (n + 16 * 15) 8 [(.string ⟨#[]⟩), (.int .i64 0), (.int .i64 0), (.int .i64 0), (.string ⟨#[]⟩), (.string ⟨#[]⟩), (.string ⟨#[]⟩), (.slice none 0 0)] 1 [(0, v37)]) fun v38 w38 =>
 bindH (hApp (applyW (applyW σ w35) w38) (n + 16 * 16) 8 112 (s17.getD 1 .any) v38) fun v39 w39 =>
 Apt (names []) (rdA v23) (names []) (rdA v29) ∧
 Apt (names []) (rdA v27) (names []) (rdA v29) ∧
 Apt (names []) (rdA v23) (names []) (rdA v33) ∧
 Apt (names []) (rdA v27) (names []) (rdA v33) ∧
 Apt (names []) (rdA v23) (names w35) d35 ∧
 Apt (names []) (rdA v27) (names w35) d35 ∧
 ∀ n_, n + 16 * 18 ≤ n_ → (fun n => (fun σ => bindP (semBin .add (s17.getD 2 .any) (.sc (.int .i64 1))) fun v41 =>
 K17 [v21, v39, v41] σ n) (applyW (applyW (applyW σ w35) w38) w39)) n_) (fun v36 => Apt (names []) (rdA v23) (names []) (rdA v29) ∧
 Apt (names []) (rdA v27) (names []) (rdA v29) ∧
 Apt (names []) (rdA v23) (names []) (rdA v33) ∧
 Apt (names []) (rdA v27) (names []) (rdA v33) ∧
 Apt (names []) (rdA v23) (names []) d35 ∧
 Apt (names []) (rdA v27) (names []) d35 ∧
 ∀ (fr_ : Regs) σ n, R (.pan v36) σ n)
def kd_plain_CopyStmt3 (v1 : AV) (σ : Hp) (w62 : Wr) (w66 : Wr) (w70 : Wr) (v62 : AV) (v66 : AV) (v70 : AV) (v60 : AV) (v64 : AV) (d62 : List Nat) (v68 : AV) (d66 : List Nat) (v72 : AV) (d70 : List Nat) (n : Nat) (v2 : AV) (R : AEnd → Hp → Nat → Prop) (r : AEnd) (w74 : Wr) (d74 : List Nat) : Prop :=
 onEnd r (fun v74 =>
 bindP (aFad 7 v1) fun v76 =>
 bindH (hSt (applyW (applyW (applyW (applyW σ w62) w66) w70) w74) 1 v76 v62) fun v77 w77 =>
 bindP (aFad 9 v1) fun v78 =>
 bindH (hSt (applyW (applyW (applyW (applyW (applyW σ w62) w66) w70) w74) w77) 1 v78 v66) fun v79 w79 =>
 bindP (aFad 10 v1) fun v80 =>
 bindH (hSt (applyW (applyW (applyW (applyW (applyW (applyW σ w62) w66) w70) w74) w77) w79) 1 v80 v70) fun v81 w81 =>
 bindP (aFad 11 v1) fun v82 =>
 bindH (hSt (applyW (applyW (applyW (applyW (applyW (applyW (applyW σ w62) w66) w70) w74) w77) w79) w81) 1 v82 v74) fun v83 w83 =>
 Apt (names []) (rdA v60) (names []) (rdA v64) ∧
 Apt (names w62) d62 (names []) (rdA v64) ∧
 Apt (names []) (rdA v60) (names []) (rdA v68) ∧
 Apt (names w62) d62 (names []) (rdA v68) ∧
 Apt (names []) (rdA v64) (names []) (rdA v68) ∧
 Apt (names w66) d66 (names []) (rdA v68) ∧
 Apt (names []) (rdA v60) (names []) (rdA v72) ∧
 Apt (names w62) d62 (names []) (rdA v72) ∧
 Apt (names []) (rdA v64) (names []) (rdA v72) ∧
 Apt (names w66) d66 (names []) (rdA v72) ∧
 Apt (names []) (rdA v68) (names []) (rdA v72) ∧
 Apt (names w70) d70 (names []) (rdA v72) ∧
 ∀ n_, n + 16 * 20 ≤ n_ → (fun n => (fun σ => bindP (aLd σ (some 14) v1) fun v84 =>
 bindS (hSt σ 14 v2 v84) σ n fun v85 σ n =>
 bindP (aLd σ (some 14) v2) fun v86 =>
 R (.ret v86) σ n) (applyW (applyW (applyW (applyW (applyW (applyW (applyW (applyW σ w62) w66) w70) w74) w77) w79) w81) w83)) n_) (fun v75 => bindP (aFad 7 v1) fun v87 =>
 Apt (names []) (rdA v60) (names []) (rdA v64) ∧
 Apt (names w62) d62 (names []) (rdA v64) ∧
 Apt (names []) (rdA v60) (names []) (rdA v68) ∧
 Apt (names w62) d62 (names []) (rdA v68) ∧
 Apt (names []) (rdA v64) (names []) (rdA v68) ∧
 Apt (names w66) d66 (names []) (rdA v68) ∧
 Apt (names []) (rdA v60) (names []) (rdA v72) ∧
 Apt (names w62) d62 (names []) (rdA v72) ∧
 Apt (names []) (rdA v64) (names []) (rdA v72) ∧
 Apt (names w66) d66 (names []) (rdA v72) ∧
 Apt (names []) (rdA v68) (names []) (rdA v72) ∧
 Apt (names w70) d70 (names []) (rdA v72) ∧
 ∀ (fr_ : Regs) σ n, R (.pan v75) σ n)
def kd_plain_CopyStmt4 (v1 : AV) (σ : Hp) (w62 : Wr) (w66 : Wr) (n : Nat) (v62 : AV) (v66 : AV) (v60 : AV) (v64 : AV) (d62 : List Nat) (v68 : AV) (d66 : List Nat) (v2 : AV) (R : AEnd → Hp → Nat → Prop) (r : AEnd) (w70 : Wr) (d70 : List Nat) : Prop :=
 onEnd r (fun v70 =>
 bindP (aFad 11 v1) fun v72 =>
 bindP (aLd σ none v72) fun v73 =>
 callD Tryz.prog (.fn 14 []) [v73] (applyW (applyW (applyW σ w62) w66) w70) (n + 16 * 11) (kd_plain_CopyStmt3 v1 σ w62 w66 w70 v62 v66 v70 v60 v64 d62 v68 d66 v72 d70 n v2 R)) (fun v71 => bindP (aFad 11 v1) fun v88 =>
 bindP (aLd σ none v88) fun v89 =>
 bindP (aFad 7 v1) fun v90 =>
 Apt (names []) (rdA v60) (names []) (rdA v64) ∧
 Apt (names w62) d62 (names []) (rdA v64) ∧
 Apt (names []) (rdA v60) (names []) (rdA v68) ∧
 Apt (names w62) d62 (names []) (rdA v68) ∧
 Apt (names []) (rdA v64) (names []) (rdA v68) ∧
 Apt (names w66) d66 (names []) (rdA v68) ∧
 Apt (names []) (rdA v60) (names []) (rdA v88) ∧
 Apt (names w62) d62 (names []) (rdA v88) ∧
 Apt (names []) (rdA v64) (names []) (rdA v88) ∧
 Apt (names w66) d66 (names []) (rdA v88) ∧
 Apt (names []) (rdA v68) (names []) (rdA v88) ∧
 Apt (names []) d70 (names []) (rdA v88) ∧
 ∀ (fr_ : Regs) σ n, R (.pan v71) σ n)
def kd_plain_CopyStmt5 (v1 : AV) (σ : Hp) (w62 : Wr) (n : Nat) (v62 : AV) (v60 : AV) (v64 : AV) (d62 : List Nat) (v2 : AV) (R : AEnd → Hp → Nat → Prop) (r : AEnd) (w66 : Wr) (d66 : List Nat) : Prop :=
 onEnd r (fun v66 =>
 bindP (aFad 10 v1) fun v68 =>
 bindP (aLd σ none v68) fun v69 =>
 callD Tryz.prog (.fn 14 []) [v69] (applyW (applyW σ w62) w66) (n + 16 * 8) (kd_plain_CopyStmt4 v1 σ w62 w66 n v62 v66 v60 v64 d62 v68 d66 v2 R)) (fun v67 => bindP (aFad 10 v1) fun v91 =>
 bindP (aLd σ none v91) fun v92 =>
 bindP (aFad 11 v1) fun v93 =>
 bindP (aLd σ none v93) fun v94 =>
 bindP (aFad 7 v1) fun v95 =>
 Apt (names []) (rdA v60) (names []) (rdA v64) ∧
 Apt (names w62) d62 (names []) (rdA v64) ∧
 Apt (names []) (rdA v60) (names []) (rdA v91) ∧
 Apt (names w62) d62 (names []) (rdA v91) ∧
 Apt (names []) (rdA v64) (names []) (rdA v91) ∧
 Apt (names []) d66 (names []) (rdA v91) ∧
 Apt (names []) (rdA v60) (names []) (rdA v93) ∧
 Apt (names w62) d62 (names []) (rdA v93) ∧
 Apt (names []) (rdA v64) (names []) (rdA v93) ∧
 Apt (names []) d66 (names []) (rdA v93) ∧
 Apt (names []) (rdA v91) (names []) (rdA v93) ∧
 Apt (names []) [] (names []) (rdA v93) ∧
 ∀ (fr_ : Regs) σ n, R (.pan v67) σ n)
def kd_plain_CopyStmt6 (v1 : AV) (σ : Hp) (n : Nat) (v60 : AV) (v2 : AV) (R : AEnd → Hp → Nat → Prop) (r : AEnd) (w62 : Wr) (d62 : List Nat) : Prop :=
 onEnd r (fun v62 =>
 bindP (aFad 9 v1) fun v64 =>
 bindP (aLd σ none v64) fun v65 =>
 callD Tryz.prog (.fn 14 []) [v65] (applyW σ w62) (n + 16 * 5) (kd_plain_CopyStmt5 v1 σ w62 n v62 v60 v64 d62 v2 R)) (fun v63 => bindP (aFad 9 v1) fun v96 =>
 bindP (aLd σ none v96) fun v97 =>
 bindP (aFad 10 v1) fun v98 =>
 bindP (aLd σ none v98) fun v99 =>
 bindP (aFad 11 v1) fun v100 =>
 bindP (aLd σ none v100) fun v101 =>
 Apt (names []) (rdA v60) (names []) (rdA v96) ∧
 Apt (names []) d62 (names []) (rdA v96) ∧
 Apt (names []) (rdA v60) (names []) (rdA v98) ∧
 Apt (names []) d62 (names []) (rdA v98) ∧
 Apt (names []) (rdA v96) (names []) (rdA v98) ∧
 Apt (names []) [] (names []) (rdA v98) ∧
 Apt (names []) (rdA v60) (names []) (rdA v100) ∧
 Apt (names []) d62 (names []) (rdA v100) ∧
 Apt (names []) (rdA v96) (names []) (rdA v100) ∧
 Apt (names []) [] (names []) (rdA v100) ∧
 Apt (names []) (rdA v98) (names []) (rdA v100) ∧
 Apt (names []) [] (names []) (rdA v100) ∧
 ∀ (fr_ : Regs) σ n, R (.pan v63) σ n)
def lb_plain_CopyStmt7 (v1 : AV) (R : AEnd → Hp → Nat → Prop) (s3 : List AV) (v2 : AV) (K17 : List AV → Hp → Nat → Prop) (s17 : List AV) (σ : Hp) (n : Nat) : Prop :=
 bindP (aFad 6 v1) fun v18 =>
 bindP (aLd σ none v18) fun v19 =>
 bindP (aLen false v19) fun v20 => bnd σ v19 →
 bindP (semBin .lss (s17.getD 2 .any) v20) fun v21 =>
 COND v21 (
 bindP (aFad 6 v1) fun v23 =>
 bindP (aLd σ none v23) fun v24 =>
 bindP (aIad 8 v24 (s17.getD 2 .any)) fun v26 =>
 bindP (aFad 0 v26) fun v27 =>
 bindP (aLd σ none v27) fun v28 =>
 bindP (aFad 6 v1) fun v29 =>
 bindP (aLd σ none v29) fun v30 =>
 bindP (aIad 8 v30 (s17.getD 2 .any)) fun v32 =>
 bindP (aFad 1 v32) fun v33 =>
 bindP (aLd σ (some 7) v33) fun v34 =>
 callD Tryz.prog (.fn 15 []) [v34] σ (n + 16 * 13) (kd_plain_CopyStmt2 v28 σ n s17 v23 v29 v27 v33 K17 v21 R)) (
 bindP (aFad 2 v1) fun v43 =>
 bindP (aLd σ none v43) fun v44 =>
 bindH (hApp σ (n + 16 * 3) 3 32 .em v44) fun v45 w45 =>
 bindP (aFad 12 v1) fun v49 =>
 bindP (aLd σ none v49) fun v50 =>
 bindH (hApp (applyW σ w45) (n + 16 * 9) 2 16 .em v50) fun v51 w51 =>
 bindP (aFad 2 v1) fun v52 =>
 bindH (hSt (applyW (applyW σ w45) w51) 1 v52 v45) fun v53 w53 =>
 bindP (aFad 5 v1) fun v54 =>
 bindH (hSt (applyW (applyW (applyW σ w45) w51) w53) 1 v54 (s3.getD 1 .any)) fun v55 w55 =>
 bindP (aFad 6 v1) fun v56 =>
 bindH (hSt (applyW (applyW (applyW (applyW σ w45) w51) w53) w55) 1 v56 (s17.getD 1 .any)) fun v57 w57 =>
 bindP (aFad 12 v1) fun v58 =>
 bindH (hSt (applyW (applyW (applyW (applyW (applyW σ w45) w51) w53) w55) w57) 1 v58 v51) fun v59 w59 =>
 Apt (names []) (rdA v43) (names []) (rdA v49) ∧
 Apt (names w45) (rdY .em ++ (rdY v44 ++ names w45)) (names []) (rdA v49) ∧
 ∀ n_, n + 16 * 18 ≤ n_ → (fun n => (fun σ => bindP (aFad 7 v1) fun v60 =>
 bindP (aLd σ none v60) fun v61 =>
 callD Tryz.prog (.fn 14 []) [v61] σ (n + 16 * 2) (kd_plain_CopyStmt6 v1 σ n v60 v2 R)) (applyW (applyW (applyW (applyW (applyW (applyW σ w45) w51) w53) w55) w57) w59)) n_)
def lb_plain_CopyStmt8 (v1 : AV) (R : AEnd → Hp → Nat → Prop) (v2 : AV) (K3 : List AV → Hp → Nat → Prop) (s3 : List AV) (σ : Hp) (n : Nat) : Prop :=
 bindP (aFad 5 v1) fun v4 =>
 bindP (aLd σ none v4) fun v5 =>
 bindP (aLen false v5) fun v6 => bnd σ v5 →
 bindP (semBin .lss (s3.getD 2 .any) v6) fun v7 =>
 COND v7 (
 bindP (aFad 5 v1) fun v8 =>
 bindP (aLd σ none v8) fun v9 =>
 bindP (aIad 1 v9 (s3.getD 2 .any)) fun v10 =>
 bindP (aLd σ none v10) fun v11 =>
 CALL Tryz.prog (.fn 14 []) [v11] σ n (kc_plain_CopyStmt1 s3 K3 v7 R)) (
 LOOP (lb_plain_CopyStmt7 v1 R s3 v2) [(.tp []), .em, (.sc (.int .i64 0))] σ n)
attribute [go_sem] kc_plain_CopyStmt1 kd_plain_CopyStmt2 kd_plain_CopyStmt3 kd_plain_CopyStmt4 kd_plain_CopyStmt5 kd_plain_CopyStmt6 lb_plain_CopyStmt7 lb_plain_CopyStmt8
noncomputable def sc_plain_CopyStmt : SCode := (Tryz.f4.body.bind (cmpC Tryz.prog Tryz.f4.ntmps [0, 13, 7, 29, 8, 3, 4, 5, 6, 1, 2])).getD .skip
def sh_plain_CopyStmt (a0 : AV) (σ : Hp) (n : Nat) (R : AEnd → Hp → Nat → Prop) : Prop :=
 bindS (hBox n a0) σ n fun v1 σ n =>
 bindS (hAlloc n [(.int .i64 0), (.string ⟨#[]⟩), (.slice none 0 0), (.string ⟨#[]⟩), (.string ⟨#[]⟩), (.slice none 0 0), (.slice none 0 0), (.slice none 0 0), (.string ⟨#[]⟩), (.slice none 0 0), (.slice none 0 0), (.slice none 0 0), (.slice none 0 0), (.int .i64 0)]) σ n fun v2 σ n =>
 LOOP (lb_plain_CopyStmt8 v1 R v2) [(.tp []), .em, (.sc (.int .i64 0))] σ n
theorem se_plain_CopyStmt (a0 : AV) (σ : Hp) (n : Nat) (R : AEnd → Hp → Nat → Prop) : sh_plain_CopyStmt a0 σ n R = swp Tryz.prog sc_plain_CopyStmt (retQ [(.c 2 (some 14))] R) (entry [a0]) σ n := by kernel_rfl
theorem by_plain_CopyStmt {a0 : AV} {σ : Hp} {n : Nat} {R : AEnd → Hp → Nat → Prop} (h : sh_plain_CopyStmt a0 σ n R) : ConH Tryz.prog 4 [a0] σ n R := by
  rw [se_plain_CopyStmt] at h
  exact conH_of [(.c 2 (some 14))] (fn := Tryz.f4) rfl [0, 13, 7, 29, 8, 3, 4, 5, 6, 1, 2] (by kernel_rfl) (by kernel_rfl) (by kernel_rfl) (by kernel_rfl) h
def as_syntax_Check_1 : Code := (.region 6 #[⟨(some 3), (.alloc 46), 0, "syntax.go:167", #[], none⟩, ⟨none, (.store 46 (.tmp 3) (.tmp 17)), 0, "syntax.go:167", #[⟨0, .data⟩, ⟨0, .phase⟩], none⟩] false)
def bo_syntax_Check_1 : Code := (.block 1 (.seq (.region 7 #[⟨(some 18), (.load 46 (.tmp 3)), 46, "syntax.go:168", #[], none⟩, ⟨(some 19), (.call ⟨(.value (.func 26)), #[(.tmp 18)], #[46]⟩), 30, "syntax.go:168", #[⟨0, .data⟩], none⟩, ⟨(some 4), (.assign (.tmp 19)), 30, "syntax.go:168", #[⟨1, .data⟩, ⟨1, .chain⟩, ⟨0, .phase⟩, ⟨1, .phase⟩], none⟩] false) (.seq (.region 8 #[⟨(some 20), (.move (.tmp 4)), 30, "syntax.go:168", #[], none⟩, ⟨(some 21), (.binOp .neq 30 (.tmp 20) (.const (.int .i64 0)) 30), 4, "syntax.go:168", #[⟨0, .data⟩], none⟩] false) (.cond (.tmp 21) (.seq (.region 9 #[⟨(some 22), (.move (.tmp 4)), 30, "syntax.go:169", #[], none⟩, ⟨none, (.store 30 (.tmp 2) (.tmp 22)), 0, "syntax.go:169", #[⟨0, .data⟩, ⟨0, .phase⟩], none⟩] false) .ret) .skip))))
def rk_syntax_Check1 (v1 : AV) (v2 : AV) (q18 : Nat) (R : AEnd → Hp → Nat → Prop) (σ : Hp) (n : Nat) : Prop :=
 bindP (aFad 11 v1) fun v19 =>
 bindP (aLd σ none v19) fun v20 =>
 bindP (aLen false v20) fun v21 => bnd σ v20 →
 bindP (semBin .gtr v21 (.sc (.int .i64 0))) fun v22 =>
 guardP v22 true (aFad 11 v1) fun v23 =>
 guardP v22 true (aLd σ none v23) fun v24 =>
 guardP v22 true (aIad 7 v24 (.sc (.int .i64 0))) fun v25 =>
 guardP v22 true (aFad 0 v25) fun v26 =>
 guardP v22 true (aLd σ none v26) fun v27 =>
 guardP v22 true (semBin .neq v27 (.sc (.int .i64 1))) fun v28 =>
 bindP (aPick v22 v28 (.sc (.bool false))) fun v29 =>
 COND v29 (
 bindS (hSt σ 1 v2 (.sc (.int .i64 9))) σ n fun v30 σ n =>
 σ q18 = some (.df true true) ∧ (fun σ =>
 bindP (aLd σ none v2) fun v31 =>
 R (.ret v31) σ n) (upd σ q18 none)) (
 bindS (hSt σ 1 v2 (.sc (.int .i64 0))) σ n fun v32 σ n =>
 σ q18 = some (.df true true) ∧ (fun σ =>
 bindP (aLd σ none v2) fun v33 =>
 R (.ret v33) σ n) (upd σ q18 none))
def rr_syntax_Check2 (q18 : Nat) (v2 : AV) (R : AEnd → Hp → Nat → Prop) (σ : Hp) (n : Nat) : Prop :=
 σ q18 = some (.df true true) ∧ (fun σ =>
 bindP (aLd σ none v2) fun v34 =>
 R (.ret v34) σ n) (upd σ q18 none)
def kc_syntax_Check3 (v2 : AV) (R : AEnd → Hp → Nat → Prop) (v1 : AV) (r : AEnd) (σ : Hp) (n : Nat) : Prop :=
 onEnd r (fun v13 =>
 bindP (aUn .not v13) fun v15 =>
 COND v15 (
 bindS (hSt σ 1 v2 (.sc (.int .i64 9))) σ n fun v16 σ n =>
 bindP (aLd σ none v2) fun v17 =>
 R (.ret v17) σ n) (
 (fun q18 => ∀ fnid, RNG Tryz.prog (.fn 24 [v1]) ⟨fnid, #[17], as_syntax_Check_1, bo_syntax_Check_1, q18⟩ (keepR [16, 17, 3, 21, 4, 1, 34, 2] [(.fn 24 [v1]), (.tp []), (.tp []), (.tp []), (.tp []), v1, (.tp []), v2]) 35 σ q18 (rngS 0 (rk_syntax_Check1 v1 v2 q18 R) (rr_syntax_Check2 q18 v2 R))) n)) (fun v14 => R (.pan v14) σ n)
attribute [go_sem] rk_syntax_Check1 rr_syntax_Check2 kc_syntax_Check3
def sp_syntax_Check : Spn := (.st (.reg [⟨(some 1), none, (.box (.t 0))⟩, ⟨(some 2), none, (.alloc [(.int .i64 0)])⟩]) (.st (.seq (.reg [⟨(some 5), none, (.fad 0 (.t 1))⟩, ⟨(some 6), none, (.ld none (.t 5))⟩, ⟨(some 7), none, (.bin .lss (.t 6) (.c (.sc (.int .i64 1))))⟩, ⟨(some 8), none, (.mv (.t 7))⟩, ⟨(some 9), (some (8, false)), (.fad 0 (.t 1))⟩, ⟨(some 10), (some (8, false)), (.ld none (.t 9))⟩, ⟨(some 11), (some (8, false)), (.bin .gtr (.t 10) (.c (.sc (.int .i64 10))))⟩, ⟨(some 12), none, (.pick (.t 8) (.c (.sc (.bool true))) (.t 11))⟩]) (.cond (.t 12) (.seq (.reg [⟨none, none, (.st 1 (.t 2) (.c (.sc (.int .i64 22))))⟩]) .ret) .skip)) (.st (.seq (.reg [⟨(some 13), none, (.ld (some 14) (.t 1))⟩, ⟨(some 14), none, (.call (.c (.fn 23 [])) [(.t 13)])⟩, ⟨(some 15), none, (.un .not (.t 14))⟩]) (.cond (.t 15) (.seq (.reg [⟨none, none, (.st 1 (.t 2) (.c (.sc (.int .i64 9))))⟩]) .ret) .skip)) (.st (.reg [⟨(some 16), none, (.mkf 24 [(.t 1)])⟩]) (.rng 0 (.t 16) [16, 17, 3, 21, 4, 1, 34, 2] #[17] as_syntax_Check_1 bo_syntax_Check_1 (.fin (.seq (.seq (.reg [⟨(some 23), none, (.fad 11 (.t 1))⟩, ⟨(some 24), none, (.ld none (.t 23))⟩, ⟨(some 25), none, (.len false (.t 24))⟩, ⟨(some 26), none, (.bin .gtr (.t 25) (.c (.sc (.int .i64 0))))⟩, ⟨(some 27), none, (.mv (.t 26))⟩, ⟨(some 28), (some (27, true)), (.fad 11 (.t 1))⟩, ⟨(some 29), (some (27, true)), (.ld none (.t 28))⟩, ⟨(some 30), (some (27, true)), (.iad 7 (.t 29) (.c (.sc (.int .i64 0))))⟩, ⟨(some 31), (some (27, true)), (.fad 0 (.t 30))⟩, ⟨(some 32), (some (27, true)), (.ld none (.t 31))⟩, ⟨(some 33), (some (27, true)), (.bin .neq (.t 32) (.c (.sc (.int .i64 1))))⟩, ⟨(some 34), none, (.pick (.t 27) (.t 33) (.c (.sc (.bool false))))⟩]) (.cond (.t 34) (.seq (.reg [⟨none, none, (.st 1 (.t 2) (.c (.sc (.int .i64 9))))⟩]) .ret) .skip)) (.seq (.reg [⟨none, none, (.st 1 (.t 2) (.c (.sc (.int .i64 0))))⟩]) .ret))))))))
def sh_syntax_Check (a0 : AV) (σ : Hp) (n : Nat) (R : AEnd → Hp → Nat → Prop) : Prop :=
 bindS (hBox n a0) σ n fun v1 σ n =>
 bindS (hAlloc n [(.int .i64 0)]) σ n fun v2 σ n =>
 bindP (aFad 0 v1) fun v3 =>
 bindP (aLd σ none v3) fun v4 =>
 bindP (semBin .lss v4 (.sc (.int .i64 1))) fun v5 =>
 guardP v5 false (aFad 0 v1) fun v6 =>
 guardP v5 false (aLd σ none v6) fun v7 =>
 guardP v5 false (semBin .gtr v7 (.sc (.int .i64 10))) fun v8 =>
 bindP (aPick v5 (.sc (.bool true)) v8) fun v9 =>
 COND v9 (
 bindS (hSt σ 1 v2 (.sc (.int .i64 22))) σ n fun v10 σ n =>
 bindP (aLd σ none v2) fun v11 =>
 R (.ret v11) σ n) (
 bindP (aLd σ (some 14) v1) fun v12 =>
 CALL Tryz.prog (.fn 23 []) [v12] σ n (kc_syntax_Check3 v2 R v1))
theorem se_syntax_Check (a0 : AV) (σ : Hp) (n : Nat) (R : AEnd → Hp → Nat → Prop) : sh_syntax_Check a0 σ n R = swpR Tryz.prog 35 sp_syntax_Check (retQ [(.c 2 none)] R) (entry [a0]) σ n := by kernel_rfl
theorem by_syntax_Check {a0 : AV} {σ : Hp} {n : Nat} {R : AEnd → Hp → Nat → Prop} (h : sh_syntax_Check a0 σ n R) : ConH Tryz.prog 8 [a0] σ n R := by
  rw [se_syntax_Check] at h
  exact conH_ofR [(.c 2 none)] (fn := Tryz.f8) rfl [0, 12, 15, 16, 17, 3, 21, 4, 1, 34, 2] (sp := sp_syntax_Check) (by kernel_rfl) (by kernel_rfl) (by kernel_rfl) (by kernel_rfl) h
def kc_syntax_Check_11 (a8 : AV) (y : Nat) (L : Lp) (gr : Regs) (R : AEnd → Hp → Nat → Prop) (r : AEnd) (σ : Hp) (n : Nat) : Prop :=
 onEnd r (fun v4 =>
 bindP (semBin .neq v4 (.sc (.int .i64 0))) fun v6 =>
 COND v6 (
 bindS (hSt σ 1 a8 v4) σ n fun v7 σ n =>
 σ y = some (.lp L gr 35 .busy none true) ∧ R (.ret (bb false)) (upd σ y (some (.lp L gr 35 .done (some .ret) true))) n) (
 σ y = some (.lp L gr 35 .busy none true) ∧ R (.ret (bb true)) (upd σ y (some (.lp L gr 35 .ready none true))) n)) (fun v5 => False)
attribute [go_sem] kc_syntax_Check_11
def sa_syntax_Check_1 : SCode := (.reg [
   ⟨(some 3), none, (.alloc [(.int .i64 0), (.int .i64 0), (.int .i64 0), (.string ⟨#[]⟩), (.string ⟨#[]⟩), (.string ⟨#[]⟩), (.slice none 0 0)])⟩,
    ⟨none, none, (.st 7 (.t 3) (.t 17))⟩])
def sb_syntax_Check_1 : SCode := (.block 1 (.seq (.reg [
   ⟨(some 18), none, (.ld (some 7) (.t 3))⟩,
    ⟨(some 19), none, (.call (.c (.fn 26 [])) [(.t 18)])⟩,
    ⟨(some 4), none, (.mv (.t 19))⟩]) (.seq (.reg [
   ⟨(some 20), none, (.mv (.t 4))⟩,
    ⟨(some 21), none, (.bin .neq (.t 20) (.c (.sc (.int .i64 0))))⟩]) (.cond (.t 21) (.seq (.reg [
   ⟨(some 22), none, (.mv (.t 4))⟩,
    ⟨none, none, (.st 1 (.t 2) (.t 22))⟩]) .ret) .skip))))
def shr_syntax_Check_1 (a0 a1 a2 a3 a4 a5 a6 a7 a8 : AV) (gr : Regs) (L : Lp) (y : Nat) (σ : Hp) (n : Nat) (R : AEnd → Hp → Nat → Prop) : Prop :=
 bindS (hAlloc n [(.int .i64 0), (.int .i64 0), (.int .i64 0), (.string ⟨#[]⟩), (.string ⟨#[]⟩), (.string ⟨#[]⟩), (.slice none 0 0)]) σ n fun v1 σ n =>
 bindS (hSt σ 7 v1 a0) σ n fun v2 σ n =>
 σ y = some (.lp L gr 35 .ready none true) ∧ (fun σ =>
 bindP (aLd σ (some 7) v1) fun v3 =>
 CALL Tryz.prog (.fn 26 []) [v3] σ n (kc_syntax_Check_11 a8 y L gr R)) (upd σ y (some (.lp L gr 35 .busy none true)))
theorem ser_syntax_Check_1 (a0 a1 a2 a3 a4 a5 a6 a7 a8 : AV) (gr : Regs) (L : Lp) (y : Nat) (σ : Hp) (n : Nat) (R : AEnd → Hp → Nat → Prop) : shr_syntax_Check_1 a0 a1 a2 a3 a4 a5 a6 a7 a8 gr L y σ n R = swp Tryz.prog sa_syntax_Check_1 (rndA Tryz.prog y L gr 35 sb_syntax_Check_1 R) (keepR [17, 16, 17, 3, 21, 4, 1, 34, 2] [a0, a1, a2, a3, a4, a5, a6, a7, a8]) σ n := by kernel_rfl
theorem byr_syntax_Check_1 {a0 a1 a2 a3 a4 a5 a6 a7 a8 : AV} {fnid : FuncId} {d y : Nat} {σ : Hp} {n : Nat} {R : AEnd → Hp → Nat → Prop} (hy : σ y = some (.lp ⟨fnid, #[17], as_syntax_Check_1, bo_syntax_Check_1, d⟩ (keepR [16, 17, 3, 21, 4, 1, 34, 2] [a1, a2, a3, a4, a5, a6, a7, a8]) 35 .ready none true)) (h : shr_syntax_Check_1 a0 a1 a2 a3 a4 a5 a6 a7 a8 (keepR [16, 17, 3, 21, 4, 1, 34, 2] [a1, a2, a3, a4, a5, a6, a7, a8]) ⟨fnid, #[17], as_syntax_Check_1, bo_syntax_Check_1, d⟩ y σ n R) : YCon Tryz.prog y [a0] σ n R := by
  rw [ser_syntax_Check_1] at h
  exact ycon_at (X := [0, 12, 15, 16, 17, 3, 21, 4, 1, 34, 2]) hy rfl (by kernel_rfl) (by kernel_rfl) (by kernel_rfl) h
end Go.Proofs.YtodoejfkjimeaaaGreatDoor
