/- Packed by a program of this repo: Sh6. -/
import Derived.Test.YtlhnncmflnjinaaKCMo
import Derived.Test.YtlhnncmflnjinaaProg
set_option linter.unusedVariables false
set_option maxRecDepth 8000
namespace Go.Proofs.Ytlhnncmflnjinaa
open Go Am
/-- switchback/switchbacklaw06.CatalogMay -/
def kc_law06_CatalogMay1 (Kg : AV → Hp → Nat → Prop) (R : AEnd → Hp → Nat → Prop) (r : AEnd) (σ : Hp) (n : Nat) : Prop :=
 onEnd r (fun v62 =>
 Kg v62 σ n) (fun v63 => R (.pan v63) σ n)
def kc_law06_CatalogMay2 (Kg : AV → Hp → Nat → Prop) (R : AEnd → Hp → Nat → Prop) (r : AEnd) (σ : Hp) (n : Nat) : Prop :=
 onEnd r (fun v65 =>
 Kg v65 σ n) (fun v66 => R (.pan v66) σ n)
def kd_law06_CatalogMay3 (Kd : AV → Wr → List Nat → Prop) (v74 : AV) (v47 : AV) (σ : Hp) (n : Nat) (R : AEnd → Hp → Nat → Prop) (r : AEnd) (w78 : Wr) (d78 : List Nat) : Prop :=
 onEnd r (fun v78 =>
 Kd v78 w78 d78) (fun v79 => guardP v74 true (some v47) fun v80 =>
 Apt (names []) [] (names []) [] ∧
 Apt (names []) [] (names []) [] ∧
 Apt (names []) [] (names []) [] ∧
 ∀ (fr_ : Regs) σ n, R (.pan v79) σ n)
def kd_law06_CatalogMay4 (Kd : AV → Wr → List Nat → Prop) (σ : Hp) (n : Nat) (R : AEnd → Hp → Nat → Prop) (r : AEnd) (w83 : Wr) (d83 : List Nat) : Prop :=
 onEnd r (fun v83 =>
 Kd v83 w83 d83) (fun v84 => Apt (names []) [] (names []) [] ∧
 Apt (names []) [] (names []) [] ∧
 Apt (names []) [] (names []) [] ∧
 ∀ (fr_ : Regs) σ n, R (.pan v84) σ n)
def kd_law06_CatalogMay5 (Kd : AV → Wr → List Nat → Prop) (v89 : AV) (v95 : AV) (v93 : AV) (σ : Hp) (n : Nat) (R : AEnd → Hp → Nat → Prop) (r : AEnd) (w102 : Wr) (d102 : List Nat) : Prop :=
 onEnd r (fun v102 =>
 Kd v102 w102 d102) (fun v103 => Apt (names []) (rdA v89) (names []) (rdA v95) ∧
 Apt (names []) (rdA v93) (names []) (rdA v95) ∧
 Apt (names []) [] (names []) [] ∧
 ∀ (fr_ : Regs) σ n, R (.pan v103) σ n)
def kd_law06_CatalogMay6 (Kd : AV → Wr → List Nat → Prop) (v89 : AV) (v95 : AV) (v93 : AV) (v48 : AV) (v1 : AV) (σ : Hp) (n : Nat) (R : AEnd → Hp → Nat → Prop) (r : AEnd) (w110 : Wr) (d110 : List Nat) : Prop :=
 onEnd r (fun v110 =>
 Kd v110 w110 d110) (fun v111 => Apt (names []) (rdA v89) (names []) (rdA v95) ∧
 Apt (names []) (rdA v93) (names []) (rdA v95) ∧
 Apt (names []) (rdA v48) (names []) (rdA v1) ∧
 ∀ (fr_ : Regs) σ n, R (.pan v111) σ n)
def kd_law06_CatalogMay7 (v32 : AV) (σ : Hp) (w70 : Wr) (n : Nat) (v47 : AV) (R : AEnd → Hp → Nat → Prop) (v16 : AV) (v31 : AV) (v2 : AV) (v56 : AV) (v48 : AV) (v1 : AV) (r : AEnd) (w72 : Wr) (d72 : List Nat) : Prop :=
 onEnd r (fun v72 =>
 bindP (semBin .eql v72 (.sc (.int .i64 0))) fun v74 =>
 guardP v74 true (some v32) fun v76 =>
 guardD v74 true (fun Kd => callD Try.prog (.fn 39 []) [v76] (applyW (applyW σ w70) w72) (n + 16 * 6) (kd_law06_CatalogMay3 Kd v74 v47 σ n R)) fun v77 w77 d77 =>
 guardP v74 true (some v47) fun v81 =>
 guardD v74 true (fun Kd => callD Try.prog (.fn 39 []) [v81] (applyW (applyW (applyW σ w70) w72) w77) (n + 16 * 8) (kd_law06_CatalogMay4 Kd σ n R)) fun v82 w82 d82 =>
 guardP v74 true (semBin .add v77 v82) fun v85 =>
 guardP v74 true (semBin .eql v85 (.sc (.int .i64 0))) fun v86 =>
 bindP (aPick v74 v86 (.sc (.bool false))) fun v87 =>
 guardP v87 true (aFad 0 v16) fun v89 =>
 guardP v87 true (aLd (applyW (applyW (applyW (applyW σ w70) w72) w77) w82) none v89) fun v90 =>
 guardP v87 true (some v31) fun v91 =>
 guardP v87 true (aIad 4 v90 v91) fun v92 =>
 guardP v87 true (aFad 0 v92) fun v93 =>
 guardP v87 true (aLd (applyW (applyW (applyW (applyW σ w70) w72) w77) w82) none v93) fun v94 =>
 guardP v87 true (aFad 1 v2) fun v95 =>
 guardP v87 true (aLd (applyW (applyW (applyW (applyW σ w70) w72) w77) w82) none v95) fun v96 =>
 guardP v87 true (semBin .eql v94 v96) fun v97 =>
 bindP (aPick v87 v97 (.sc (.bool false))) fun v98 =>
 guardP v98 true (some v56) fun v100 =>
 guardD v98 true (fun Kd => callD Try.prog (.fn 39 []) [v100] (applyW (applyW (applyW (applyW σ w70) w72) w77) w82) (n + 16 * 25) (kd_law06_CatalogMay5 Kd v89 v95 v93 σ n R)) fun v101 w101 d101 =>
 guardP v98 true (semBin .eql v101 (.sc (.int .i64 93))) fun v104 =>
 bindP (aPick v98 v104 (.sc (.bool false))) fun v105 =>
 guardP v105 true (aLd (applyW (applyW (applyW (applyW (applyW σ w70) w72) w77) w82) w101) (some 1) v48) fun v107 =>
 guardP v105 true (aLd (applyW (applyW (applyW (applyW (applyW σ w70) w72) w77) w82) w101) (some 1) v1) fun v108 =>
 guardD v105 true (fun Kd => callD Try.prog (.fn 40 []) [v107, v108] (applyW (applyW (applyW (applyW (applyW σ w70) w72) w77) w82) w101) (n + 16 * 31) (kd_law06_CatalogMay6 Kd v89 v95 v93 v48 v1 σ n R)) fun v109 w109 d109 =>
 guardP v105 true (semBin .eql v109 (.sc (.int .i64 0))) fun v112 =>
 bindP (aPick v105 v112 (.sc (.bool false))) fun v113 =>
 Apt (names []) (rdA v89) (names []) (rdA v95) ∧
 Apt (names []) (rdA v93) (names []) (rdA v95) ∧
 Apt (names []) (rdA v48) (names []) (rdA v1) ∧
 ∀ n_, n + 16 * 35 ≤ n_ → (fun n => (fun σ => R (.ret v113) σ n) (applyW (applyW (applyW (applyW (applyW (applyW σ w70) w72) w77) w82) w101) w109)) n_) (fun v73 => Apt (names []) [] (names []) [] ∧
 Apt (names []) [] (names []) [] ∧
 Apt (names []) [] (names []) [] ∧
 ∀ (fr_ : Regs) σ n, R (.pan v73) σ n)
def kd_law06_CatalogMay8 (σ : Hp) (n : Nat) (v32 : AV) (v47 : AV) (R : AEnd → Hp → Nat → Prop) (v16 : AV) (v31 : AV) (v2 : AV) (v56 : AV) (v48 : AV) (v1 : AV) (r : AEnd) (w70 : Wr) (d70 : List Nat) : Prop :=
 onEnd r (fun v70 =>
 callD Try.prog (.fn 39 []) [v70] (applyW σ w70) (n + 16 * 2) (kd_law06_CatalogMay7 v32 σ w70 n v47 R v16 v31 v2 v56 v48 v1)) (fun v71 => Apt (names []) [] (names []) [] ∧
 Apt (names []) [] (names []) [] ∧
 Apt (names []) [] (names []) [] ∧
 ∀ (fr_ : Regs) σ n, R (.pan v71) σ n)
def kc_law06_CatalogMay9 (v39 : AV) (R : AEnd → Hp → Nat → Prop) (v16 : AV) (v32 : AV) (v47 : AV) (v31 : AV) (v2 : AV) (v56 : AV) (v48 : AV) (v1 : AV) (r : AEnd) (σ : Hp) (n : Nat) : Prop :=
 onEnd r (fun v57 =>
 bindP (semBin .eql v57 (.sc (.int .i64 0))) fun v59 =>
 guardP v59 true (aLd σ (some 1) v39) fun v60 =>
 guardK v59 true (fun Kg => CALL Try.prog (.fn 47 []) [v60] σ n (kc_law06_CatalogMay1 Kg R)) σ n fun v61 σ n =>
 guardK v59 true (fun Kg => CALL Try.prog (.fn 39 []) [v61] σ n (kc_law06_CatalogMay2 Kg R)) σ n fun v64 σ n =>
 guardP v59 true (semBin .neq v64 (.sc (.int .i64 0))) fun v67 =>
 bindP (aPick v59 v67 (.sc (.bool false))) fun v68 =>
 COND v68 (
 R (.ret (.sc (.bool false))) σ n) (
 bindP (aLd σ (some 1) v16) fun v69 =>
 callD Try.prog (.fn 47 []) [v69] σ (n + 16 * 1) (kd_law06_CatalogMay8 σ n v32 v47 R v16 v31 v2 v56 v48 v1))) (fun v58 => R (.pan v58) σ n)
def kc_law06_CatalogMay10 (v38 : AV) (v39 : AV) (R : AEnd → Hp → Nat → Prop) (v16 : AV) (v32 : AV) (v47 : AV) (v31 : AV) (v2 : AV) (v48 : AV) (v1 : AV) (r : AEnd) (σ : Hp) (n : Nat) : Prop :=
 onEnd r (fun v53 =>
 bindP (aExt v53 0) fun v55 =>
 bindP (aExt v53 1) fun v56 =>
 CALL Try.prog (.fn 39 []) [v38] σ n (kc_law06_CatalogMay9 v39 R v16 v32 v47 v31 v2 v56 v48 v1)) (fun v54 => R (.pan v54) σ n)
def kc_law06_CatalogMay11 (v2 : AV) (v38 : AV) (v39 : AV) (R : AEnd → Hp → Nat → Prop) (v16 : AV) (v32 : AV) (v31 : AV) (v1 : AV) (r : AEnd) (σ : Hp) (n : Nat) : Prop :=
 onEnd r (fun v44 =>
 bindP (aExt v44 0) fun v46 =>
 bindP (aExt v44 1) fun v47 =>
 bindS (hAlloc n [(.slice none 0 0)]) σ n fun v48 σ n =>
 bindS (hSt σ 1 v48 v46) σ n fun v49 σ n =>
 bindP (aLd σ (some 1) v48) fun v50 =>
 bindP (aFad 1 v2) fun v51 =>
 bindP (aLd σ none v51) fun v52 =>
 CALL Try.prog (.fn 45 []) [v50, v52] σ n (kc_law06_CatalogMay10 v38 v39 R v16 v32 v47 v31 v2 v48 v1)) (fun v45 => R (.pan v45) σ n)
def kc_law06_CatalogMay12 (v16 : AV) (v2 : AV) (R : AEnd → Hp → Nat → Prop) (v32 : AV) (v31 : AV) (v1 : AV) (r : AEnd) (σ : Hp) (n : Nat) : Prop :=
 onEnd r (fun v35 =>
 bindP (aExt v35 0) fun v37 =>
 bindP (aExt v35 1) fun v38 =>
 bindS (hAlloc n [(.slice none 0 0)]) σ n fun v39 σ n =>
 bindS (hSt σ 1 v39 v37) σ n fun v40 σ n =>
 bindP (aLd σ (some 1) v16) fun v41 =>
 bindP (aFad 1 v2) fun v42 =>
 bindP (aLd σ none v42) fun v43 =>
 CALL Try.prog (.fn 46 []) [v41, v43] σ n (kc_law06_CatalogMay11 v2 v38 v39 R v16 v32 v31 v1)) (fun v36 => R (.pan v36) σ n)
def kc_law06_CatalogMay13 (v16 : AV) (v3 : AV) (v2 : AV) (R : AEnd → Hp → Nat → Prop) (v1 : AV) (r : AEnd) (σ : Hp) (n : Nat) : Prop :=
 onEnd r (fun v29 =>
 bindP (aExt v29 0) fun v31 =>
 bindP (aExt v29 1) fun v32 =>
 bindP (aLd σ (some 1) v16) fun v33 =>
 bindP (aLd σ (some 14) v3) fun v34 =>
 CALL Try.prog (.fn 41 []) [v33, v34] σ n (kc_law06_CatalogMay12 v16 v2 R v32 v31 v1)) (fun v30 => R (.pan v30) σ n)
def kc_law06_CatalogMay14 (v16 : AV) (R : AEnd → Hp → Nat → Prop) (v2 : AV) (v3 : AV) (v1 : AV) (r : AEnd) (σ : Hp) (n : Nat) : Prop :=
 onEnd r (fun v19 =>
 bindP (semBin .neq v19 (.sc (.int .i64 0))) fun v21 =>
 COND v21 (
 bindP (aFad 0 v16) fun v22 =>
 bindP (aLd σ none v22) fun v23 =>
 bindP (aLen false v23) fun v24 => bnd σ v23 →
 bindP (semBin .eql v24 (.sc (.int .i64 0))) fun v25 =>
 R (.ret v25) σ n) (
 bindP (aLd σ (some 1) v16) fun v26 =>
 bindP (aFad 1 v2) fun v27 =>
 bindP (aLd σ none v27) fun v28 =>
 CALL Try.prog (.fn 45 []) [v26, v28] σ n (kc_law06_CatalogMay13 v16 v3 v2 R v1))) (fun v20 => R (.pan v20) σ n)
def kd_law06_CatalogMay15 (n : Nat) (σ : Hp) (w8 : Wr) (v1 : AV) (v2 : AV) (d8 : List Nat) (R : AEnd → Hp → Nat → Prop) (v3 : AV) (r : AEnd) (w11 : Wr) (d11 : List Nat) : Prop :=
 onEnd r (fun v11 =>
 bindP (aExt v11 0) fun v14 =>
 bindP (aExt v11 1) fun v15 =>
 bindH (hAlloc (n + 16 * 7) [(.slice none 0 0)]) fun v16 w16 =>
 bindH (hSt (applyW (applyW (applyW σ w8) w11) w16) 1 v16 v14) fun v17 w17 =>
 Apt (names []) (rdA v1) (names []) (rdA v2) ∧
 Apt (names w8) d8 (names []) (rdA v2) ∧
 Apt (names []) (rdA v1) (names w16) (names w16) ∧
 Apt (names w8) d8 (names w16) (names w16) ∧
 Apt (names []) (rdA v2) (names w16) (names w16) ∧
 Apt (names w11) d11 (names w16) (names w16) ∧
 ∀ n_, n + 16 * 10 ≤ n_ → (fun n => (fun σ => CALL Try.prog (.fn 39 []) [v15] σ n (kc_law06_CatalogMay14 v16 R v2 v3 v1)) (applyW (applyW (applyW (applyW σ w8) w11) w16) w17)) n_) (fun v12 => bindH (hAlloc (n + 16 * 7) [(.slice none 0 0)]) fun v115 w115 =>
 Apt (names []) (rdA v1) (names []) (rdA v2) ∧
 Apt (names w8) d8 (names []) (rdA v2) ∧
 Apt (names []) (rdA v1) (names w115) (names w115) ∧
 Apt (names w8) d8 (names w115) (names w115) ∧
 Apt (names []) (rdA v2) (names w115) (names w115) ∧
 Apt (names []) d11 (names w115) (names w115) ∧
 ∀ (fr_ : Regs) σ n, R (.pan v12) σ n)
def kd_law06_CatalogMay16 (σ : Hp) (v2 : AV) (n : Nat) (v1 : AV) (R : AEnd → Hp → Nat → Prop) (v3 : AV) (r : AEnd) (w8 : Wr) (d8 : List Nat) : Prop :=
 onEnd r (fun v8 =>
 bindP (aLd σ (some 14) v2) fun v10 =>
 callD Try.prog (.fn 23 []) [v8, v10] (applyW σ w8) (n + 16 * 3) (kd_law06_CatalogMay15 n σ w8 v1 v2 d8 R v3)) (fun v9 => bindP (aLd σ (some 14) v2) fun v116 =>
 bindH (hAlloc (n + 16 * 7) [(.slice none 0 0)]) fun v117 w117 =>
 Apt (names []) (rdA v1) (names []) (rdA v2) ∧
 Apt (names []) d8 (names []) (rdA v2) ∧
 Apt (names []) (rdA v1) (names w117) (names w117) ∧
 Apt (names []) d8 (names w117) (names w117) ∧
 Apt (names []) (rdA v2) (names w117) (names w117) ∧
 Apt (names []) [] (names w117) (names w117) ∧
 ∀ (fr_ : Regs) σ n, R (.pan v9) σ n)
def kc_law06_CatalogMay17 (R : AEnd → Hp → Nat → Prop) (v1 : AV) (v2 : AV) (v3 : AV) (r : AEnd) (σ : Hp) (n : Nat) : Prop :=
 onEnd r (fun v4 =>
 bindP (aUn .not v4) fun v6 =>
 COND v6 (
 R (.ret (.sc (.bool false))) σ n) (
 bindP (aLd σ (some 1) v1) fun v7 =>
 callD Try.prog (.fn 22 []) [v7] σ (n + 16 * 1) (kd_law06_CatalogMay16 σ v2 n v1 R v3))) (fun v5 => R (.pan v5) σ n)
attribute [go_sem] kc_law06_CatalogMay1 kc_law06_CatalogMay2 kd_law06_CatalogMay3 kd_law06_CatalogMay4 kd_law06_CatalogMay5 kd_law06_CatalogMay6 kd_law06_CatalogMay7 kd_law06_CatalogMay8 kc_law06_CatalogMay9 kc_law06_CatalogMay10 kc_law06_CatalogMay11 kc_law06_CatalogMay12 kc_law06_CatalogMay13 kc_law06_CatalogMay14 kd_law06_CatalogMay15 kd_law06_CatalogMay16 kc_law06_CatalogMay17
def sc_law06_CatalogMay : SCode := (.seq (.reg [
   ⟨(some 3), none, (.box (.t 0))⟩,
    ⟨(some 4), none, (.box (.t 1))⟩,
    ⟨(some 5), none, (.box (.t 2))⟩,
    ⟨(some 6), none, (.mv (.c (.sc (.bool false))))⟩]) (.seq (.seq (.reg [
   ⟨(some 17), none, (.call (.c (.fn 35 [])) [])⟩,
    ⟨(some 18), none, (.un .not (.t 17))⟩]) (.cond (.t 18) (.seq (.reg [
   ⟨(some 6), none, (.mv (.c (.sc (.bool false))))⟩]) .ret) .skip)) (.seq (.regD [(⟨(some 20), none, (.ld (some 1) (.t 3))⟩, []), (⟨(some 21), none, (.call (.c (.fn 22 [])) [(.t 20)])⟩, [0]), (⟨(some 22), none, (.ld (some 14) (.t 4))⟩, []), (⟨(some 23), none, (.call (.c (.fn 23 [])) [(.t 21), (.t 22)])⟩, [1, 0, 2]), (⟨(some 19), none, (.mv (.t 23))⟩, [3, 1, 0, 2]), (⟨(some 24), none, (.ext (.t 19) 0)⟩, [4, 3, 1, 0, 2]), (⟨(some 25), none, (.ext (.t 19) 1)⟩, [4, 3, 1, 0, 2]), (⟨(some 7), none, (.alloc [(.slice none 0 0)])⟩, []), (⟨none, none, (.st 1 (.t 7) (.t 24))⟩, [7, 5, 4, 3, 1, 0, 2]), (⟨(some 8), none, (.mv (.t 25))⟩, [6, 4, 3, 1, 0, 2, 8, 7, 5])]) (.seq (.seq (.reg [
   ⟨(some 26), none, (.mv (.t 8))⟩,
    ⟨(some 27), none, (.call (.c (.fn 39 [])) [(.t 26)])⟩,
    ⟨(some 28), none, (.bin .neq (.t 27) (.c (.sc (.int .i64 0))))⟩]) (.cond (.t 28) (.seq (.reg [
   ⟨(some 29), none, (.fad 0 (.t 7))⟩,
    ⟨(some 30), none, (.ld none (.t 29))⟩,
    ⟨(some 31), none, (.len false (.t 30))⟩,
    ⟨(some 32), none, (.bin .eql (.t 31) (.c (.sc (.int .i64 0))))⟩,
    ⟨(some 6), none, (.mv (.t 32))⟩]) .ret) .skip)) (.seq (.reg [
   ⟨(some 34), none, (.ld (some 1) (.t 7))⟩,
    ⟨(some 35), none, (.fad 1 (.t 4))⟩,
    ⟨(some 36), none, (.ld none (.t 35))⟩,
    ⟨(some 37), none, (.call (.c (.fn 45 [])) [(.t 34), (.t 36)])⟩,
    ⟨(some 33), none, (.mv (.t 37))⟩,
    ⟨(some 38), none, (.ext (.t 33) 0)⟩,
    ⟨(some 39), none, (.ext (.t 33) 1)⟩,
    ⟨(some 9), none, (.mv (.t 38))⟩,
    ⟨(some 10), none, (.mv (.t 39))⟩]) (.seq (.reg [
   ⟨(some 41), none, (.ld (some 1) (.t 7))⟩,
    ⟨(some 42), none, (.ld (some 14) (.t 5))⟩,
    ⟨(some 43), none, (.call (.c (.fn 41 [])) [(.t 41), (.t 42)])⟩,
    ⟨(some 40), none, (.mv (.t 43))⟩,
    ⟨(some 44), none, (.ext (.t 40) 0)⟩,
    ⟨(some 45), none, (.ext (.t 40) 1)⟩,
    ⟨(some 11), none, (.alloc [(.slice none 0 0)])⟩,
    ⟨none, none, (.st 1 (.t 11) (.t 44))⟩,
    ⟨(some 12), none, (.mv (.t 45))⟩]) (.seq (.reg [
   ⟨(some 47), none, (.ld (some 1) (.t 7))⟩,
    ⟨(some 48), none, (.fad 1 (.t 4))⟩,
    ⟨(some 49), none, (.ld none (.t 48))⟩,
    ⟨(some 50), none, (.call (.c (.fn 46 [])) [(.t 47), (.t 49)])⟩,
    ⟨(some 46), none, (.mv (.t 50))⟩,
    ⟨(some 51), none, (.ext (.t 46) 0)⟩,
    ⟨(some 52), none, (.ext (.t 46) 1)⟩,
    ⟨(some 13), none, (.alloc [(.slice none 0 0)])⟩,
    ⟨none, none, (.st 1 (.t 13) (.t 51))⟩,
    ⟨(some 14), none, (.mv (.t 52))⟩]) (.seq (.reg [
   ⟨(some 54), none, (.ld (some 1) (.t 13))⟩,
    ⟨(some 55), none, (.fad 1 (.t 4))⟩,
    ⟨(some 56), none, (.ld none (.t 55))⟩,
    ⟨(some 57), none, (.call (.c (.fn 45 [])) [(.t 54), (.t 56)])⟩,
    ⟨(some 53), none, (.mv (.t 57))⟩,
    ⟨(some 58), none, (.ext (.t 53) 0)⟩,
    ⟨(some 59), none, (.ext (.t 53) 1)⟩,
    ⟨(some 15), none, (.mv (.t 58))⟩,
    ⟨(some 16), none, (.mv (.t 59))⟩]) (.seq (.seq (.reg [
   ⟨(some 60), none, (.mv (.t 12))⟩,
    ⟨(some 61), none, (.call (.c (.fn 39 [])) [(.t 60)])⟩,
    ⟨(some 62), none, (.bin .eql (.t 61) (.c (.sc (.int .i64 0))))⟩,
    ⟨(some 63), none, (.mv (.t 62))⟩,
    ⟨(some 64), (some (63, true)), (.ld (some 1) (.t 11))⟩,
    ⟨(some 65), (some (63, true)), (.call (.c (.fn 47 [])) [(.t 64)])⟩,
    ⟨(some 66), (some (63, true)), (.call (.c (.fn 39 [])) [(.t 65)])⟩,
    ⟨(some 67), (some (63, true)), (.bin .neq (.t 66) (.c (.sc (.int .i64 0))))⟩,
    ⟨(some 68), none, (.pick (.t 63) (.t 67) (.c (.sc (.bool false))))⟩]) (.cond (.t 68) (.seq (.reg [
   ⟨(some 6), none, (.mv (.c (.sc (.bool false))))⟩]) .ret) .skip)) (.seq (.regD [(⟨(some 69), none, (.ld (some 1) (.t 7))⟩, []), (⟨(some 70), none, (.call (.c (.fn 47 [])) [(.t 69)])⟩, [0]), (⟨(some 71), none, (.call (.c (.fn 39 [])) [(.t 70)])⟩, [1, 0]), (⟨(some 72), none, (.bin .eql (.t 71) (.c (.sc (.int .i64 0))))⟩, [2, 1, 0]), (⟨(some 73), none, (.mv (.t 72))⟩, [3, 2, 1, 0]), (⟨(some 74), (some (73, true)), (.mv (.t 10))⟩, [4, 3, 2, 1, 0]), (⟨(some 75), (some (73, true)), (.call (.c (.fn 39 [])) [(.t 74)])⟩, [5, 4, 3, 2, 1, 0]), (⟨(some 76), (some (73, true)), (.mv (.t 14))⟩, [4, 3, 2, 1, 0]), (⟨(some 77), (some (73, true)), (.call (.c (.fn 39 [])) [(.t 76)])⟩, [7, 4, 3, 2, 1, 0, 6, 5]), (⟨(some 78), (some (73, true)), (.bin .add (.t 75) (.t 77))⟩, [6, 5, 4, 3, 2, 1, 0, 8, 7]), (⟨(some 79), (some (73, true)), (.bin .eql (.t 78) (.c (.sc (.int .i64 0))))⟩, [9, 6, 5, 4, 3, 2, 1, 0, 8, 7]), (⟨(some 80), none, (.pick (.t 73) (.t 79) (.c (.sc (.bool false))))⟩, [4, 3, 2, 1, 0, 10, 9, 6, 5, 8, 7]), (⟨(some 81), none, (.mv (.t 80))⟩, [11, 4, 3, 2, 1, 0, 10, 9, 6, 5, 8, 7]), (⟨(some 82), (some (81, true)), (.fad 0 (.t 7))⟩, [12, 11, 4, 3, 2, 1, 0, 10, 9, 6, 5, 8, 7]), (⟨(some 83), (some (81, true)), (.ld none (.t 82))⟩, [13, 12, 11, 4, 3, 2, 1, 0, 10, 9, 6, 5, 8, 7]), (⟨(some 84), (some (81, true)), (.mv (.t 9))⟩, [12, 11, 4, 3, 2, 1, 0, 10, 9, 6, 5, 8, 7]), (⟨(some 85), (some (81, true)), (.iad 4 (.t 83) (.t 84))⟩, [14, 13, 12, 11, 4, 3, 2, 1, 0, 10, 9, 6, 5, 8, 7, 15]), (⟨(some 86), (some (81, true)), (.fad 0 (.t 85))⟩, [16, 14, 13, 12, 11, 4, 3, 2, 1, 0, 10, 9, 6, 5, 8, 7, 15]), (⟨(some 87), (some (81, true)), (.ld none (.t 86))⟩, [17, 16, 14, 13, 12, 11, 4, 3, 2, 1, 0, 10, 9, 6, 5, 8, 7, 15]), (⟨(some 88), (some (81, true)), (.fad 1 (.t 4))⟩, [12, 11, 4, 3, 2, 1, 0, 10, 9, 6, 5, 8, 7]), (⟨(some 89), (some (81, true)), (.ld none (.t 88))⟩, [19, 12, 11, 4, 3, 2, 1, 0, 10, 9, 6, 5, 8, 7]), (⟨(some 90), (some (81, true)), (.bin .eql (.t 87) (.t 89))⟩, [18, 17, 16, 14, 13, 12, 11, 4, 3, 2, 1, 0, 10, 9, 6, 5, 8, 7, 15, 20, 19]), (⟨(some 91), none, (.pick (.t 81) (.t 90) (.c (.sc (.bool false))))⟩, [12, 11, 4, 3, 2, 1, 0, 10, 9, 6, 5, 8, 7, 21, 18, 17, 16, 14, 13, 15, 20, 19]), (⟨(some 92), none, (.mv (.t 91))⟩, [22, 12, 11, 4, 3, 2, 1, 0, 10, 9, 6, 5, 8, 7, 21, 18, 17, 16, 14, 13, 15, 20, 19]), (⟨(some 93), (some (92, true)), (.mv (.t 16))⟩, [23, 22, 12, 11, 4, 3, 2, 1, 0, 10, 9, 6, 5, 8, 7, 21, 18, 17, 16, 14, 13, 15, 20, 19]), (⟨(some 94), (some (92, true)), (.call (.c (.fn 39 [])) [(.t 93)])⟩, [24, 23, 22, 12, 11, 4, 3, 2, 1, 0, 10, 9, 6, 5, 8, 7, 21, 18, 17, 16, 14, 13, 15, 20, 19]), (⟨(some 95), (some (92, true)), (.bin .eql (.t 94) (.c (.sc (.int .i64 93))))⟩, [25, 24, 23, 22, 12, 11, 4, 3, 2, 1, 0, 10, 9, 6, 5, 8, 7, 21, 18, 17, 16, 14, 13, 15, 20, 19]), (⟨(some 96), none, (.pick (.t 92) (.t 95) (.c (.sc (.bool false))))⟩, [23, 22, 12, 11, 4, 3, 2, 1, 0, 10, 9, 6, 5, 8, 7, 21, 18, 17, 16, 14, 13, 15, 20, 19, 26, 25, 24]), (⟨(some 97), none, (.mv (.t 96))⟩, [27, 23, 22, 12, 11, 4, 3, 2, 1, 0, 10, 9, 6, 5, 8, 7, 21, 18, 17, 16, 14, 13, 15, 20, 19, 26, 25, 24]), (⟨(some 98), (some (97, true)), (.ld (some 1) (.t 13))⟩, [28, 27, 23, 22, 12, 11, 4, 3, 2, 1, 0, 10, 9, 6, 5, 8, 7, 21, 18, 17, 16, 14, 13, 15, 20, 19, 26, 25, 24]), (⟨(some 99), (some (97, true)), (.ld (some 1) (.t 3))⟩, [28, 27, 23, 22, 12, 11, 4, 3, 2, 1, 0, 10, 9, 6, 5, 8, 7, 21, 18, 17, 16, 14, 13, 15, 20, 19, 26, 25, 24]), (⟨(some 100), (some (97, true)), (.call (.c (.fn 40 [])) [(.t 98), (.t 99)])⟩, [29, 28, 27, 23, 22, 12, 11, 4, 3, 2, 1, 0, 10, 9, 6, 5, 8, 7, 21, 18, 17, 16, 14, 13, 15, 20, 19, 26, 25, 24, 30]), (⟨(some 101), (some (97, true)), (.bin .eql (.t 100) (.c (.sc (.int .i64 0))))⟩, [31, 29, 28, 27, 23, 22, 12, 11, 4, 3, 2, 1, 0, 10, 9, 6, 5, 8, 7, 21, 18, 17, 16, 14, 13, 15, 20, 19, 26, 25, 24, 30]), (⟨(some 102), none, (.pick (.t 97) (.t 101) (.c (.sc (.bool false))))⟩, [28, 27, 23, 22, 12, 11, 4, 3, 2, 1, 0, 10, 9, 6, 5, 8, 7, 21, 18, 17, 16, 14, 13, 15, 20, 19, 26, 25, 24, 32, 31, 29, 30]), (⟨(some 6), none, (.mv (.t 102))⟩, [33, 28, 27, 23, 22, 12, 11, 4, 3, 2, 1, 0, 10, 9, 6, 5, 8, 7, 21, 18, 17, 16, 14, 13, 15, 20, 19, 26, 25, 24, 32, 31, 29, 30])]) .ret))))))))))
def sh_law06_CatalogMay (a0 a1 a2 : AV) (σ : Hp) (n : Nat) (R : AEnd → Hp → Nat → Prop) : Prop :=
 bindS (hBox n a0) σ n fun v1 σ n =>
 bindS (hBox n a1) σ n fun v2 σ n =>
 bindS (hBox n a2) σ n fun v3 σ n =>
 CALL Try.prog (.fn 35 []) [] σ n (kc_law06_CatalogMay17 R v1 v2 v3)
theorem se_law06_CatalogMay (a0 a1 a2 : AV) (σ : Hp) (n : Nat) (R : AEnd → Hp → Nat → Prop) : sh_law06_CatalogMay a0 a1 a2 σ n R = swp Try.prog sc_law06_CatalogMay (retQ [(.t 6)] R) (entry [a0, a1, a2]) σ n := by kernel_rfl
theorem by_law06_CatalogMay {a0 a1 a2 : AV} {σ : Hp} {n : Nat} {R : AEnd → Hp → Nat → Prop} (h : sh_law06_CatalogMay a0 a1 a2 σ n R) : ConH Try.prog 12 [a0, a1, a2] σ n R := by
  rw [se_law06_CatalogMay] at h
  exact conH_of [(.t 6)] (fn := Try.f12) rfl [0, 1, 2, 18, 8, 28, 5, 12, 11, 68, 10, 14, 7, 9, 4, 16, 13, 3, 6] (by kernel_rfl) (by kernel_rfl) (by kernel_rfl) (by kernel_rfl) h
/-- switchback/switchbacklaw06.All -/
def kd_law06_All1 (σ : Hp) (n : Nat) (v10 : AV) (v3 : AV) (v9 : AV) (v11 : AV) (v14 : AV) (s4 : List AV) (K4 : List AV → Hp → Nat → Prop) (v8 : AV) (R : AEnd → Hp → Nat → Prop) (r : AEnd) (w16 : Wr) (d16 : List Nat) : Prop :=
 onEnd r (fun v16 =>
 bindH (hBsl (applyW σ w16) (n + 16 * 8) 4 [(.string ⟨#[]⟩), (.slice none 0 0), (.int .i64 0), (.slice none 0 0)] 1 [(0, v16)]) fun v18 w18 =>
 bindH (hApp (applyW (applyW σ w16) w18) (n + 16 * 9) 4 72 v10 v18) fun v19 w19 =>
 bindP (aFad 0 v3) fun v20 =>
 bindH (hSt (applyW (applyW (applyW σ w16) w18) w19) 1 v20 v19) fun v21 w21 =>
 Apt (names []) (rdA v9) (names []) (rdA v11) ∧
 Apt (names []) (rdA v9) (names []) (rdA v14) ∧
 Apt (names []) (rdA v9) (names w16) d16 ∧
 Apt (names []) (rdA v9) (names w18) (names w18) ∧
 ∀ n_, n + 16 * 12 ≤ n_ → (fun n => (fun σ => bindP (semBin .add (s4.getD 1 .any) (.sc (.int .i64 1))) fun v22 =>
 K4 [v8, v22] σ n) (applyW (applyW (applyW (applyW σ w16) w18) w19) w21)) n_) (fun v17 => Apt (names []) (rdA v9) (names []) (rdA v11) ∧
 Apt (names []) (rdA v9) (names []) (rdA v14) ∧
 Apt (names []) (rdA v9) (names []) d16 ∧
 Apt (names []) (rdA v9) (names []) [] ∧
 ∀ (fr_ : Regs) σ n, R (.pan v17) σ n)
def lb_law06_All2 (v1 : AV) (v3 : AV) (R : AEnd → Hp → Nat → Prop) (v2 : AV) (K4 : List AV → Hp → Nat → Prop) (s4 : List AV) (σ : Hp) (n : Nat) : Prop :=
 bindP (aFad 0 v1) fun v5 =>
 bindP (aLd σ none v5) fun v6 =>
 bindP (aLen false v6) fun v7 => bnd σ v6 →
 bindP (semBin .lss (s4.getD 1 .any) v7) fun v8 =>
 COND v8 (
 bindP (aFad 0 v3) fun v9 =>
 bindP (aLd σ none v9) fun v10 =>
 bindP (aFad 0 v1) fun v11 =>
 bindP (aLd σ none v11) fun v12 =>
 bindP (aIad 4 v12 (s4.getD 1 .any)) fun v14 =>
 bindP (aLd σ (some 4) v14) fun v15 =>
 callD Try.prog (.fn 27 []) [v15] σ (n + 16 * 7) (kd_law06_All1 σ n v10 v3 v9 v11 v14 s4 K4 v8 R)) (
 bindP (aLd σ (some 1) v3) fun v23 =>
 bindS (hSt σ 1 v2 v23) σ n fun v24 σ n =>
 bindP (aLd σ (some 1) v2) fun v25 =>
 R (.ret v25) σ n)
attribute [go_sem] kd_law06_All1 lb_law06_All2
def sc_law06_All : SCode := (.seq (.reg [
   ⟨(some 1), none, (.box (.t 0))⟩,
    ⟨(some 2), none, (.alloc [(.slice none 0 0)])⟩]) (.seq (.reg [
   ⟨(some 3), none, (.alloc [(.slice none 0 0)])⟩]) (.seq (.seq (.reg [
   ⟨(some 4), none, (.mv (.c (.sc (.int .i64 0))))⟩]) (.block 0 (.loop [9, 4] [5, 6, 7, 8, 9, 12, 13, 14, 15, 16, 17, 18, 19, 20, 21, 22, 10, 11, 4] (.seq (.seq (.reg [
   ⟨(some 5), none, (.mv (.t 4))⟩,
    ⟨(some 6), none, (.fad 0 (.t 1))⟩,
    ⟨(some 7), none, (.ld none (.t 6))⟩,
    ⟨(some 8), none, (.len false (.t 7))⟩,
    ⟨(some 9), none, (.bin .lss (.t 5) (.t 8))⟩]) (.cond (.t 9) .skip (.exit 0))) (.seq (.block 1 (.regD [(⟨(some 12), none, (.fad 0 (.t 3))⟩, []), (⟨(some 13), none, (.ld none (.t 12))⟩, [0]), (⟨(some 14), none, (.fad 0 (.t 1))⟩, []), (⟨(some 15), none, (.ld none (.t 14))⟩, [2]), (⟨(some 16), none, (.mv (.t 4))⟩, []), (⟨(some 17), none, (.iad 4 (.t 15) (.t 16))⟩, [3, 2, 4]), (⟨(some 18), none, (.ld (some 4) (.t 17))⟩, [5, 3, 2, 4]), (⟨(some 19), none, (.call (.c (.fn 27 [])) [(.t 18)])⟩, [6, 5, 3, 2, 4]), (⟨(some 20), none, (.bsl 4 [(.string ⟨#[]⟩), (.slice none 0 0), (.int .i64 0), (.slice none 0 0)] 1 [(0, (.t 19))])⟩, [7, 6, 5, 3, 2, 4]), (⟨(some 21), none, (.app 4 72 (.t 13) (.t 20))⟩, [1, 0, 8, 7, 6, 5, 3, 2, 4]), (⟨(some 22), none, (.fad 0 (.t 3))⟩, [0, 1, 2, 3, 4, 5, 6, 7, 8, 9]), (⟨none, none, (.st 1 (.t 22) (.t 21))⟩, [10, 0, 1, 2, 3, 4, 5, 6, 7, 8, 9])])) (.reg [
   ⟨(some 10), none, (.mv (.t 4))⟩,
    ⟨(some 11), none, (.bin .add (.t 10) (.c (.sc (.int .i64 1))))⟩,
    ⟨(some 4), none, (.mv (.t 11))⟩])))))) (.seq (.reg [
   ⟨(some 23), none, (.ld (some 1) (.t 3))⟩,
    ⟨none, none, (.st 1 (.t 2) (.t 23))⟩]) .ret))))
def sh_law06_All (a0 : AV) (σ : Hp) (n : Nat) (R : AEnd → Hp → Nat → Prop) : Prop :=
 bindS (hBox n a0) σ n fun v1 σ n =>
 bindS (hAlloc n [(.slice none 0 0)]) σ n fun v2 σ n =>
 bindS (hAlloc n [(.slice none 0 0)]) σ n fun v3 σ n =>
 LOOP (lb_law06_All2 v1 v3 R v2) [(.tp []), (.sc (.int .i64 0))] σ n
theorem se_law06_All (a0 : AV) (σ : Hp) (n : Nat) (R : AEnd → Hp → Nat → Prop) : sh_law06_All a0 σ n R = swp Try.prog sc_law06_All (retQ [(.c 2 (some 1))] R) (entry [a0]) σ n := by kernel_rfl
theorem by_law06_All {a0 : AV} {σ : Hp} {n : Nat} {R : AEnd → Hp → Nat → Prop} (h : sh_law06_All a0 σ n R) : ConH Try.prog 22 [a0] σ n R := by
  rw [se_law06_All] at h
  exact conH_of [(.c 2 (some 1))] (fn := Try.f22) rfl [0, 9, 1, 4, 3, 2] (by kernel_rfl) (by kernel_rfl) (by kernel_rfl) (by kernel_rfl) h
/-- switchback/catalog.Create -/
def kc_catalog_Create1 (Kg : AV → Hp → Nat → Prop) (R : AEnd → Hp → Nat → Prop) (r : AEnd) (σ : Hp) (n : Nat) : Prop :=
 onEnd r (fun v16 =>
 Kg v16 σ n) (fun v17 => R (.pan v17) σ n)
def kc_catalog_Create2 (s45 : List AV) (v3 : AV) (R : AEnd → Hp → Nat → Prop) (K45 : List AV → Hp → Nat → Prop) (v46 : AV) (v49 : AV) (r : AEnd) (σ : Hp) (n : Nat) : Prop :=
 onEnd r (fun v54 =>
 bindP (aExt v54 0) fun v56 =>
 bindP (aExt v54 1) fun v57 =>
 bindP (semBin .neq v56 (s45.getD 6 .any)) fun v58 =>
 COND v58 (
 bindP (aBuild [(.slice none 0 0)] []) fun v59 =>
 bindS (hSt σ 1 v3 v59) σ n fun v60 σ n =>
 bindP (aLd σ (some 1) v3) fun v61 =>
 R (.ret (.tp [v61, (.sc (.int .i64 6))])) σ n) (
 bindP (semBin .add (s45.getD 6 .any) (.sc (.int .i64 1))) fun v62 =>
 K45 [v46, v49, (s45.getD 6 .any), v56, v58, (s45.getD 5 .any), v62] σ n)) (fun v55 => R (.pan v55) σ n)
def kc_catalog_Create3 (v1 : AV) (v3 : AV) (R : AEnd → Hp → Nat → Prop) (r : AEnd) (σ : Hp) (n : Nat) : Prop :=
 onEnd r (fun v98 =>
 bindP (aFad 0 v1) fun v100 =>
 bindS (hSt σ 1 v100 v98) σ n fun v101 σ n =>
 bindP (aLd σ (some 1) v1) fun v102 =>
 bindS (hSt σ 1 v3 v102) σ n fun v103 σ n =>
 bindP (aLd σ (some 1) v3) fun v104 =>
 R (.ret (.tp [v104, (.sc (.int .i64 0))])) σ n) (fun v99 => R (.pan v99) σ n)
def kc_catalog_Create4 (v1 : AV) (v40 : AV) (v28 : AV) (v3 : AV) (R : AEnd → Hp → Nat → Prop) (r : AEnd) (σ : Hp) (n : Nat) : Prop :=
 onEnd r (fun v91 =>
 bindS (hSt σ 1 v1 v91) σ n fun v93 σ n =>
 bindP (aFad 0 v1) fun v94 =>
 bindP (aLd σ none v94) fun v95 =>
 bindP (aLd σ (some 4) v40) fun v96 =>
 bindS (hBsl σ n 4 [(.string ⟨#[]⟩), (.slice none 0 0), (.int .i64 0), (.slice none 0 0)] 1 [(0, v96)]) σ n fun v97 σ n =>
 CALL Try.prog (.fn 68 []) [v95, v28, v97] σ n (kc_catalog_Create3 v1 v3 R)) (fun v92 => R (.pan v92) σ n)
def kc_catalog_Create5 (v40 : AV) (v3 : AV) (R : AEnd → Hp → Nat → Prop) (v1 : AV) (v28 : AV) (r : AEnd) (σ : Hp) (n : Nat) : Prop :=
 onEnd r (fun v66 =>
 bindP (aExt v66 0) fun v68 =>
 bindP (aExt v66 1) fun v69 =>
 bindP (aFad 2 v40) fun v70 =>
 bindS (hSt σ 1 v70 v68) σ n fun v71 σ n =>
 bindP (semBin .neq v69 (.sc (.int .i64 0))) fun v72 =>
 COND v72 (
 bindP (aBuild [(.slice none 0 0)] []) fun v73 =>
 bindS (hSt σ 1 v3 v73) σ n fun v74 σ n =>
 bindP (aLd σ (some 1) v3) fun v75 =>
 R (.ret (.tp [v75, v69])) σ n) (
 bindP (aFad 0 v1) fun v76 =>
 bindP (aLd σ none v76) fun v77 =>
 bindP (aLen false v77) fun v78 => bnd σ v77 →
 bindP (semBin .eql v78 (.sc (.int .i64 8))) fun v79 =>
 COND v79 (
 bindP (aBuild [(.slice none 0 0)] []) fun v80 =>
 bindS (hSt σ 1 v3 v80) σ n fun v81 σ n =>
 bindP (aLd σ (some 1) v3) fun v82 =>
 R (.ret (.tp [v82, (.sc (.int .i64 51))])) σ n) (
 bindP (aFad 1 v40) fun v83 =>
 bindP (aLd σ none v83) fun v84 =>
 bindP (aFad 2 v40) fun v85 =>
 bindP (aLd σ none v85) fun v86 =>
 bindP (aIad 3 v84 v86) fun v87 =>
 bindP (aFad 2 v87) fun v88 =>
 bindS (hSt σ 1 v88 (.sc (.bool true))) σ n fun v89 σ n =>
 bindP (aLd σ (some 1) v1) fun v90 =>
 CALL Try.prog (.fn 67 []) [v90] σ n (kc_catalog_Create4 v1 v40 v28 v3 R)))) (fun v67 => R (.pan v67) σ n)
def lb_catalog_Create6 (v44 : AV) (v43 : AV) (v40 : AV) (v3 : AV) (R : AEnd → Hp → Nat → Prop) (v2 : AV) (v1 : AV) (v28 : AV) (K45 : List AV → Hp → Nat → Prop) (s45 : List AV) (σ : Hp) (n : Nat) : Prop :=
 bindP (semBin .lss (s45.getD 6 .any) v44) fun v46 =>
 COND v46 (
 bindP (aIad 3 v43 (s45.getD 6 .any)) fun v47 =>
 bindP (aLd σ (some 3) v47) fun v48 =>
 bindS (hAlloc n [(.string ⟨#[]⟩), (.int .i64 0), (.bool false)]) σ n fun v49 σ n =>
 bindS (hSt σ 3 v49 v48) σ n fun v50 σ n =>
 bindP (aLd σ (some 4) v40) fun v51 =>
 bindP (aFad 0 v49) fun v52 =>
 bindP (aLd σ none v52) fun v53 =>
 CALL Try.prog (.fn 66 []) [v51, v53] σ n (kc_catalog_Create2 s45 v3 R K45 v46 v49)) (
 bindP (aLd σ (some 4) v40) fun v63 =>
 bindP (aFad 3 v2) fun v64 =>
 bindP (aLd σ none v64) fun v65 =>
 CALL Try.prog (.fn 66 []) [v63, v65] σ n (kc_catalog_Create5 v40 v3 R v1 v28))
def kd_catalog_Create7 (v34 : AV) (n : Nat) (σ : Hp) (v33 : AV) (v35 : AV) (v3 : AV) (R : AEnd → Hp → Nat → Prop) (v2 : AV) (v1 : AV) (v28 : AV) (r : AEnd) (w37 : Wr) (d37 : List Nat) : Prop :=
 onEnd r (fun v37 =>
 bindP (aBuild [(.string ⟨#[]⟩), (.slice none 0 0), (.int .i64 0), (.slice none 0 0)] [(0, 1, v34), (1, 1, v37)]) fun v39 =>
 bindH (hAlloc (n + 16 * 6) [(.string ⟨#[]⟩), (.slice none 0 0), (.int .i64 0), (.slice none 0 0)]) fun v40 w40 =>
 bindH (hSt (applyW (applyW σ w37) w40) 4 v40 v39) fun v41 w41 =>
 Apt (names []) (rdA v33) (names []) (rdA v35) ∧
 Apt (names []) (rdA v33) (names w37) d37 ∧
 Apt (names []) (rdA v33) (names w40) (names w40) ∧
 Apt (names []) (rdA v35) (names w40) (names w40) ∧
 Apt (names w37) d37 (names w40) (names w40) ∧
 ∀ n_, n + 16 * 8 ≤ n_ → (fun n => (fun σ => bindP (aFad 1 v40) fun v42 =>
 bindP (aLd σ none v42) fun v43 =>
 bindP (aLen false v43) fun v44 => bnd σ v43 →
 LOOP (lb_catalog_Create6 v44 v43 v40 v3 R v2 v1 v28) [(.tp []), (.tp []), (.tp []), (.tp []), (.tp []), (.sc (.int .i64 0)), (.sc (.int .i64 0))] σ n) (applyW (applyW (applyW σ w37) w40) w41)) n_) (fun v38 => bindH (hAlloc (n + 16 * 6) [(.string ⟨#[]⟩), (.slice none 0 0), (.int .i64 0), (.slice none 0 0)]) fun v105 w105 =>
 Apt (names []) (rdA v33) (names []) (rdA v35) ∧
 Apt (names []) (rdA v33) (names []) d37 ∧
 Apt (names []) (rdA v33) (names w105) (names w105) ∧
 Apt (names []) (rdA v35) (names w105) (names w105) ∧
 Apt (names []) d37 (names w105) (names w105) ∧
 ∀ (fr_ : Regs) σ n, R (.pan v38) σ n)
def kc_catalog_Create8 (v3 : AV) (R : AEnd → Hp → Nat → Prop) (v2 : AV) (v1 : AV) (r : AEnd) (σ : Hp) (n : Nat) : Prop :=
 onEnd r (fun v26 =>
 bindP (aExt v26 0) fun v28 =>
 bindP (aExt v26 1) fun v29 =>
 COND v29 (
 bindP (aBuild [(.slice none 0 0)] []) fun v30 =>
 bindS (hSt σ 1 v3 v30) σ n fun v31 σ n =>
 bindP (aLd σ (some 1) v3) fun v32 =>
 R (.ret (.tp [v32, (.sc (.int .i64 6))])) σ n) (
 bindP (aFad 1 v2) fun v33 =>
 bindP (aLd σ none v33) fun v34 =>
 bindP (aFad 2 v2) fun v35 =>
 bindP (aLd σ none v35) fun v36 =>
 callD Try.prog (.fn 57 []) [v36] σ (n + 16 * 4) (kd_catalog_Create7 v34 n σ v33 v35 v3 R v2 v1 v28))) (fun v27 => R (.pan v27) σ n)
def kc_catalog_Create9 (v3 : AV) (R : AEnd → Hp → Nat → Prop) (v2 : AV) (v1 : AV) (r : AEnd) (σ : Hp) (n : Nat) : Prop :=
 onEnd r (fun v5 =>
 bindP (semBin .neq v5 (.sc (.int .i64 0))) fun v7 =>
 COND v7 (
 bindP (aBuild [(.slice none 0 0)] []) fun v8 =>
 bindS (hSt σ 1 v3 v8) σ n fun v9 σ n =>
 bindP (aLd σ (some 1) v3) fun v10 =>
 R (.ret (.tp [v10, v5])) σ n) (
 bindP (aFad 0 v2) fun v11 =>
 bindP (aLd σ none v11) fun v12 =>
 bindP (semBin .neq v12 (.sc (.int .i64 1))) fun v13 =>
 guardP v13 false (aLd σ (some 14) v2) fun v14 =>
 guardK v13 false (fun Kg => CALL Try.prog (.fn 56 []) [v14] σ n (kc_catalog_Create1 Kg R)) σ n fun v15 σ n =>
 guardP v13 false (semBin .neq v15 (.sc (.int .i64 0))) fun v18 =>
 bindP (aPick v13 (.sc (.bool true)) v18) fun v19 =>
 COND v19 (
 bindP (aBuild [(.slice none 0 0)] []) fun v20 =>
 bindS (hSt σ 1 v3 v20) σ n fun v21 σ n =>
 bindP (aLd σ (some 1) v3) fun v22 =>
 R (.ret (.tp [v22, (.sc (.int .i64 1))])) σ n) (
 bindP (aLd σ (some 1) v1) fun v23 =>
 bindP (aFad 1 v2) fun v24 =>
 bindP (aLd σ none v24) fun v25 =>
 CALL Try.prog (.fn 65 []) [v23, v25] σ n (kc_catalog_Create8 v3 R v2 v1)))) (fun v6 => R (.pan v6) σ n)
attribute [go_sem] kc_catalog_Create1 kc_catalog_Create2 kc_catalog_Create3 kc_catalog_Create4 kc_catalog_Create5 lb_catalog_Create6 kd_catalog_Create7 kc_catalog_Create8 kc_catalog_Create9
def sc_catalog_Create : SCode := (.seq (.reg [
   ⟨(some 2), none, (.box (.t 0))⟩,
    ⟨(some 3), none, (.box (.t 1))⟩,
    ⟨(some 4), none, (.alloc [(.slice none 0 0)])⟩,
    ⟨(some 5), none, (.mv (.c (.sc (.int .i64 0))))⟩]) (.seq (.seq (.reg [
   ⟨(some 15), none, (.ld (some 1) (.t 2))⟩,
    ⟨(some 16), none, (.call (.c (.fn 47 [])) [(.t 15)])⟩,
    ⟨(some 6), none, (.mv (.t 16))⟩]) (.seq (.reg [
   ⟨(some 17), none, (.mv (.t 6))⟩,
    ⟨(some 18), none, (.bin .neq (.t 17) (.c (.sc (.int .i64 0))))⟩]) (.cond (.t 18) (.seq (.reg [
   ⟨(some 19), none, (.build [(.slice none 0 0)] [])⟩,
    ⟨(some 20), none, (.mv (.t 6))⟩,
    ⟨none, none, (.st 1 (.t 4) (.t 19))⟩,
    ⟨(some 5), none, (.mv (.t 20))⟩]) .ret) .skip))) (.seq (.seq (.reg [
   ⟨(some 21), none, (.fad 0 (.t 3))⟩,
    ⟨(some 22), none, (.ld none (.t 21))⟩,
    ⟨(some 23), none, (.bin .neq (.t 22) (.c (.sc (.int .i64 1))))⟩,
    ⟨(some 24), none, (.mv (.t 23))⟩,
    ⟨(some 25), (some (24, false)), (.ld (some 14) (.t 3))⟩,
    ⟨(some 26), (some (24, false)), (.call (.c (.fn 56 [])) [(.t 25)])⟩,
    ⟨(some 27), (some (24, false)), (.bin .neq (.t 26) (.c (.sc (.int .i64 0))))⟩,
    ⟨(some 28), none, (.pick (.t 24) (.c (.sc (.bool true))) (.t 27))⟩]) (.cond (.t 28) (.seq (.reg [
   ⟨(some 29), none, (.build [(.slice none 0 0)] [])⟩,
    ⟨none, none, (.st 1 (.t 4) (.t 29))⟩,
    ⟨(some 5), none, (.mv (.c (.sc (.int .i64 1))))⟩]) .ret) .skip)) (.seq (.reg [
   ⟨(some 31), none, (.ld (some 1) (.t 2))⟩,
    ⟨(some 32), none, (.fad 1 (.t 3))⟩,
    ⟨(some 33), none, (.ld none (.t 32))⟩,
    ⟨(some 34), none, (.call (.c (.fn 65 [])) [(.t 31), (.t 33)])⟩,
    ⟨(some 30), none, (.mv (.t 34))⟩,
    ⟨(some 35), none, (.ext (.t 30) 0)⟩,
    ⟨(some 36), none, (.ext (.t 30) 1)⟩,
    ⟨(some 7), none, (.mv (.t 35))⟩,
    ⟨(some 8), none, (.mv (.t 36))⟩]) (.seq (.seq (.reg [
   ⟨(some 37), none, (.mv (.t 8))⟩]) (.cond (.t 37) (.seq (.reg [
   ⟨(some 38), none, (.build [(.slice none 0 0)] [])⟩,
    ⟨none, none, (.st 1 (.t 4) (.t 38))⟩,
    ⟨(some 5), none, (.mv (.c (.sc (.int .i64 6))))⟩]) .ret) .skip)) (.seq (.regD [(⟨(some 39), none, (.fad 1 (.t 3))⟩, []), (⟨(some 40), none, (.ld none (.t 39))⟩, [0]), (⟨(some 41), none, (.fad 2 (.t 3))⟩, []), (⟨(some 42), none, (.ld none (.t 41))⟩, [2]), (⟨(some 43), none, (.call (.c (.fn 57 [])) [(.t 42)])⟩, [3, 2]), (⟨(some 44), none, (.build [(.string ⟨#[]⟩), (.slice none 0 0), (.int .i64 0), (.slice none 0 0)] [(0, (1, (.t 40))), (1, (1, (.t 43)))])⟩, [1, 0, 4, 3, 2]), (⟨(some 9), none, (.alloc [(.string ⟨#[]⟩), (.slice none 0 0), (.int .i64 0), (.slice none 0 0)])⟩, []), (⟨none, none, (.st 4 (.t 9) (.t 44))⟩, [6, 5, 1, 0, 4, 3, 2])]) (.seq (.seq (.reg [
   ⟨(some 45), none, (.fad 1 (.t 9))⟩,
    ⟨(some 46), none, (.ld none (.t 45))⟩,
    ⟨(some 47), none, (.len false (.t 46))⟩,
    ⟨(some 48), none, (.mv (.c (.sc (.int .i64 0))))⟩]) (.block 0 (.loop [49, 11, 10, 12, 62, 5, 48] [49, 50, 51, 52, 11, 10, 54, 55, 56, 57, 53, 58, 59, 12, 13, 60, 61, 62, 63, 5, 64, 48] (.seq (.reg [
   ⟨(some 49), none, (.bin .lss (.t 48) (.t 47))⟩]) (.seq (.cond (.t 49) .skip (.exit 0)) (.seq (.block 1 (.seq (.reg [
   ⟨(some 50), none, (.mv (.t 48))⟩,
    ⟨(some 51), none, (.iad 3 (.t 46) (.t 48))⟩,
    ⟨(some 52), none, (.ld (some 3) (.t 51))⟩,
    ⟨(some 11), none, (.alloc [(.string ⟨#[]⟩), (.int .i64 0), (.bool false)])⟩,
    ⟨(some 10), none, (.mv (.t 50))⟩,
    ⟨none, none, (.st 3 (.t 11) (.t 52))⟩]) (.seq (.reg [
   ⟨(some 54), none, (.ld (some 4) (.t 9))⟩,
    ⟨(some 55), none, (.fad 0 (.t 11))⟩,
    ⟨(some 56), none, (.ld none (.t 55))⟩,
    ⟨(some 57), none, (.call (.c (.fn 66 [])) [(.t 54), (.t 56)])⟩,
    ⟨(some 53), none, (.mv (.t 57))⟩,
    ⟨(some 58), none, (.ext (.t 53) 0)⟩,
    ⟨(some 59), none, (.ext (.t 53) 1)⟩,
    ⟨(some 12), none, (.mv (.t 58))⟩,
    ⟨(some 13), none, (.mv (.t 59))⟩]) (.seq (.reg [
   ⟨(some 60), none, (.mv (.t 12))⟩,
    ⟨(some 61), none, (.mv (.t 10))⟩,
    ⟨(some 62), none, (.bin .neq (.t 60) (.t 61))⟩]) (.cond (.t 62) (.seq (.reg [
   ⟨(some 63), none, (.build [(.slice none 0 0)] [])⟩,
    ⟨none, none, (.st 1 (.t 4) (.t 63))⟩,
    ⟨(some 5), none, (.mv (.c (.sc (.int .i64 6))))⟩]) .ret) .skip))))) (.reg [
   ⟨(some 64), none, (.bin .add (.t 48) (.c (.sc (.int .i64 1))))⟩,
    ⟨(some 48), none, (.mv (.t 64))⟩]))))))) (.seq (.reg [
   ⟨(some 14), none, (.mv (.c (.sc (.int .i64 0))))⟩]) (.seq (.seq (.reg [
   ⟨(some 66), none, (.ld (some 4) (.t 9))⟩,
    ⟨(some 67), none, (.fad 3 (.t 3))⟩,
    ⟨(some 68), none, (.ld none (.t 67))⟩,
    ⟨(some 69), none, (.call (.c (.fn 66 [])) [(.t 66), (.t 68)])⟩,
    ⟨(some 65), none, (.mv (.t 69))⟩,
    ⟨(some 70), none, (.ext (.t 65) 0)⟩,
    ⟨(some 71), none, (.ext (.t 65) 1)⟩,
    ⟨(some 72), none, (.fad 2 (.t 9))⟩,
    ⟨none, none, (.st 1 (.t 72) (.t 70))⟩,
    ⟨(some 14), none, (.mv (.t 71))⟩]) (.seq (.reg [
   ⟨(some 73), none, (.mv (.t 14))⟩,
    ⟨(some 74), none, (.bin .neq (.t 73) (.c (.sc (.int .i64 0))))⟩]) (.cond (.t 74) (.seq (.reg [
   ⟨(some 75), none, (.build [(.slice none 0 0)] [])⟩,
    ⟨(some 76), none, (.mv (.t 14))⟩,
    ⟨none, none, (.st 1 (.t 4) (.t 75))⟩,
    ⟨(some 5), none, (.mv (.t 76))⟩]) .ret) .skip))) (.seq (.seq (.reg [
   ⟨(some 77), none, (.fad 0 (.t 2))⟩,
    ⟨(some 78), none, (.ld none (.t 77))⟩,
    ⟨(some 79), none, (.len false (.t 78))⟩,
    ⟨(some 80), none, (.bin .eql (.t 79) (.c (.sc (.int .i64 8))))⟩]) (.cond (.t 80) (.seq (.reg [
   ⟨(some 81), none, (.build [(.slice none 0 0)] [])⟩,
    ⟨none, none, (.st 1 (.t 4) (.t 81))⟩,
    ⟨(some 5), none, (.mv (.c (.sc (.int .i64 51))))⟩]) .ret) .skip)) (.seq (.reg [
   ⟨(some 82), none, (.fad 1 (.t 9))⟩,
    ⟨(some 83), none, (.ld none (.t 82))⟩,
    ⟨(some 84), none, (.fad 2 (.t 9))⟩,
    ⟨(some 85), none, (.ld none (.t 84))⟩,
    ⟨(some 86), none, (.iad 3 (.t 83) (.t 85))⟩,
    ⟨(some 87), none, (.fad 2 (.t 86))⟩,
    ⟨none, none, (.st 1 (.t 87) (.c (.sc (.bool true))))⟩]) (.seq (.reg [
   ⟨(some 88), none, (.ld (some 1) (.t 2))⟩,
    ⟨(some 89), none, (.call (.c (.fn 67 [])) [(.t 88)])⟩,
    ⟨none, none, (.st 1 (.t 2) (.t 89))⟩]) (.seq (.reg [
   ⟨(some 90), none, (.fad 0 (.t 2))⟩,
    ⟨(some 91), none, (.ld none (.t 90))⟩,
    ⟨(some 92), none, (.mv (.t 7))⟩,
    ⟨(some 93), none, (.ld (some 4) (.t 9))⟩,
    ⟨(some 94), none, (.bsl 4 [(.string ⟨#[]⟩), (.slice none 0 0), (.int .i64 0), (.slice none 0 0)] 1 [(0, (.t 93))])⟩,
    ⟨(some 95), none, (.call (.c (.fn 68 [])) [(.t 91), (.t 92), (.t 94)])⟩,
    ⟨(some 96), none, (.fad 0 (.t 2))⟩,
    ⟨none, none, (.st 1 (.t 96) (.t 95))⟩]) (.seq (.reg [
   ⟨(some 97), none, (.ld (some 1) (.t 2))⟩,
    ⟨none, none, (.st 1 (.t 4) (.t 97))⟩,
    ⟨(some 5), none, (.mv (.c (.sc (.int .i64 0))))⟩]) .ret))))))))))))))
def sh_catalog_Create (a0 a1 : AV) (σ : Hp) (n : Nat) (R : AEnd → Hp → Nat → Prop) : Prop :=
 bindS (hBox n a0) σ n fun v1 σ n =>
 bindS (hBox n a1) σ n fun v2 σ n =>
 bindS (hAlloc n [(.slice none 0 0)]) σ n fun v3 σ n =>
 bindP (aLd σ (some 1) v1) fun v4 =>
 CALL Try.prog (.fn 47 []) [v4] σ n (kc_catalog_Create9 v3 R v2 v1)
theorem se_catalog_Create (a0 a1 : AV) (σ : Hp) (n : Nat) (R : AEnd → Hp → Nat → Prop) : sh_catalog_Create a0 a1 σ n R = swp Try.prog sc_catalog_Create (retQ [(.c 4 (some 1)), (.t 5)] R) (entry [a0, a1]) σ n := by kernel_rfl
theorem by_catalog_Create {a0 a1 : AV} {σ : Hp} {n : Nat} {R : AEnd → Hp → Nat → Prop} (h : sh_catalog_Create a0 a1 σ n R) : ConH Try.prog 23 [a0, a1] σ n R := by
  rw [se_catalog_Create] at h
  exact conH_of [(.c 4 (some 1)), (.t 5)] (fn := Try.f23) rfl [0, 1, 18, 6, 28, 8, 37, 47, 49, 46, 11, 12, 10, 62, 48, 3, 74, 14, 80, 7, 9, 2, 4, 5] (by kernel_rfl) (by kernel_rfl) (by kernel_rfl) (by kernel_rfl) h
/-- switchback/switchbacklaw06.alive -/
def kc_law06_alive1 (v9 : AV) (R : AEnd → Hp → Nat → Prop) (r : AEnd) (σ : Hp) (n : Nat) : Prop :=
 onEnd r (fun v11 =>
 bindP (semBin .eql v11 (.sc (.int .i64 0))) fun v13 =>
 guardP v13 true (aFad 0 v9) fun v14 =>
 guardP v13 true (aLd σ none v14) fun v15 =>
 guardP v13 true (aLen false v15) fun v16 =>
 guardP v13 true (semBin .eql v16 (.sc (.int .i64 1))) fun v17 =>
 bindP (aPick v13 v17 (.sc (.bool false))) fun v18 =>
 guardP v18 true (aFad 0 v9) fun v19 =>
 guardP v18 true (aLd σ none v19) fun v20 =>
 guardP v18 true (aIad 4 v20 (.sc (.int .i64 0))) fun v21 =>
 guardP v18 true (aFad 1 v21) fun v22 =>
 guardP v18 true (aLd σ none v22) fun v23 =>
 guardP v18 true (aIad 3 v23 (.sc (.int .i64 0))) fun v24 =>
 guardP v18 true (aFad 2 v24) fun v25 =>
 guardP v18 true (aLd σ none v25) fun v26 =>
 bindP (aPick v18 v26 (.sc (.bool false))) fun v27 =>
 R (.ret v27) σ n) (fun v12 => R (.pan v12) σ n)
def kc_law06_alive2 (R : AEnd → Hp → Nat → Prop) (r : AEnd) (σ : Hp) (n : Nat) : Prop :=
 onEnd r (fun v5 =>
 bindP (aExt v5 0) fun v7 =>
 bindP (aExt v5 1) fun v8 =>
 bindS (hAlloc n [(.slice none 0 0)]) σ n fun v9 σ n =>
 bindS (hSt σ 1 v9 v7) σ n fun v10 σ n =>
 CALL Try.prog (.fn 39 []) [v8] σ n (kc_law06_alive1 v9 R)) (fun v6 => R (.pan v6) σ n)
attribute [go_sem] kc_law06_alive1 kc_law06_alive2
def sc_law06_alive : SCode := (.seq (.reg [
   ⟨(some 0), none, (.mv (.c (.sc (.bool false))))⟩]) (.seq (.reg [
   ⟨(some 4), none, (.build [(.slice none 0 0)] [])⟩,
    ⟨(some 5), none, (.build [(.string ⟨#[]⟩), (.int .i64 0), (.bool false)] [(0, (1, (.c (.s [97])))), (1, (1, (.c (.sc (.int .i64 1)))))])⟩,
    ⟨(some 6), none, (.bsl 3 [(.string ⟨#[]⟩), (.int .i64 0), (.bool false)] 1 [(0, (.t 5))])⟩,
    ⟨(some 7), none, (.build [(.int .i64 0), (.string ⟨#[]⟩), (.slice none 0 0), (.string ⟨#[]⟩), (.string ⟨#[]⟩), (.slice none 0 0), (.slice none 0 0), (.slice none 0 0), (.string ⟨#[]⟩), (.slice none 0 0), (.slice none 0 0), (.slice none 0 0), (.slice none 0 0), (.int .i64 0)] [(0, (1, (.c (.sc (.int .i64 1))))), (1, (1, (.c (.s [116])))), (2, (1, (.t 6))), (3, (1, (.c (.s [97]))))])⟩,
    ⟨(some 8), none, (.call (.c (.fn 23 [])) [(.t 4), (.t 7)])⟩,
    ⟨(some 3), none, (.mv (.t 8))⟩,
    ⟨(some 9), none, (.ext (.t 3) 0)⟩,
    ⟨(some 10), none, (.ext (.t 3) 1)⟩,
    ⟨(some 1), none, (.alloc [(.slice none 0 0)])⟩,
    ⟨none, none, (.st 1 (.t 1) (.t 9))⟩,
    ⟨(some 2), none, (.mv (.t 10))⟩]) (.seq (.reg [
   ⟨(some 11), none, (.mv (.t 2))⟩,
    ⟨(some 12), none, (.call (.c (.fn 39 [])) [(.t 11)])⟩,
    ⟨(some 13), none, (.bin .eql (.t 12) (.c (.sc (.int .i64 0))))⟩,
    ⟨(some 14), none, (.mv (.t 13))⟩,
    ⟨(some 15), (some (14, true)), (.fad 0 (.t 1))⟩,
    ⟨(some 16), (some (14, true)), (.ld none (.t 15))⟩,
    ⟨(some 17), (some (14, true)), (.len false (.t 16))⟩,
    ⟨(some 18), (some (14, true)), (.bin .eql (.t 17) (.c (.sc (.int .i64 1))))⟩,
    ⟨(some 19), none, (.pick (.t 14) (.t 18) (.c (.sc (.bool false))))⟩,
    ⟨(some 20), none, (.mv (.t 19))⟩,
    ⟨(some 21), (some (20, true)), (.fad 0 (.t 1))⟩,
    ⟨(some 22), (some (20, true)), (.ld none (.t 21))⟩,
    ⟨(some 23), (some (20, true)), (.iad 4 (.t 22) (.c (.sc (.int .i64 0))))⟩,
    ⟨(some 24), (some (20, true)), (.fad 1 (.t 23))⟩,
    ⟨(some 25), (some (20, true)), (.ld none (.t 24))⟩,
    ⟨(some 26), (some (20, true)), (.iad 3 (.t 25) (.c (.sc (.int .i64 0))))⟩,
    ⟨(some 27), (some (20, true)), (.fad 2 (.t 26))⟩,
    ⟨(some 28), (some (20, true)), (.ld none (.t 27))⟩,
    ⟨(some 29), none, (.pick (.t 20) (.t 28) (.c (.sc (.bool false))))⟩,
    ⟨(some 0), none, (.mv (.t 29))⟩]) .ret)))
def sh_law06_alive (σ : Hp) (n : Nat) (R : AEnd → Hp → Nat → Prop) : Prop :=
 bindP (aBuild [(.slice none 0 0)] []) fun v1 =>
 bindP (aBuild [(.string ⟨#[]⟩), (.int .i64 0), (.bool false)] [(0, 1, (.s [97])), (1, 1, (.sc (.int .i64 1)))]) fun v2 =>
 bindS (hBsl σ n 3 [(.string ⟨#[]⟩), (.int .i64 0), (.bool false)] 1 [(0, v2)]) σ n fun v3 σ n =>
 bindP (aBuild [(.int .i64 0), (.string ⟨#[]⟩), (.slice none 0 0), (.string ⟨#[]⟩), (.string ⟨#[]⟩), (.slice none 0 0), (.slice none 0 0), (.slice none 0 0), (.string ⟨#[]⟩), (.slice none 0 0), (.slice none 0 0), (.slice none 0 0), (.slice none 0 0), (.int .i64 0)] [(0, 1, (.sc (.int .i64 1))), (1, 1, (.s [116])), (2, 1, v3), (3, 1, (.s [97]))]) fun v4 =>
 CALL Try.prog (.fn 23 []) [v1, v4] σ n (kc_law06_alive2 R)
theorem se_law06_alive (σ : Hp) (n : Nat) (R : AEnd → Hp → Nat → Prop) : sh_law06_alive σ n R = swp Try.prog sc_law06_alive (retQ [(.t 0)] R) (entry []) σ n := by kernel_rfl
theorem by_law06_alive {σ : Hp} {n : Nat} {R : AEnd → Hp → Nat → Prop} (h : sh_law06_alive σ n R) : ConH Try.prog 35 [] σ n R := by
  rw [se_law06_alive] at h
  exact conH_of [(.t 0)] (fn := Try.f35) rfl [2, 1, 0] (by kernel_rfl) (by kernel_rfl) (by kernel_rfl) (by kernel_rfl) h
/-- switchback/switchbacklaw06.num -/
def sc_law06_num : SCode := (.seq (.reg [
   ⟨(some 2), none, (.mv (.c (.sc (.int .i64 0))))⟩]) (.seq (.reg [
   ⟨(some 3), none, (.mv (.t 0))⟩,
    ⟨(some 2), none, (.mv (.t 3))⟩]) .ret))
def sh_law06_num (a0 : AV) (σ : Hp) (n : Nat) (R : AEnd → Hp → Nat → Prop) : Prop :=
 R (.ret a0) σ n
theorem se_law06_num (a0 : AV) (σ : Hp) (n : Nat) (R : AEnd → Hp → Nat → Prop) : sh_law06_num a0 σ n R = swp Try.prog sc_law06_num (retQ [(.t 2)] R) (entry [a0]) σ n := by kernel_rfl
theorem by_law06_num {a0 : AV} {σ : Hp} {n : Nat} {R : AEnd → Hp → Nat → Prop} (h : sh_law06_num a0 σ n R) : ConH Try.prog 39 [a0] σ n R := by
  rw [se_law06_num] at h
  exact conH_of [(.t 2)] (fn := Try.f39) rfl [0, 2] (by kernel_rfl) (by kernel_rfl) (by kernel_rfl) (by kernel_rfl) h
/-- switchback/switchbacklaw06.Unlike -/
def kd_law06_Unlike1 (v15 : AV) (v20 : AV) (v18 : AV) (v23 : AV) (n : Nat) (σ : Hp) (R : AEnd → Hp → Nat → Prop) (s10 : List AV) (K10 : List AV → Hp → Nat → Prop) (v14 : AV) (r : AEnd) (w25 : Wr) (d25 : List Nat) : Prop :=
 onEnd r (fun v25 =>
 bindP (semBin .neq v25 (.sc (.int .i64 0))) fun v27 =>
 Apt (names []) (rdA v15) (names []) (rdA v20) ∧
 Apt (names []) (rdA v18) (names []) (rdA v20) ∧
 Apt (names []) (rdA v15) (names []) (rdA v23) ∧
 Apt (names []) (rdA v18) (names []) (rdA v23) ∧
 ∀ n_, n + 16 * 12 ≤ n_ → (fun n => (fun σ => COND v27 (
 R (.ret (.sc (.int .i64 1))) σ n) (
 bindP (semBin .add (s10.getD 3 .any) (.sc (.int .i64 1))) fun v28 =>
 K10 [v14, v27, (s10.getD 2 .any), v28] σ n)) (applyW σ w25)) n_) (fun v26 => Apt (names []) (rdA v15) (names []) (rdA v20) ∧
 Apt (names []) (rdA v18) (names []) (rdA v20) ∧
 Apt (names []) (rdA v15) (names []) (rdA v23) ∧
 Apt (names []) (rdA v18) (names []) (rdA v23) ∧
 ∀ (fr_ : Regs) σ n, R (.pan v26) σ n)
def lb_law06_Unlike2 (v1 : AV) (v2 : AV) (R : AEnd → Hp → Nat → Prop) (K10 : List AV → Hp → Nat → Prop) (s10 : List AV) (σ : Hp) (n : Nat) : Prop :=
 bindP (aFad 0 v1) fun v11 =>
 bindP (aLd σ none v11) fun v12 =>
 bindP (aLen false v12) fun v13 => bnd σ v12 →
 bindP (semBin .lss (s10.getD 3 .any) v13) fun v14 =>
 COND v14 (
 bindP (aFad 0 v1) fun v15 =>
 bindP (aLd σ none v15) fun v16 =>
 bindP (aIad 4 v16 (s10.getD 3 .any)) fun v18 =>
 bindP (aLd σ (some 4) v18) fun v19 =>
 bindP (aFad 0 v2) fun v20 =>
 bindP (aLd σ none v20) fun v21 =>
 bindP (aIad 4 v21 (s10.getD 3 .any)) fun v23 =>
 bindP (aLd σ (some 4) v23) fun v24 =>
 callD Try.prog (.fn 44 []) [v19, v24] σ (n + 16 * 10) (kd_law06_Unlike1 v15 v20 v18 v23 n σ R s10 K10 v14)) (
 R (.ret (.sc (.int .i64 0))) σ n)
attribute [go_sem] kd_law06_Unlike1 lb_law06_Unlike2
def sc_law06_Unlike : SCode := (.seq (.reg [
   ⟨(some 2), none, (.box (.t 0))⟩,
    ⟨(some 3), none, (.box (.t 1))⟩,
    ⟨(some 4), none, (.mv (.c (.sc (.int .i64 0))))⟩]) (.seq (.seq (.reg [
   ⟨(some 6), none, (.fad 0 (.t 2))⟩,
    ⟨(some 7), none, (.ld none (.t 6))⟩,
    ⟨(some 8), none, (.len false (.t 7))⟩,
    ⟨(some 9), none, (.fad 0 (.t 3))⟩,
    ⟨(some 10), none, (.ld none (.t 9))⟩,
    ⟨(some 11), none, (.len false (.t 10))⟩,
    ⟨(some 12), none, (.bin .neq (.t 8) (.t 11))⟩]) (.cond (.t 12) (.seq (.reg [
   ⟨(some 4), none, (.mv (.c (.sc (.int .i64 1))))⟩]) .ret) .skip)) (.seq (.seq (.reg [
   ⟨(some 5), none, (.mv (.c (.sc (.int .i64 0))))⟩]) (.block 0 (.loop [17, 31, 4, 5] [13, 14, 15, 16, 17, 20, 21, 22, 23, 24, 25, 26, 27, 28, 29, 30, 31, 4, 18, 19, 5] (.seq (.seq (.reg [
   ⟨(some 13), none, (.mv (.t 5))⟩,
    ⟨(some 14), none, (.fad 0 (.t 2))⟩,
    ⟨(some 15), none, (.ld none (.t 14))⟩,
    ⟨(some 16), none, (.len false (.t 15))⟩,
    ⟨(some 17), none, (.bin .lss (.t 13) (.t 16))⟩]) (.cond (.t 17) .skip (.exit 0))) (.seq (.block 1 (.seq (.regD [(⟨(some 20), none, (.fad 0 (.t 2))⟩, []), (⟨(some 21), none, (.ld none (.t 20))⟩, [0]), (⟨(some 22), none, (.mv (.t 5))⟩, []), (⟨(some 23), none, (.iad 4 (.t 21) (.t 22))⟩, [1, 0, 2]), (⟨(some 24), none, (.ld (some 4) (.t 23))⟩, [3, 1, 0, 2]), (⟨(some 25), none, (.fad 0 (.t 3))⟩, []), (⟨(some 26), none, (.ld none (.t 25))⟩, [5]), (⟨(some 27), none, (.mv (.t 5))⟩, []), (⟨(some 28), none, (.iad 4 (.t 26) (.t 27))⟩, [6, 5, 7]), (⟨(some 29), none, (.ld (some 4) (.t 28))⟩, [8, 6, 5, 7]), (⟨(some 30), none, (.call (.c (.fn 44 [])) [(.t 24), (.t 29)])⟩, [4, 3, 1, 0, 2, 9, 8, 6, 5, 7]), (⟨(some 31), none, (.bin .neq (.t 30) (.c (.sc (.int .i64 0))))⟩, [10, 4, 3, 1, 0, 2, 9, 8, 6, 5, 7])]) (.cond (.t 31) (.seq (.reg [
   ⟨(some 4), none, (.mv (.c (.sc (.int .i64 1))))⟩]) .ret) .skip))) (.reg [
   ⟨(some 18), none, (.mv (.t 5))⟩,
    ⟨(some 19), none, (.bin .add (.t 18) (.c (.sc (.int .i64 1))))⟩,
    ⟨(some 5), none, (.mv (.t 19))⟩])))))) (.seq (.reg [
   ⟨(some 4), none, (.mv (.c (.sc (.int .i64 0))))⟩]) .ret))))
def sh_law06_Unlike (a0 a1 : AV) (σ : Hp) (n : Nat) (R : AEnd → Hp → Nat → Prop) : Prop :=
 bindS (hBox n a0) σ n fun v1 σ n =>
 bindS (hBox n a1) σ n fun v2 σ n =>
 bindP (aFad 0 v1) fun v3 =>
 bindP (aLd σ none v3) fun v4 =>
 bindP (aLen false v4) fun v5 => bnd σ v4 →
 bindP (aFad 0 v2) fun v6 =>
 bindP (aLd σ none v6) fun v7 =>
 bindP (aLen false v7) fun v8 => bnd σ v7 →
 bindP (semBin .neq v5 v8) fun v9 =>
 COND v9 (
 R (.ret (.sc (.int .i64 1))) σ n) (
 LOOP (lb_law06_Unlike2 v1 v2 R) [(.tp []), (.tp []), (.sc (.int .i64 0)), (.sc (.int .i64 0))] σ n)
theorem se_law06_Unlike (a0 a1 : AV) (σ : Hp) (n : Nat) (R : AEnd → Hp → Nat → Prop) : sh_law06_Unlike a0 a1 σ n R = swp Try.prog sc_law06_Unlike (retQ [(.t 4)] R) (entry [a0, a1]) σ n := by kernel_rfl
theorem by_law06_Unlike {a0 a1 : AV} {σ : Hp} {n : Nat} {R : AEnd → Hp → Nat → Prop} (h : sh_law06_Unlike a0 a1 σ n R) : ConH Try.prog 40 [a0, a1] σ n R := by
  rw [se_law06_Unlike] at h
  exact conH_of [(.t 4)] (fn := Try.f40) rfl [0, 1, 12, 17, 2, 3, 31, 5, 4] (by kernel_rfl) (by kernel_rfl) (by kernel_rfl) (by kernel_rfl) h
/-- switchback/catalog.Add -/
def kc_catalog_Add1 (Kg : AV → Hp → Nat → Prop) (R : AEnd → Hp → Nat → Prop) (r : AEnd) (σ : Hp) (n : Nat) : Prop :=
 onEnd r (fun v16 =>
 Kg v16 σ n) (fun v17 => R (.pan v17) σ n)
def kc_catalog_Add2 (v3 : AV) (R : AEnd → Hp → Nat → Prop) (s55 : List AV) (K55 : List AV → Hp → Nat → Prop) (v56 : AV) (v59 : AV) (r : AEnd) (σ : Hp) (n : Nat) : Prop :=
 onEnd r (fun v63 =>
 COND v63 (
 bindP (aBuild [(.slice none 0 0)] []) fun v65 =>
 bindS (hSt σ 1 v3 v65) σ n fun v66 σ n =>
 bindP (aLd σ (some 1) v3) fun v67 =>
 R (.ret (.tp [v67, (.sc (.int .i64 6))])) σ n) (
 bindP (semBin .add (s55.getD 4 .any) (.sc (.int .i64 1))) fun v68 =>
 K55 [v56, v59, v63, (s55.getD 3 .any), v68] σ n)) (fun v64 => R (.pan v64) σ n)
def kc_catalog_Add3 (v1 : AV) (v28 : AV) (v2 : AV) (v44 : AV) (v3 : AV) (R : AEnd → Hp → Nat → Prop) (r : AEnd) (σ : Hp) (n : Nat) : Prop :=
 onEnd r (fun v80 =>
 bindS (hSt σ 1 v1 v80) σ n fun v82 σ n =>
 bindP (aFad 0 v1) fun v83 =>
 bindP (aLd σ none v83) fun v84 =>
 bindP (aFad 0 v1) fun v86 =>
 bindP (aLd σ none v86) fun v87 =>
 bindP (aIad 4 v87 v28) fun v89 =>
 bindP (aFad 3 v89) fun v90 =>
 bindP (aLd σ none v90) fun v91 =>
 bindP (aFad 4 v2) fun v92 =>
 bindP (aLd σ none v92) fun v93 =>
 bindP (aBuild [(.string ⟨#[]⟩), (.int .i64 0)] [(0, 1, v93), (1, 1, v44)]) fun v95 =>
 bindH (hBsl σ (n + 16 * 13) 2 [(.string ⟨#[]⟩), (.int .i64 0)] 1 [(0, v95)]) fun v96 w96 =>
 bindH (hApp (applyW σ w96) (n + 16 * 14) 2 24 v91 v96) fun v97 w97 =>
 bindP (aIad 4 v84 v28) fun v98 =>
 bindP (aFad 3 v98) fun v99 =>
 bindH (hSt (applyW (applyW σ w96) w97) 1 v99 v97) fun v100 w100 =>
 Apt (names []) (rdA v83) (names []) (rdA v86) ∧
 Apt (names []) (rdA v83) (names []) (rdA v90) ∧
 Apt (names []) (rdA v83) (names []) (rdA v92) ∧
 Apt (names []) (rdA v86) (names []) (rdA v92) ∧
 Apt (names []) (rdA v90) (names []) (rdA v92) ∧
 Apt (names []) (rdA v83) (names w96) (names w96) ∧
 Apt (names []) (rdA v86) (names w96) (names w96) ∧
 Apt (names []) (rdA v90) (names w96) (names w96) ∧
 Apt (names []) (rdA v83) (names w97) (rdY v91 ++ (rdY v96 ++ names w97)) ∧
 ∀ n_, n + 16 * 18 ≤ n_ → (fun n => (fun σ => bindP (aLd σ (some 1) v1) fun v101 =>
 bindS (hSt σ 1 v3 v101) σ n fun v102 σ n =>
 bindP (aLd σ (some 1) v3) fun v103 =>
 R (.ret (.tp [v103, (.sc (.int .i64 0))])) σ n) (applyW (applyW (applyW σ w96) w97) w100)) n_) (fun v81 => R (.pan v81) σ n)
def lb_catalog_Add4 (v54 : AV) (v53 : AV) (v2 : AV) (v3 : AV) (R : AEnd → Hp → Nat → Prop) (v1 : AV) (v28 : AV) (v44 : AV) (K55 : List AV → Hp → Nat → Prop) (s55 : List AV) (σ : Hp) (n : Nat) : Prop :=
 bindP (semBin .lss (s55.getD 4 .any) v54) fun v56 =>
 COND v56 (
 bindP (aIad 4 v53 (s55.getD 4 .any)) fun v57 =>
 bindP (aLd σ (some 4) v57) fun v58 =>
 bindS (hAlloc n [(.string ⟨#[]⟩), (.slice none 0 0), (.int .i64 0), (.slice none 0 0)]) σ n fun v59 σ n =>
 bindS (hSt σ 4 v59 v58) σ n fun v60 σ n =>
 bindP (aFad 3 v59) fun v61 =>
 bindP (aLd σ none v61) fun v62 =>
 CALL Try.prog (.fn 86 []) [v62, (.fn 87 [v2])] σ n (kc_catalog_Add2 v3 R s55 K55 v56 v59)) (
 bindP (aFad 0 v1) fun v69 =>
 bindP (aLd σ none v69) fun v70 =>
 bindP (aIad 4 v70 v28) fun v71 =>
 bindP (aFad 3 v71) fun v72 =>
 bindP (aLd σ none v72) fun v73 =>
 bindP (aLen false v73) fun v74 => bnd σ v73 →
 bindP (semBin .eql v74 (.sc (.int .i64 4))) fun v75 =>
 COND v75 (
 bindP (aBuild [(.slice none 0 0)] []) fun v76 =>
 bindS (hSt σ 1 v3 v76) σ n fun v77 σ n =>
 bindP (aLd σ (some 1) v3) fun v78 =>
 R (.ret (.tp [v78, (.sc (.int .i64 51))])) σ n) (
 bindP (aLd σ (some 1) v1) fun v79 =>
 CALL Try.prog (.fn 67 []) [v79] σ n (kc_catalog_Add3 v1 v28 v2 v44 v3 R)))
def kd_catalog_Add5 (v34 : AV) (v39 : AV) (v37 : AV) (n : Nat) (σ : Hp) (v3 : AV) (R : AEnd → Hp → Nat → Prop) (v1 : AV) (v2 : AV) (v28 : AV) (r : AEnd) (w41 : Wr) (d41 : List Nat) : Prop :=
 onEnd r (fun v41 =>
 bindP (aExt v41 0) fun v44 =>
 bindP (aExt v41 1) fun v45 =>
 Apt (names []) (rdA v34) (names []) (rdA v39) ∧
 Apt (names []) (rdA v37) (names []) (rdA v39) ∧
 ∀ n_, n + 16 * 13 ≤ n_ → (fun n => (fun σ => bindP (semBin .neq v45 (.sc (.int .i64 0))) fun v48 =>
 COND v48 (
 bindP (aBuild [(.slice none 0 0)] []) fun v49 =>
 bindS (hSt σ 1 v3 v49) σ n fun v50 σ n =>
 bindP (aLd σ (some 1) v3) fun v51 =>
 R (.ret (.tp [v51, v45])) σ n) (
 bindP (aFad 0 v1) fun v52 =>
 bindP (aLd σ none v52) fun v53 =>
 bindP (aLen false v53) fun v54 => bnd σ v53 →
 LOOP (lb_catalog_Add4 v54 v53 v2 v3 R v1 v28 v44) [(.tp []), (.tp []), (.tp []), (.sc (.int .i64 0)), (.sc (.int .i64 0))] σ n)) (applyW σ w41)) n_) (fun v42 => Apt (names []) (rdA v34) (names []) (rdA v39) ∧
 Apt (names []) (rdA v37) (names []) (rdA v39) ∧
 ∀ (fr_ : Regs) σ n, R (.pan v42) σ n)
def kc_catalog_Add6 (v3 : AV) (R : AEnd → Hp → Nat → Prop) (v1 : AV) (v2 : AV) (r : AEnd) (σ : Hp) (n : Nat) : Prop :=
 onEnd r (fun v26 =>
 bindP (aExt v26 0) fun v28 =>
 bindP (aExt v26 1) fun v29 =>
 bindP (aUn .not v29) fun v30 =>
 COND v30 (
 bindP (aBuild [(.slice none 0 0)] []) fun v31 =>
 bindS (hSt σ 1 v3 v31) σ n fun v32 σ n =>
 bindP (aLd σ (some 1) v3) fun v33 =>
 R (.ret (.tp [v33, (.sc (.int .i64 93))])) σ n) (
 bindP (aFad 0 v1) fun v34 =>
 bindP (aLd σ none v34) fun v35 =>
 bindP (aIad 4 v35 v28) fun v37 =>
 bindP (aLd σ (some 4) v37) fun v38 =>
 bindP (aFad 3 v2) fun v39 =>
 bindP (aLd σ none v39) fun v40 =>
 callD Try.prog (.fn 66 []) [v38, v40] σ (n + 16 * 7) (kd_catalog_Add5 v34 v39 v37 n σ v3 R v1 v2 v28))) (fun v27 => R (.pan v27) σ n)
def kc_catalog_Add7 (v3 : AV) (R : AEnd → Hp → Nat → Prop) (v2 : AV) (v1 : AV) (r : AEnd) (σ : Hp) (n : Nat) : Prop :=
 onEnd r (fun v5 =>
 bindP (semBin .neq v5 (.sc (.int .i64 0))) fun v7 =>
 COND v7 (
 bindP (aBuild [(.slice none 0 0)] []) fun v8 =>
 bindS (hSt σ 1 v3 v8) σ n fun v9 σ n =>
 bindP (aLd σ (some 1) v3) fun v10 =>
 R (.ret (.tp [v10, v5])) σ n) (
 bindP (aFad 0 v2) fun v11 =>
 bindP (aLd σ none v11) fun v12 =>
 bindP (semBin .neq v12 (.sc (.int .i64 2))) fun v13 =>
 guardP v13 false (aLd σ (some 14) v2) fun v14 =>
 guardK v13 false (fun Kg => CALL Try.prog (.fn 56 []) [v14] σ n (kc_catalog_Add1 Kg R)) σ n fun v15 σ n =>
 guardP v13 false (semBin .neq v15 (.sc (.int .i64 0))) fun v18 =>
 bindP (aPick v13 (.sc (.bool true)) v18) fun v19 =>
 COND v19 (
 bindP (aBuild [(.slice none 0 0)] []) fun v20 =>
 bindS (hSt σ 1 v3 v20) σ n fun v21 σ n =>
 bindP (aLd σ (some 1) v3) fun v22 =>
 R (.ret (.tp [v22, (.sc (.int .i64 1))])) σ n) (
 bindP (aLd σ (some 1) v1) fun v23 =>
 bindP (aFad 1 v2) fun v24 =>
 bindP (aLd σ none v24) fun v25 =>
 CALL Try.prog (.fn 65 []) [v23, v25] σ n (kc_catalog_Add6 v3 R v1 v2)))) (fun v6 => R (.pan v6) σ n)
attribute [go_sem] kc_catalog_Add1 kc_catalog_Add2 kc_catalog_Add3 lb_catalog_Add4 kd_catalog_Add5 kc_catalog_Add6 kc_catalog_Add7
def sc_catalog_Add : SCode := (.seq (.reg [
   ⟨(some 2), none, (.box (.t 0))⟩,
    ⟨(some 3), none, (.box (.t 1))⟩,
    ⟨(some 4), none, (.alloc [(.slice none 0 0)])⟩,
    ⟨(some 5), none, (.mv (.c (.sc (.int .i64 0))))⟩]) (.seq (.seq (.reg [
   ⟨(some 13), none, (.ld (some 1) (.t 2))⟩,
    ⟨(some 14), none, (.call (.c (.fn 47 [])) [(.t 13)])⟩,
    ⟨(some 6), none, (.mv (.t 14))⟩]) (.seq (.reg [
   ⟨(some 15), none, (.mv (.t 6))⟩,
    ⟨(some 16), none, (.bin .neq (.t 15) (.c (.sc (.int .i64 0))))⟩]) (.cond (.t 16) (.seq (.reg [
   ⟨(some 17), none, (.build [(.slice none 0 0)] [])⟩,
    ⟨(some 18), none, (.mv (.t 6))⟩,
    ⟨none, none, (.st 1 (.t 4) (.t 17))⟩,
    ⟨(some 5), none, (.mv (.t 18))⟩]) .ret) .skip))) (.seq (.seq (.reg [
   ⟨(some 19), none, (.fad 0 (.t 3))⟩,
    ⟨(some 20), none, (.ld none (.t 19))⟩,
    ⟨(some 21), none, (.bin .neq (.t 20) (.c (.sc (.int .i64 2))))⟩,
    ⟨(some 22), none, (.mv (.t 21))⟩,
    ⟨(some 23), (some (22, false)), (.ld (some 14) (.t 3))⟩,
    ⟨(some 24), (some (22, false)), (.call (.c (.fn 56 [])) [(.t 23)])⟩,
    ⟨(some 25), (some (22, false)), (.bin .neq (.t 24) (.c (.sc (.int .i64 0))))⟩,
    ⟨(some 26), none, (.pick (.t 22) (.c (.sc (.bool true))) (.t 25))⟩]) (.cond (.t 26) (.seq (.reg [
   ⟨(some 27), none, (.build [(.slice none 0 0)] [])⟩,
    ⟨none, none, (.st 1 (.t 4) (.t 27))⟩,
    ⟨(some 5), none, (.mv (.c (.sc (.int .i64 1))))⟩]) .ret) .skip)) (.seq (.reg [
   ⟨(some 29), none, (.ld (some 1) (.t 2))⟩,
    ⟨(some 30), none, (.fad 1 (.t 3))⟩,
    ⟨(some 31), none, (.ld none (.t 30))⟩,
    ⟨(some 32), none, (.call (.c (.fn 65 [])) [(.t 29), (.t 31)])⟩,
    ⟨(some 28), none, (.mv (.t 32))⟩,
    ⟨(some 33), none, (.ext (.t 28) 0)⟩,
    ⟨(some 34), none, (.ext (.t 28) 1)⟩,
    ⟨(some 7), none, (.mv (.t 33))⟩,
    ⟨(some 8), none, (.mv (.t 34))⟩]) (.seq (.seq (.reg [
   ⟨(some 35), none, (.mv (.t 8))⟩,
    ⟨(some 36), none, (.un .not (.t 35))⟩]) (.cond (.t 36) (.seq (.reg [
   ⟨(some 37), none, (.build [(.slice none 0 0)] [])⟩,
    ⟨none, none, (.st 1 (.t 4) (.t 37))⟩,
    ⟨(some 5), none, (.mv (.c (.sc (.int .i64 93))))⟩]) .ret) .skip)) (.seq (.regD [(⟨(some 39), none, (.fad 0 (.t 2))⟩, []), (⟨(some 40), none, (.ld none (.t 39))⟩, [0]), (⟨(some 41), none, (.mv (.t 7))⟩, []), (⟨(some 42), none, (.iad 4 (.t 40) (.t 41))⟩, [1, 0, 2]), (⟨(some 43), none, (.ld (some 4) (.t 42))⟩, [3, 1, 0, 2]), (⟨(some 44), none, (.fad 3 (.t 3))⟩, []), (⟨(some 45), none, (.ld none (.t 44))⟩, [5]), (⟨(some 46), none, (.call (.c (.fn 66 [])) [(.t 43), (.t 45)])⟩, [4, 3, 1, 0, 2, 6, 5]), (⟨(some 38), none, (.mv (.t 46))⟩, [7, 4, 3, 1, 0, 2, 6, 5]), (⟨(some 47), none, (.ext (.t 38) 0)⟩, [8, 7, 4, 3, 1, 0, 2, 6, 5]), (⟨(some 48), none, (.ext (.t 38) 1)⟩, [8, 7, 4, 3, 1, 0, 2, 6, 5]), (⟨(some 9), none, (.mv (.t 47))⟩, [9, 8, 7, 4, 3, 1, 0, 2, 6, 5]), (⟨(some 10), none, (.mv (.t 48))⟩, [10, 8, 7, 4, 3, 1, 0, 2, 6, 5, 11, 9])]) (.seq (.seq (.reg [
   ⟨(some 49), none, (.mv (.t 10))⟩,
    ⟨(some 50), none, (.bin .neq (.t 49) (.c (.sc (.int .i64 0))))⟩]) (.cond (.t 50) (.seq (.reg [
   ⟨(some 51), none, (.build [(.slice none 0 0)] [])⟩,
    ⟨(some 52), none, (.mv (.t 10))⟩,
    ⟨none, none, (.st 1 (.t 4) (.t 51))⟩,
    ⟨(some 5), none, (.mv (.t 52))⟩]) .ret) .skip)) (.seq (.seq (.reg [
   ⟨(some 53), none, (.fad 0 (.t 2))⟩,
    ⟨(some 54), none, (.ld none (.t 53))⟩,
    ⟨(some 55), none, (.len false (.t 54))⟩,
    ⟨(some 56), none, (.mv (.c (.sc (.int .i64 0))))⟩]) (.block 0 (.loop [57, 12, 63, 5, 56] [57, 58, 59, 12, 60, 61, 62, 63, 64, 5, 65, 56] (.seq (.reg [
   ⟨(some 57), none, (.bin .lss (.t 56) (.t 55))⟩]) (.seq (.cond (.t 57) .skip (.exit 0)) (.seq (.block 1 (.seq (.reg [
   ⟨(some 58), none, (.iad 4 (.t 54) (.t 56))⟩,
    ⟨(some 59), none, (.ld (some 4) (.t 58))⟩,
    ⟨(some 12), none, (.alloc [(.string ⟨#[]⟩), (.slice none 0 0), (.int .i64 0), (.slice none 0 0)])⟩,
    ⟨none, none, (.st 4 (.t 12) (.t 59))⟩]) (.seq (.reg [
   ⟨(some 60), none, (.fad 3 (.t 12))⟩,
    ⟨(some 61), none, (.ld none (.t 60))⟩,
    ⟨(some 62), none, (.mkf 87 [(.t 3)])⟩,
    ⟨(some 63), none, (.call (.c (.fn 86 [])) [(.t 61), (.t 62)])⟩]) (.cond (.t 63) (.seq (.reg [
   ⟨(some 64), none, (.build [(.slice none 0 0)] [])⟩,
    ⟨none, none, (.st 1 (.t 4) (.t 64))⟩,
    ⟨(some 5), none, (.mv (.c (.sc (.int .i64 6))))⟩]) .ret) .skip)))) (.reg [
   ⟨(some 65), none, (.bin .add (.t 56) (.c (.sc (.int .i64 1))))⟩,
    ⟨(some 56), none, (.mv (.t 65))⟩]))))))) (.seq (.seq (.reg [
   ⟨(some 66), none, (.fad 0 (.t 2))⟩,
    ⟨(some 67), none, (.ld none (.t 66))⟩,
    ⟨(some 68), none, (.mv (.t 7))⟩,
    ⟨(some 69), none, (.iad 4 (.t 67) (.t 68))⟩,
    ⟨(some 70), none, (.fad 3 (.t 69))⟩,
    ⟨(some 71), none, (.ld none (.t 70))⟩,
    ⟨(some 72), none, (.len false (.t 71))⟩,
    ⟨(some 73), none, (.bin .eql (.t 72) (.c (.sc (.int .i64 4))))⟩]) (.cond (.t 73) (.seq (.reg [
   ⟨(some 74), none, (.build [(.slice none 0 0)] [])⟩,
    ⟨none, none, (.st 1 (.t 4) (.t 74))⟩,
    ⟨(some 5), none, (.mv (.c (.sc (.int .i64 51))))⟩]) .ret) .skip)) (.seq (.reg [
   ⟨(some 75), none, (.ld (some 1) (.t 2))⟩,
    ⟨(some 76), none, (.call (.c (.fn 67 [])) [(.t 75)])⟩,
    ⟨none, none, (.st 1 (.t 2) (.t 76))⟩]) (.seq (.regD [(⟨(some 77), none, (.fad 0 (.t 2))⟩, []), (⟨(some 78), none, (.ld none (.t 77))⟩, [0]), (⟨(some 79), none, (.mv (.t 7))⟩, []), (⟨(some 80), none, (.fad 0 (.t 2))⟩, []), (⟨(some 81), none, (.ld none (.t 80))⟩, [3]), (⟨(some 82), none, (.mv (.t 7))⟩, []), (⟨(some 83), none, (.iad 4 (.t 81) (.t 82))⟩, [4, 3, 5]), (⟨(some 84), none, (.fad 3 (.t 83))⟩, [6, 4, 3, 5]), (⟨(some 85), none, (.ld none (.t 84))⟩, [7, 6, 4, 3, 5]), (⟨(some 86), none, (.fad 4 (.t 3))⟩, []), (⟨(some 87), none, (.ld none (.t 86))⟩, [9]), (⟨(some 88), none, (.mv (.t 9))⟩, []), (⟨(some 89), none, (.build [(.string ⟨#[]⟩), (.int .i64 0)] [(0, (1, (.t 87))), (1, (1, (.t 88)))])⟩, [10, 9, 11]), (⟨(some 90), none, (.bsl 2 [(.string ⟨#[]⟩), (.int .i64 0)] 1 [(0, (.t 89))])⟩, [12, 10, 9, 11]), (⟨(some 91), none, (.app 2 24 (.t 85) (.t 90))⟩, [8, 7, 6, 4, 3, 5, 13, 12, 10, 9, 11]), (⟨(some 92), none, (.iad 4 (.t 78) (.t 79))⟩, [1, 0, 2, 3, 4, 5, 6, 7, 8, 9, 10, 11, 12, 13, 14]), (⟨(some 93), none, (.fad 3 (.t 92))⟩, [15, 1, 0, 2, 3, 4, 5, 6, 7, 8, 9, 10, 11, 12, 13, 14]), (⟨none, none, (.st 1 (.t 93) (.t 91))⟩, [16, 15, 1, 0, 2, 3, 4, 5, 6, 7, 8, 9, 10, 11, 12, 13, 14])]) (.seq (.reg [
   ⟨(some 94), none, (.ld (some 1) (.t 2))⟩,
    ⟨none, none, (.st 1 (.t 4) (.t 94))⟩,
    ⟨(some 5), none, (.mv (.c (.sc (.int .i64 0))))⟩]) .ret))))))))))))
def sh_catalog_Add (a0 a1 : AV) (σ : Hp) (n : Nat) (R : AEnd → Hp → Nat → Prop) : Prop :=
 bindS (hBox n a0) σ n fun v1 σ n =>
 bindS (hBox n a1) σ n fun v2 σ n =>
 bindS (hAlloc n [(.slice none 0 0)]) σ n fun v3 σ n =>
 bindP (aLd σ (some 1) v1) fun v4 =>
 CALL Try.prog (.fn 47 []) [v4] σ n (kc_catalog_Add7 v3 R v2 v1)
theorem se_catalog_Add (a0 a1 : AV) (σ : Hp) (n : Nat) (R : AEnd → Hp → Nat → Prop) : sh_catalog_Add a0 a1 σ n R = swp Try.prog sc_catalog_Add (retQ [(.c 4 (some 1)), (.t 5)] R) (entry [a0, a1]) σ n := by kernel_rfl
theorem by_catalog_Add {a0 a1 : AV} {σ : Hp} {n : Nat} {R : AEnd → Hp → Nat → Prop} (h : sh_catalog_Add a0 a1 σ n R) : ConH Try.prog 41 [a0, a1] σ n R := by
  rw [se_catalog_Add] at h
  exact conH_of [(.c 4 (some 1)), (.t 5)] (fn := Try.f41) rfl [0, 1, 16, 6, 26, 8, 36, 50, 10, 55, 57, 54, 12, 63, 56, 73, 7, 3, 9, 2, 4, 5] (by kernel_rfl) (by kernel_rfl) (by kernel_rfl) (by kernel_rfl) h
/-- switchback/switchbacklaw06.Alike -/
def lb_law06_Alike1 (v1 : AV) (v2 : AV) (R : AEnd → Hp → Nat → Prop) (K47 : List AV → Hp → Nat → Prop) (s47 : List AV) (σ : Hp) (n : Nat) : Prop :=
 bindP (aFad 3 v1) fun v48 =>
 bindP (aLd σ none v48) fun v49 =>
 bindP (aLen false v49) fun v50 => bnd σ v49 →
 bindP (semBin .lss (s47.getD 3 .any) v50) fun v51 =>
 COND v51 (
 bindP (aFad 3 v1) fun v52 =>
 bindP (aLd σ none v52) fun v53 =>
 bindP (aIad 2 v53 (s47.getD 3 .any)) fun v55 =>
 bindP (aLd σ (some 2) v55) fun v56 =>
 bindP (aFad 3 v2) fun v57 =>
 bindP (aLd σ none v57) fun v58 =>
 bindP (aIad 2 v58 (s47.getD 3 .any)) fun v60 =>
 bindP (aLd σ (some 2) v60) fun v61 =>
 bindP (aEqs [2, 0] true v56 v61) fun v62 =>
 Apt (names []) (rdA v52) (names []) (rdA v57) ∧
 Apt (names []) (rdA v55) (names []) (rdA v57) ∧
 Apt (names []) (rdA v52) (names []) (rdA v60) ∧
 Apt (names []) (rdA v55) (names []) (rdA v60) ∧
 ∀ n_, n + 16 * 11 ≤ n_ → (fun n => COND v62 (
 R (.ret (.sc (.int .i64 1))) σ n) (
 bindP (semBin .add (s47.getD 3 .any) (.sc (.int .i64 1))) fun v63 =>
 K47 [v51, v62, (s47.getD 2 .any), v63] σ n)) n_) (
 R (.ret (.sc (.int .i64 0))) σ n)
def lb_law06_Alike2 (v1 : AV) (v2 : AV) (R : AEnd → Hp → Nat → Prop) (K30 : List AV → Hp → Nat → Prop) (s30 : List AV) (σ : Hp) (n : Nat) : Prop :=
 bindP (aFad 1 v1) fun v31 =>
 bindP (aLd σ none v31) fun v32 =>
 bindP (aLen false v32) fun v33 => bnd σ v32 →
 bindP (semBin .lss (s30.getD 3 .any) v33) fun v34 =>
 COND v34 (
 bindP (aFad 1 v1) fun v35 =>
 bindP (aLd σ none v35) fun v36 =>
 bindP (aIad 3 v36 (s30.getD 3 .any)) fun v38 =>
 bindP (aLd σ (some 3) v38) fun v39 =>
 bindP (aFad 1 v2) fun v40 =>
 bindP (aLd σ none v40) fun v41 =>
 bindP (aIad 3 v41 (s30.getD 3 .any)) fun v43 =>
 bindP (aLd σ (some 3) v43) fun v44 =>
 bindP (aEqs [2, 0, 1] true v39 v44) fun v45 =>
 Apt (names []) (rdA v35) (names []) (rdA v40) ∧
 Apt (names []) (rdA v38) (names []) (rdA v40) ∧
 Apt (names []) (rdA v35) (names []) (rdA v43) ∧
 Apt (names []) (rdA v38) (names []) (rdA v43) ∧
 ∀ n_, n + 16 * 11 ≤ n_ → (fun n => COND v45 (
 R (.ret (.sc (.int .i64 1))) σ n) (
 bindP (semBin .add (s30.getD 3 .any) (.sc (.int .i64 1))) fun v46 =>
 K30 [v34, v45, (s30.getD 2 .any), v46] σ n)) n_) (
 LOOP (lb_law06_Alike1 v1 v2 R) [(.tp []), (.tp []), (s30.getD 2 .any), (.sc (.int .i64 0))] σ n)
attribute [go_sem] lb_law06_Alike1 lb_law06_Alike2
def sc_law06_Alike : SCode := (.seq (.reg [
   ⟨(some 2), none, (.box (.t 0))⟩,
    ⟨(some 3), none, (.box (.t 1))⟩,
    ⟨(some 4), none, (.mv (.c (.sc (.int .i64 0))))⟩]) (.seq (.seq (.reg [
   ⟨(some 7), none, (.fad 0 (.t 2))⟩,
    ⟨(some 8), none, (.ld none (.t 7))⟩,
    ⟨(some 9), none, (.fad 0 (.t 3))⟩,
    ⟨(some 10), none, (.ld none (.t 9))⟩,
    ⟨(some 11), none, (.bin .neq (.t 8) (.t 10))⟩,
    ⟨(some 12), none, (.mv (.t 11))⟩,
    ⟨(some 13), (some (12, false)), (.fad 2 (.t 2))⟩,
    ⟨(some 14), (some (12, false)), (.ld none (.t 13))⟩,
    ⟨(some 15), (some (12, false)), (.fad 2 (.t 3))⟩,
    ⟨(some 16), (some (12, false)), (.ld none (.t 15))⟩,
    ⟨(some 17), (some (12, false)), (.bin .neq (.t 14) (.t 16))⟩,
    ⟨(some 18), none, (.pick (.t 12) (.c (.sc (.bool true))) (.t 17))⟩,
    ⟨(some 19), none, (.mv (.t 18))⟩,
    ⟨(some 20), (some (19, false)), (.fad 1 (.t 2))⟩,
    ⟨(some 21), (some (19, false)), (.ld none (.t 20))⟩,
    ⟨(some 22), (some (19, false)), (.len false (.t 21))⟩,
    ⟨(some 23), (some (19, false)), (.fad 1 (.t 3))⟩,
    ⟨(some 24), (some (19, false)), (.ld none (.t 23))⟩,
    ⟨(some 25), (some (19, false)), (.len false (.t 24))⟩,
    ⟨(some 26), (some (19, false)), (.bin .neq (.t 22) (.t 25))⟩,
    ⟨(some 27), none, (.pick (.t 19) (.c (.sc (.bool true))) (.t 26))⟩,
    ⟨(some 28), none, (.mv (.t 27))⟩,
    ⟨(some 29), (some (28, false)), (.fad 3 (.t 2))⟩,
    ⟨(some 30), (some (28, false)), (.ld none (.t 29))⟩,
    ⟨(some 31), (some (28, false)), (.len false (.t 30))⟩,
    ⟨(some 32), (some (28, false)), (.fad 3 (.t 3))⟩,
    ⟨(some 33), (some (28, false)), (.ld none (.t 32))⟩,
    ⟨(some 34), (some (28, false)), (.len false (.t 33))⟩,
    ⟨(some 35), (some (28, false)), (.bin .neq (.t 31) (.t 34))⟩,
    ⟨(some 36), none, (.pick (.t 28) (.c (.sc (.bool true))) (.t 35))⟩]) (.cond (.t 36) (.seq (.reg [
   ⟨(some 4), none, (.mv (.c (.sc (.int .i64 1))))⟩]) .ret) .skip)) (.seq (.seq (.reg [
   ⟨(some 5), none, (.mv (.c (.sc (.int .i64 0))))⟩]) (.block 0 (.loop [41, 54, 4, 5] [37, 38, 39, 40, 41, 44, 45, 46, 47, 48, 49, 50, 51, 52, 53, 54, 4, 42, 43, 5] (.seq (.seq (.reg [
   ⟨(some 37), none, (.mv (.t 5))⟩,
    ⟨(some 38), none, (.fad 1 (.t 2))⟩,
    ⟨(some 39), none, (.ld none (.t 38))⟩,
    ⟨(some 40), none, (.len false (.t 39))⟩,
    ⟨(some 41), none, (.bin .lss (.t 37) (.t 40))⟩]) (.cond (.t 41) .skip (.exit 0))) (.seq (.block 1 (.seq (.regD [(⟨(some 44), none, (.fad 1 (.t 2))⟩, []), (⟨(some 45), none, (.ld none (.t 44))⟩, [0]), (⟨(some 46), none, (.mv (.t 5))⟩, []), (⟨(some 47), none, (.iad 3 (.t 45) (.t 46))⟩, [1, 0, 2]), (⟨(some 48), none, (.ld (some 3) (.t 47))⟩, [3, 1, 0, 2]), (⟨(some 49), none, (.fad 1 (.t 3))⟩, []), (⟨(some 50), none, (.ld none (.t 49))⟩, [5]), (⟨(some 51), none, (.mv (.t 5))⟩, []), (⟨(some 52), none, (.iad 3 (.t 50) (.t 51))⟩, [6, 5, 7]), (⟨(some 53), none, (.ld (some 3) (.t 52))⟩, [8, 6, 5, 7]), (⟨(some 54), none, (.eqs [2, 0, 1] true (.t 48) (.t 53))⟩, [4, 3, 1, 0, 2, 9, 8, 6, 5, 7])]) (.cond (.t 54) (.seq (.reg [
   ⟨(some 4), none, (.mv (.c (.sc (.int .i64 1))))⟩]) .ret) .skip))) (.reg [
   ⟨(some 42), none, (.mv (.t 5))⟩,
    ⟨(some 43), none, (.bin .add (.t 42) (.c (.sc (.int .i64 1))))⟩,
    ⟨(some 5), none, (.mv (.t 43))⟩])))))) (.seq (.seq (.reg [
   ⟨(some 6), none, (.mv (.c (.sc (.int .i64 0))))⟩]) (.block 2 (.loop [59, 72, 4, 6] [55, 56, 57, 58, 59, 62, 63, 64, 65, 66, 67, 68, 69, 70, 71, 72, 4, 60, 61, 6] (.seq (.seq (.reg [
   ⟨(some 55), none, (.mv (.t 6))⟩,
    ⟨(some 56), none, (.fad 3 (.t 2))⟩,
    ⟨(some 57), none, (.ld none (.t 56))⟩,
    ⟨(some 58), none, (.len false (.t 57))⟩,
    ⟨(some 59), none, (.bin .lss (.t 55) (.t 58))⟩]) (.cond (.t 59) .skip (.exit 2))) (.seq (.block 3 (.seq (.regD [(⟨(some 62), none, (.fad 3 (.t 2))⟩, []), (⟨(some 63), none, (.ld none (.t 62))⟩, [0]), (⟨(some 64), none, (.mv (.t 6))⟩, []), (⟨(some 65), none, (.iad 2 (.t 63) (.t 64))⟩, [1, 0, 2]), (⟨(some 66), none, (.ld (some 2) (.t 65))⟩, [3, 1, 0, 2]), (⟨(some 67), none, (.fad 3 (.t 3))⟩, []), (⟨(some 68), none, (.ld none (.t 67))⟩, [5]), (⟨(some 69), none, (.mv (.t 6))⟩, []), (⟨(some 70), none, (.iad 2 (.t 68) (.t 69))⟩, [6, 5, 7]), (⟨(some 71), none, (.ld (some 2) (.t 70))⟩, [8, 6, 5, 7]), (⟨(some 72), none, (.eqs [2, 0] true (.t 66) (.t 71))⟩, [4, 3, 1, 0, 2, 9, 8, 6, 5, 7])]) (.cond (.t 72) (.seq (.reg [
   ⟨(some 4), none, (.mv (.c (.sc (.int .i64 1))))⟩]) .ret) .skip))) (.reg [
   ⟨(some 60), none, (.mv (.t 6))⟩,
    ⟨(some 61), none, (.bin .add (.t 60) (.c (.sc (.int .i64 1))))⟩,
    ⟨(some 6), none, (.mv (.t 61))⟩])))))) (.seq (.reg [
   ⟨(some 4), none, (.mv (.c (.sc (.int .i64 0))))⟩]) .ret)))))
def sh_law06_Alike (a0 a1 : AV) (σ : Hp) (n : Nat) (R : AEnd → Hp → Nat → Prop) : Prop :=
 bindS (hBox n a0) σ n fun v1 σ n =>
 bindS (hBox n a1) σ n fun v2 σ n =>
 bindP (aFad 0 v1) fun v3 =>
 bindP (aLd σ none v3) fun v4 =>
 bindP (aFad 0 v2) fun v5 =>
 bindP (aLd σ none v5) fun v6 =>
 bindP (semBin .neq v4 v6) fun v7 =>
 guardP v7 false (aFad 2 v1) fun v8 =>
 guardP v7 false (aLd σ none v8) fun v9 =>
 guardP v7 false (aFad 2 v2) fun v10 =>
 guardP v7 false (aLd σ none v10) fun v11 =>
 guardP v7 false (semBin .neq v9 v11) fun v12 =>
 bindP (aPick v7 (.sc (.bool true)) v12) fun v13 =>
 guardP v13 false (aFad 1 v1) fun v14 =>
 guardP v13 false (aLd σ none v14) fun v15 =>
 guardP v13 false (aLen false v15) fun v16 =>
 guardP v13 false (aFad 1 v2) fun v17 =>
 guardP v13 false (aLd σ none v17) fun v18 =>
 guardP v13 false (aLen false v18) fun v19 =>
 guardP v13 false (semBin .neq v16 v19) fun v20 =>
 bindP (aPick v13 (.sc (.bool true)) v20) fun v21 =>
 guardP v21 false (aFad 3 v1) fun v22 =>
 guardP v21 false (aLd σ none v22) fun v23 =>
 guardP v21 false (aLen false v23) fun v24 =>
 guardP v21 false (aFad 3 v2) fun v25 =>
 guardP v21 false (aLd σ none v25) fun v26 =>
 guardP v21 false (aLen false v26) fun v27 =>
 guardP v21 false (semBin .neq v24 v27) fun v28 =>
 bindP (aPick v21 (.sc (.bool true)) v28) fun v29 =>
 COND v29 (
 R (.ret (.sc (.int .i64 1))) σ n) (
 LOOP (lb_law06_Alike2 v1 v2 R) [(.tp []), (.tp []), (.sc (.int .i64 0)), (.sc (.int .i64 0))] σ n)
theorem se_law06_Alike (a0 a1 : AV) (σ : Hp) (n : Nat) (R : AEnd → Hp → Nat → Prop) : sh_law06_Alike a0 a1 σ n R = swp Try.prog sc_law06_Alike (retQ [(.t 4)] R) (entry [a0, a1]) σ n := by kernel_rfl
theorem by_law06_Alike {a0 a1 : AV} {σ : Hp} {n : Nat} {R : AEnd → Hp → Nat → Prop} (h : sh_law06_Alike a0 a1 σ n R) : ConH Try.prog 44 [a0, a1] σ n R := by
  rw [se_law06_Alike] at h
  exact conH_of [(.t 4)] (fn := Try.f44) rfl [0, 1, 36, 41, 54, 5, 59, 2, 3, 72, 6, 4] (by kernel_rfl) (by kernel_rfl) (by kernel_rfl) (by kernel_rfl) h
/-- switchback/catalog.Find -/
def kc_catalog_Find1 (R : AEnd → Hp → Nat → Prop) (r : AEnd) (σ : Hp) (n : Nat) : Prop :=
 onEnd r (fun v7 =>
 bindP (aExt v7 0) fun v9 =>
 bindP (aExt v7 1) fun v10 =>
 bindP (aUn .not v10) fun v11 =>
 COND v11 (
 R (.ret (.tp [(.sc (.int .i64 0)), (.sc (.int .i64 93))])) σ n) (
 R (.ret (.tp [v9, (.sc (.int .i64 0))])) σ n)) (fun v8 => R (.pan v8) σ n)
def kc_catalog_Find2 (R : AEnd → Hp → Nat → Prop) (v1 : AV) (a1 : AV) (r : AEnd) (σ : Hp) (n : Nat) : Prop :=
 onEnd r (fun v3 =>
 bindP (semBin .neq v3 (.sc (.int .i64 0))) fun v5 =>
 COND v5 (
 R (.ret (.tp [(.sc (.int .i64 0)), v3])) σ n) (
 bindP (aLd σ (some 1) v1) fun v6 =>
 CALL Try.prog (.fn 65 []) [v6, a1] σ n (kc_catalog_Find1 R))) (fun v4 => R (.pan v4) σ n)
attribute [go_sem] kc_catalog_Find1 kc_catalog_Find2
def sc_catalog_Find : SCode := (.seq (.reg [
   ⟨(some 2), none, (.box (.t 0))⟩,
    ⟨(some 4), none, (.mv (.c (.sc (.int .i64 0))))⟩,
    ⟨(some 5), none, (.mv (.c (.sc (.int .i64 0))))⟩]) (.seq (.seq (.reg [
   ⟨(some 9), none, (.ld (some 1) (.t 2))⟩,
    ⟨(some 10), none, (.call (.c (.fn 47 [])) [(.t 9)])⟩,
    ⟨(some 6), none, (.mv (.t 10))⟩]) (.seq (.reg [
   ⟨(some 11), none, (.mv (.t 6))⟩,
    ⟨(some 12), none, (.bin .neq (.t 11) (.c (.sc (.int .i64 0))))⟩]) (.cond (.t 12) (.seq (.reg [
   ⟨(some 13), none, (.mv (.t 6))⟩,
    ⟨(some 4), none, (.mv (.c (.sc (.int .i64 0))))⟩,
    ⟨(some 5), none, (.mv (.t 13))⟩]) .ret) .skip))) (.seq (.reg [
   ⟨(some 15), none, (.ld (some 1) (.t 2))⟩,
    ⟨(some 16), none, (.mv (.t 1))⟩,
    ⟨(some 17), none, (.call (.c (.fn 65 [])) [(.t 15), (.t 16)])⟩,
    ⟨(some 14), none, (.mv (.t 17))⟩,
    ⟨(some 18), none, (.ext (.t 14) 0)⟩,
    ⟨(some 19), none, (.ext (.t 14) 1)⟩,
    ⟨(some 7), none, (.mv (.t 18))⟩,
    ⟨(some 8), none, (.mv (.t 19))⟩]) (.seq (.seq (.reg [
   ⟨(some 20), none, (.mv (.t 8))⟩,
    ⟨(some 21), none, (.un .not (.t 20))⟩]) (.cond (.t 21) (.seq (.reg [
   ⟨(some 4), none, (.mv (.c (.sc (.int .i64 0))))⟩,
    ⟨(some 5), none, (.mv (.c (.sc (.int .i64 93))))⟩]) .ret) .skip)) (.seq (.reg [
   ⟨(some 22), none, (.mv (.t 7))⟩,
    ⟨(some 4), none, (.mv (.t 22))⟩,
    ⟨(some 5), none, (.mv (.c (.sc (.int .i64 0))))⟩]) .ret)))))
def sh_catalog_Find (a0 a1 : AV) (σ : Hp) (n : Nat) (R : AEnd → Hp → Nat → Prop) : Prop :=
 bindS (hBox n a0) σ n fun v1 σ n =>
 bindP (aLd σ (some 1) v1) fun v2 =>
 CALL Try.prog (.fn 47 []) [v2] σ n (kc_catalog_Find2 R v1 a1)
theorem se_catalog_Find (a0 a1 : AV) (σ : Hp) (n : Nat) (R : AEnd → Hp → Nat → Prop) : sh_catalog_Find a0 a1 σ n R = swp Try.prog sc_catalog_Find (retQ [(.t 4), (.t 5)] R) (entry [a0, a1]) σ n := by kernel_rfl
theorem by_catalog_Find {a0 a1 : AV} {σ : Hp} {n : Nat} {R : AEnd → Hp → Nat → Prop} (h : sh_catalog_Find a0 a1 σ n R) : ConH Try.prog 45 [a0, a1] σ n R := by
  rw [se_catalog_Find] at h
  exact conH_of [(.t 4), (.t 5)] (fn := Try.f45) rfl [0, 12, 6, 2, 1, 8, 21, 7, 4, 5] (by kernel_rfl) (by kernel_rfl) (by kernel_rfl) (by kernel_rfl) h
/-- switchback/catalog.Drop -/
def kc_catalog_Drop1 (v1 : AV) (v2 : AV) (R : AEnd → Hp → Nat → Prop) (r : AEnd) (σ : Hp) (n : Nat) : Prop :=
 onEnd r (fun v19 =>
 bindP (aFad 0 v1) fun v21 =>
 bindS (hSt σ 1 v21 v19) σ n fun v22 σ n =>
 bindP (aLd σ (some 1) v1) fun v23 =>
 bindS (hSt σ 1 v2 v23) σ n fun v24 σ n =>
 bindP (aLd σ (some 1) v2) fun v25 =>
 R (.ret (.tp [v25, (.sc (.int .i64 0))])) σ n) (fun v20 => R (.pan v20) σ n)
def kc_catalog_Drop2 (v1 : AV) (v6 : AV) (v2 : AV) (R : AEnd → Hp → Nat → Prop) (r : AEnd) (σ : Hp) (n : Nat) : Prop :=
 onEnd r (fun v13 =>
 bindS (hSt σ 1 v1 v13) σ n fun v15 σ n =>
 bindP (aFad 0 v1) fun v16 =>
 bindP (aLd σ none v16) fun v17 =>
 bindP (semBin .add v6 (.sc (.int .i64 1))) fun v18 =>
 CALL Try.prog (.fn 93 []) [v17, v6, v18] σ n (kc_catalog_Drop1 v1 v2 R)) (fun v14 => R (.pan v14) σ n)
def kc_catalog_Drop3 (v2 : AV) (R : AEnd → Hp → Nat → Prop) (v1 : AV) (r : AEnd) (σ : Hp) (n : Nat) : Prop :=
 onEnd r (fun v4 =>
 bindP (aExt v4 0) fun v6 =>
 bindP (aExt v4 1) fun v7 =>
 bindP (semBin .neq v7 (.sc (.int .i64 0))) fun v8 =>
 COND v8 (
 bindP (aBuild [(.slice none 0 0)] []) fun v9 =>
 bindS (hSt σ 1 v2 v9) σ n fun v10 σ n =>
 bindP (aLd σ (some 1) v2) fun v11 =>
 R (.ret (.tp [v11, v7])) σ n) (
 bindP (aLd σ (some 1) v1) fun v12 =>
 CALL Try.prog (.fn 67 []) [v12] σ n (kc_catalog_Drop2 v1 v6 v2 R))) (fun v5 => R (.pan v5) σ n)
attribute [go_sem] kc_catalog_Drop1 kc_catalog_Drop2 kc_catalog_Drop3
def sc_catalog_Drop : SCode := (.seq (.reg [
   ⟨(some 2), none, (.box (.t 0))⟩,
    ⟨(some 4), none, (.alloc [(.slice none 0 0)])⟩,
    ⟨(some 5), none, (.mv (.c (.sc (.int .i64 0))))⟩]) (.seq (.reg [
   ⟨(some 9), none, (.ld (some 1) (.t 2))⟩,
    ⟨(some 10), none, (.mv (.t 1))⟩,
    ⟨(some 11), none, (.call (.c (.fn 45 [])) [(.t 9), (.t 10)])⟩,
    ⟨(some 8), none, (.mv (.t 11))⟩,
    ⟨(some 12), none, (.ext (.t 8) 0)⟩,
    ⟨(some 13), none, (.ext (.t 8) 1)⟩,
    ⟨(some 6), none, (.mv (.t 12))⟩,
    ⟨(some 7), none, (.mv (.t 13))⟩]) (.seq (.seq (.reg [
   ⟨(some 14), none, (.mv (.t 7))⟩,
    ⟨(some 15), none, (.bin .neq (.t 14) (.c (.sc (.int .i64 0))))⟩]) (.cond (.t 15) (.seq (.reg [
   ⟨(some 16), none, (.build [(.slice none 0 0)] [])⟩,
    ⟨(some 17), none, (.mv (.t 7))⟩,
    ⟨none, none, (.st 1 (.t 4) (.t 16))⟩,
    ⟨(some 5), none, (.mv (.t 17))⟩]) .ret) .skip)) (.seq (.reg [
   ⟨(some 18), none, (.ld (some 1) (.t 2))⟩,
    ⟨(some 19), none, (.call (.c (.fn 67 [])) [(.t 18)])⟩,
    ⟨none, none, (.st 1 (.t 2) (.t 19))⟩]) (.seq (.reg [
   ⟨(some 20), none, (.fad 0 (.t 2))⟩,
    ⟨(some 21), none, (.ld none (.t 20))⟩,
    ⟨(some 22), none, (.mv (.t 6))⟩,
    ⟨(some 23), none, (.mv (.t 6))⟩,
    ⟨(some 24), none, (.bin .add (.t 23) (.c (.sc (.int .i64 1))))⟩,
    ⟨(some 25), none, (.call (.c (.fn 93 [])) [(.t 21), (.t 22), (.t 24)])⟩,
    ⟨(some 26), none, (.fad 0 (.t 2))⟩,
    ⟨none, none, (.st 1 (.t 26) (.t 25))⟩]) (.seq (.reg [
   ⟨(some 27), none, (.ld (some 1) (.t 2))⟩,
    ⟨none, none, (.st 1 (.t 4) (.t 27))⟩,
    ⟨(some 5), none, (.mv (.c (.sc (.int .i64 0))))⟩]) .ret))))))
def sh_catalog_Drop (a0 a1 : AV) (σ : Hp) (n : Nat) (R : AEnd → Hp → Nat → Prop) : Prop :=
 bindS (hBox n a0) σ n fun v1 σ n =>
 bindS (hAlloc n [(.slice none 0 0)]) σ n fun v2 σ n =>
 bindP (aLd σ (some 1) v1) fun v3 =>
 CALL Try.prog (.fn 45 []) [v3, a1] σ n (kc_catalog_Drop3 v2 R v1)
theorem se_catalog_Drop (a0 a1 : AV) (σ : Hp) (n : Nat) (R : AEnd → Hp → Nat → Prop) : sh_catalog_Drop a0 a1 σ n R = swp Try.prog sc_catalog_Drop (retQ [(.c 4 (some 1)), (.t 5)] R) (entry [a0, a1]) σ n := by kernel_rfl
theorem by_catalog_Drop {a0 a1 : AV} {σ : Hp} {n : Nat} {R : AEnd → Hp → Nat → Prop} (h : sh_catalog_Drop a0 a1 σ n R) : ConH Try.prog 46 [a0, a1] σ n R := by
  rw [se_catalog_Drop] at h
  exact conH_of [(.c 4 (some 1)), (.t 5)] (fn := Try.f46) rfl [0, 1, 15, 7, 6, 2, 4, 5] (by kernel_rfl) (by kernel_rfl) (by kernel_rfl) (by kernel_rfl) h
/-- switchback/catalog.Check -/
def lb_catalog_Check1 (v29 : AV) (v28 : AV) (v6 : AV) (R : AEnd → Hp → Nat → Prop) (s10 : List AV) (K10 : List AV → Hp → Nat → Prop) (v11 : AV) (v14 : AV) (v24 : AV) (v26 : AV) (K30 : List AV → Hp → Nat → Prop) (s30 : List AV) (σ : Hp) (n : Nat) : Prop :=
 bindP (semBin .lss (s30.getD 4 .any) v29) fun v31 =>
 COND v31 (
 bindP (aIad 2 v28 (s30.getD 4 .any)) fun v32 =>
 bindP (aLd σ (some 2) v32) fun v33 =>
 bindS (hAlloc n [(.string ⟨#[]⟩), (.int .i64 0)]) σ n fun v34 σ n =>
 bindS (hSt σ 2 v34 v33) σ n fun v35 σ n =>
 bindP (aFad 0 v34) fun v36 =>
 bindP (aLd σ none v36) fun v37 =>
 bindP (aLkp σ (.bool false) false v6 v37) fun v38 =>
 COND v38 (
 R (.ret (.sc (.int .i64 9))) σ n) (
 bindP (aFad 0 v34) fun v39 =>
 bindP (aLd σ none v39) fun v40 =>
 bindS (hMup σ v6 v40 (.sc (.bool true))) σ n fun v41 σ n =>
 bindP (semBin .add (s30.getD 4 .any) (.sc (.int .i64 1))) fun v42 =>
 K30 [v31, v34, v38, (s30.getD 3 .any), v42] σ n)) (
 bindP (semBin .add (s10.getD 11 .any) (.sc (.int .i64 1))) fun v43 =>
 K10 [v11, v14, v24, v26, v28, v29, v31, (s30.getD 1 .any), (s30.getD 2 .any), (s30.getD 3 .any), (s30.getD 4 .any), v43] σ n)
def kc_catalog_Check2 (v14 : AV) (s10 : List AV) (R : AEnd → Hp → Nat → Prop) (v6 : AV) (K10 : List AV → Hp → Nat → Prop) (v11 : AV) (r : AEnd) (σ : Hp) (n : Nat) : Prop :=
 onEnd r (fun v17 =>
 bindP (aUn .not v17) fun v19 =>
 guardP v19 false (aFad 0 v14) fun v20 =>
 guardP v19 false (aLd σ none v20) fun v21 =>
 guardP v19 false (some (s10.getD 3 .any)) fun v22 =>
 guardP v19 false (semBin .leq v21 v22) fun v23 =>
 bindP (aPick v19 (.sc (.bool true)) v23) fun v24 =>
 COND v24 (
 R (.ret (.sc (.int .i64 9))) σ n) (
 bindP (aFad 0 v14) fun v25 =>
 bindP (aLd σ none v25) fun v26 =>
 bindP (aFad 3 v14) fun v27 =>
 bindP (aLd σ none v27) fun v28 =>
 bindP (aLen false v28) fun v29 => bnd σ v28 →
 LOOP (lb_catalog_Check1 v29 v28 v6 R s10 K10 v11 v14 v24 v26) [(s10.getD 6 .any), (s10.getD 7 .any), (s10.getD 8 .any), (s10.getD 9 .any), (.sc (.int .i64 0))] σ n)) (fun v18 => R (.pan v18) σ n)
def lb_catalog_Check3 (v9 : AV) (v8 : AV) (R : AEnd → Hp → Nat → Prop) (v6 : AV) (K10 : List AV → Hp → Nat → Prop) (s10 : List AV) (σ : Hp) (n : Nat) : Prop :=
 bindP (semBin .lss (s10.getD 11 .any) v9) fun v11 =>
 COND v11 (
 bindP (aIad 4 v8 (s10.getD 11 .any)) fun v12 =>
 bindP (aLd σ (some 4) v12) fun v13 =>
 bindS (hAlloc n [(.string ⟨#[]⟩), (.slice none 0 0), (.int .i64 0), (.slice none 0 0)]) σ n fun v14 σ n =>
 bindS (hSt σ 4 v14 v13) σ n fun v15 σ n =>
 bindP (aLd σ (some 4) v14) fun v16 =>
 CALL Try.prog (.fn 75 []) [v16] σ n (kc_catalog_Check2 v14 s10 R v6 K10 v11)) (
 R (.ret (.sc (.int .i64 0))) σ n)
attribute [go_sem] lb_catalog_Check1 kc_catalog_Check2 lb_catalog_Check3
def sc_catalog_Check : SCode := (.seq (.reg [
   ⟨(some 1), none, (.box (.t 0))⟩,
    ⟨(some 2), none, (.mv (.c (.sc (.int .i64 0))))⟩]) (.seq (.seq (.reg [
   ⟨(some 9), none, (.fad 0 (.t 1))⟩,
    ⟨(some 10), none, (.ld none (.t 9))⟩,
    ⟨(some 11), none, (.len false (.t 10))⟩,
    ⟨(some 12), none, (.bin .gtr (.t 11) (.c (.sc (.int .i64 8))))⟩]) (.cond (.t 12) (.seq (.reg [
   ⟨(some 2), none, (.mv (.c (.sc (.int .i64 9))))⟩]) .ret) .skip)) (.seq (.reg [
   ⟨(some 13), none, .mkm⟩,
    ⟨(some 3), none, (.mv (.t 13))⟩]) (.seq (.reg [
   ⟨(some 4), none, (.mv (.c (.s [])))⟩]) (.seq (.seq (.reg [
   ⟨(some 14), none, (.fad 0 (.t 1))⟩,
    ⟨(some 15), none, (.ld none (.t 14))⟩,
    ⟨(some 16), none, (.len false (.t 15))⟩,
    ⟨(some 17), none, (.mv (.c (.sc (.int .i64 0))))⟩]) (.block 0 (.loop [18, 6, 29, 4, 33, 34, 36, 8, 42, 2, 35, 17] [18, 19, 20, 6, 21, 22, 23, 24, 25, 26, 27, 28, 29, 2, 30, 31, 4, 32, 33, 34, 35, 36, 37, 38, 8, 39, 40, 41, 42, 2, 43, 44, 45, 46, 35, 47, 17] (.seq (.reg [
   ⟨(some 18), none, (.bin .lss (.t 17) (.t 16))⟩]) (.seq (.cond (.t 18) .skip (.exit 0)) (.seq (.block 1 (.seq (.reg [
   ⟨(some 19), none, (.iad 4 (.t 15) (.t 17))⟩,
    ⟨(some 20), none, (.ld (some 4) (.t 19))⟩,
    ⟨(some 6), none, (.alloc [(.string ⟨#[]⟩), (.slice none 0 0), (.int .i64 0), (.slice none 0 0)])⟩,
    ⟨none, none, (.st 4 (.t 6) (.t 20))⟩]) (.seq (.seq (.reg [
   ⟨(some 21), none, (.ld (some 4) (.t 6))⟩,
    ⟨(some 22), none, (.call (.c (.fn 75 [])) [(.t 21)])⟩,
    ⟨(some 23), none, (.un .not (.t 22))⟩,
    ⟨(some 24), none, (.mv (.t 23))⟩,
    ⟨(some 25), (some (24, false)), (.fad 0 (.t 6))⟩,
    ⟨(some 26), (some (24, false)), (.ld none (.t 25))⟩,
    ⟨(some 27), (some (24, false)), (.mv (.t 4))⟩,
    ⟨(some 28), (some (24, false)), (.bin .leq (.t 26) (.t 27))⟩,
    ⟨(some 29), none, (.pick (.t 24) (.c (.sc (.bool true))) (.t 28))⟩]) (.cond (.t 29) (.seq (.reg [
   ⟨(some 2), none, (.mv (.c (.sc (.int .i64 9))))⟩]) .ret) .skip)) (.seq (.reg [
   ⟨(some 30), none, (.fad 0 (.t 6))⟩,
    ⟨(some 31), none, (.ld none (.t 30))⟩,
    ⟨(some 4), none, (.mv (.t 31))⟩]) (.seq (.reg [
   ⟨(some 32), none, (.fad 3 (.t 6))⟩,
    ⟨(some 33), none, (.ld none (.t 32))⟩,
    ⟨(some 34), none, (.len false (.t 33))⟩,
    ⟨(some 35), none, (.mv (.c (.sc (.int .i64 0))))⟩]) (.block 2 (.loop [36, 8, 42, 2, 35] [36, 37, 38, 8, 39, 40, 41, 42, 2, 43, 44, 45, 46, 35] (.seq (.reg [
   ⟨(some 36), none, (.bin .lss (.t 35) (.t 34))⟩]) (.seq (.cond (.t 36) .skip (.exit 2)) (.seq (.block 3 (.seq (.reg [
   ⟨(some 37), none, (.iad 2 (.t 33) (.t 35))⟩,
    ⟨(some 38), none, (.ld (some 2) (.t 37))⟩,
    ⟨(some 8), none, (.alloc [(.string ⟨#[]⟩), (.int .i64 0)])⟩,
    ⟨none, none, (.st 2 (.t 8) (.t 38))⟩]) (.seq (.seq (.reg [
   ⟨(some 39), none, (.mv (.t 3))⟩,
    ⟨(some 40), none, (.fad 0 (.t 8))⟩,
    ⟨(some 41), none, (.ld none (.t 40))⟩,
    ⟨(some 42), none, (.lkp (.bool false) false (.t 39) (.t 41))⟩]) (.cond (.t 42) (.seq (.reg [
   ⟨(some 2), none, (.mv (.c (.sc (.int .i64 9))))⟩]) .ret) .skip)) (.reg [
   ⟨(some 43), none, (.mv (.t 3))⟩,
    ⟨(some 44), none, (.fad 0 (.t 8))⟩,
    ⟨(some 45), none, (.ld none (.t 44))⟩,
    ⟨none, none, (.mup (.t 43) (.t 45) (.c (.sc (.bool true))))⟩])))) (.reg [
   ⟨(some 46), none, (.bin .add (.t 35) (.c (.sc (.int .i64 1))))⟩,
    ⟨(some 35), none, (.mv (.t 46))⟩]))))))))))) (.reg [
   ⟨(some 47), none, (.bin .add (.t 17) (.c (.sc (.int .i64 1))))⟩,
    ⟨(some 17), none, (.mv (.t 47))⟩]))))))) (.seq (.reg [
   ⟨(some 2), none, (.mv (.c (.sc (.int .i64 0))))⟩]) .ret))))))
def sh_catalog_Check (a0 : AV) (σ : Hp) (n : Nat) (R : AEnd → Hp → Nat → Prop) : Prop :=
 bindS (hBox n a0) σ n fun v1 σ n =>
 bindP (aFad 0 v1) fun v2 =>
 bindP (aLd σ none v2) fun v3 =>
 bindP (aLen false v3) fun v4 => bnd σ v3 →
 bindP (semBin .gtr v4 (.sc (.int .i64 8))) fun v5 =>
 COND v5 (
 R (.ret (.sc (.int .i64 9))) σ n) (
 bindS (hMkm n) σ n fun v6 σ n =>
 bindP (aFad 0 v1) fun v7 =>
 bindP (aLd σ none v7) fun v8 =>
 bindP (aLen false v8) fun v9 => bnd σ v8 →
 LOOP (lb_catalog_Check3 v9 v8 R v6) [(.tp []), (.tp []), (.tp []), (.s []), (.tp []), (.tp []), (.tp []), (.tp []), (.tp []), (.sc (.int .i64 0)), (.tp []), (.sc (.int .i64 0))] σ n)
theorem se_catalog_Check (a0 : AV) (σ : Hp) (n : Nat) (R : AEnd → Hp → Nat → Prop) : sh_catalog_Check a0 σ n R = swp Try.prog sc_catalog_Check (retQ [(.t 2)] R) (entry [a0]) σ n := by kernel_rfl
theorem by_catalog_Check {a0 : AV} {σ : Hp} {n : Nat} {R : AEnd → Hp → Nat → Prop} (h : sh_catalog_Check a0 σ n R) : ConH Try.prog 47 [a0] σ n R := by
  rw [se_catalog_Check] at h
  exact conH_of [(.t 2)] (fn := Try.f47) rfl [0, 12, 1, 16, 18, 15, 4, 29, 6, 34, 36, 33, 42, 3, 8, 35, 17, 2] (by kernel_rfl) (by kernel_rfl) (by kernel_rfl) (by kernel_rfl) h
/-- switchback/syntax.Check -/
def as_syntax_Check_1 : Code := (.region 6 #[⟨(some 3), (.alloc 27), 0, "syntax.go:167", #[], none⟩, ⟨none, (.store 27 (.tmp 3) (.tmp 17)), 0, "syntax.go:167", #[⟨0, .data⟩, ⟨0, .phase⟩], none⟩] false)
def bo_syntax_Check_1 : Code := (.block 1 (.seq (.region 7 #[⟨(some 18), (.load 27 (.tmp 3)), 27, "syntax.go:168", #[], none⟩, ⟨(some 19), (.call ⟨(.value (.func 49)), #[(.tmp 18)], #[27]⟩), 29, "syntax.go:168", #[⟨0, .data⟩], none⟩, ⟨(some 4), (.assign (.tmp 19)), 29, "syntax.go:168", #[⟨1, .data⟩, ⟨1, .chain⟩, ⟨0, .phase⟩, ⟨1, .phase⟩], none⟩] false) (.seq (.region 8 #[⟨(some 20), (.move (.tmp 4)), 29, "syntax.go:168", #[], none⟩, ⟨(some 21), (.binOp .neq 29 (.tmp 20) (.const (.int .i64 0)) 29), 4, "syntax.go:168", #[⟨0, .data⟩], none⟩] false) (.cond (.tmp 21) (.seq (.region 9 #[⟨(some 22), (.move (.tmp 4)), 29, "syntax.go:169", #[], none⟩, ⟨none, (.store 29 (.tmp 2) (.tmp 22)), 0, "syntax.go:169", #[⟨0, .data⟩, ⟨0, .phase⟩], none⟩] false) .ret) .skip))))
def rk_syntax_Check1 (v1 : AV) (v2 : AV) (q18 : Nat) (R : AEnd → Hp → Nat → Prop) (σ : Hp) (n : Nat) : Prop :=
 bindP (aFad 11 v1) fun v19 =>
 bindP (aLd σ none v19) fun v20 =>
 bindP (aLen false v20) fun v21 => bnd σ v20 →
 bindP (semBin .gtr v21 (.sc (.int .i64 0))) fun v22 =>
 guardP v22 true (aFad 11 v1) fun v23 =>
 guardP v22 true (aLd σ none v23) fun v24 =>
 guardP v22 true (aIad 7 v24 (.sc (.int .i64 0))) fun v25 =>
 guardP v22 true (aFad 0 v25) fun v26 =>
 guardP v22 true (aLd σ none v26) fun v27 =>
 guardP v22 true (semBin .neq v27 (.sc (.int .i64 1))) fun v28 =>
 bindP (aPick v22 v28 (.sc (.bool false))) fun v29 =>
 COND v29 (
 bindS (hSt σ 1 v2 (.sc (.int .i64 9))) σ n fun v30 σ n =>
 σ q18 = some (.df true true) ∧ (fun σ =>
 bindP (aLd σ none v2) fun v31 =>
 R (.ret v31) σ n) (upd σ q18 none)) (
 bindS (hSt σ 1 v2 (.sc (.int .i64 0))) σ n fun v32 σ n =>
 σ q18 = some (.df true true) ∧ (fun σ =>
 bindP (aLd σ none v2) fun v33 =>
 R (.ret v33) σ n) (upd σ q18 none))
def rr_syntax_Check2 (q18 : Nat) (v2 : AV) (R : AEnd → Hp → Nat → Prop) (σ : Hp) (n : Nat) : Prop :=
 σ q18 = some (.df true true) ∧ (fun σ =>
 bindP (aLd σ none v2) fun v34 =>
 R (.ret v34) σ n) (upd σ q18 none)
def kc_syntax_Check3 (v2 : AV) (R : AEnd → Hp → Nat → Prop) (v1 : AV) (r : AEnd) (σ : Hp) (n : Nat) : Prop :=
 onEnd r (fun v13 =>
 bindP (aUn .not v13) fun v15 =>
 COND v15 (
 bindS (hSt σ 1 v2 (.sc (.int .i64 9))) σ n fun v16 σ n =>
 bindP (aLd σ none v2) fun v17 =>
 R (.ret v17) σ n) (
 (fun q18 => ∀ fnid, RNG Try.prog (.fn 104 [v1]) ⟨fnid, #[17], as_syntax_Check_1, bo_syntax_Check_1, q18⟩ (keepR [16, 17, 3, 21, 4, 1, 34, 2] [(.fn 104 [v1]), (.tp []), (.tp []), (.tp []), (.tp []), v1, (.tp []), v2]) 35 σ q18 (rngS 0 (rk_syntax_Check1 v1 v2 q18 R) (rr_syntax_Check2 q18 v2 R))) n)) (fun v14 => R (.pan v14) σ n)
attribute [go_sem] rk_syntax_Check1 rr_syntax_Check2 kc_syntax_Check3
def sp_syntax_Check : Spn := (.st (.reg [⟨(some 1), none, (.box (.t 0))⟩, ⟨(some 2), none, (.alloc [(.int .i64 0)])⟩]) (.st (.seq (.reg [⟨(some 5), none, (.fad 0 (.t 1))⟩, ⟨(some 6), none, (.ld none (.t 5))⟩, ⟨(some 7), none, (.bin .lss (.t 6) (.c (.sc (.int .i64 1))))⟩, ⟨(some 8), none, (.mv (.t 7))⟩, ⟨(some 9), (some (8, false)), (.fad 0 (.t 1))⟩, ⟨(some 10), (some (8, false)), (.ld none (.t 9))⟩, ⟨(some 11), (some (8, false)), (.bin .gtr (.t 10) (.c (.sc (.int .i64 10))))⟩, ⟨(some 12), none, (.pick (.t 8) (.c (.sc (.bool true))) (.t 11))⟩]) (.cond (.t 12) (.seq (.reg [⟨none, none, (.st 1 (.t 2) (.c (.sc (.int .i64 22))))⟩]) .ret) .skip)) (.st (.seq (.reg [⟨(some 13), none, (.ld (some 14) (.t 1))⟩, ⟨(some 14), none, (.call (.c (.fn 103 [])) [(.t 13)])⟩, ⟨(some 15), none, (.un .not (.t 14))⟩]) (.cond (.t 15) (.seq (.reg [⟨none, none, (.st 1 (.t 2) (.c (.sc (.int .i64 9))))⟩]) .ret) .skip)) (.st (.reg [⟨(some 16), none, (.mkf 104 [(.t 1)])⟩]) (.rng 0 (.t 16) [16, 17, 3, 21, 4, 1, 34, 2] #[17] as_syntax_Check_1 bo_syntax_Check_1 (.fin (.seq (.seq (.reg [⟨(some 23), none, (.fad 11 (.t 1))⟩, ⟨(some 24), none, (.ld none (.t 23))⟩, ⟨(some 25), none, (.len false (.t 24))⟩, ⟨(some 26), none, (.bin .gtr (.t 25) (.c (.sc (.int .i64 0))))⟩, ⟨(some 27), none, (.mv (.t 26))⟩, ⟨(some 28), (some (27, true)), (.fad 11 (.t 1))⟩, ⟨(some 29), (some (27, true)), (.ld none (.t 28))⟩, ⟨(some 30), (some (27, true)), (.iad 7 (.t 29) (.c (.sc (.int .i64 0))))⟩, ⟨(some 31), (some (27, true)), (.fad 0 (.t 30))⟩, ⟨(some 32), (some (27, true)), (.ld none (.t 31))⟩, ⟨(some 33), (some (27, true)), (.bin .neq (.t 32) (.c (.sc (.int .i64 1))))⟩, ⟨(some 34), none, (.pick (.t 27) (.t 33) (.c (.sc (.bool false))))⟩]) (.cond (.t 34) (.seq (.reg [⟨none, none, (.st 1 (.t 2) (.c (.sc (.int .i64 9))))⟩]) .ret) .skip)) (.seq (.reg [⟨none, none, (.st 1 (.t 2) (.c (.sc (.int .i64 0))))⟩]) .ret))))))))
def sh_syntax_Check (a0 : AV) (σ : Hp) (n : Nat) (R : AEnd → Hp → Nat → Prop) : Prop :=
 bindS (hBox n a0) σ n fun v1 σ n =>
 bindS (hAlloc n [(.int .i64 0)]) σ n fun v2 σ n =>
 bindP (aFad 0 v1) fun v3 =>
 bindP (aLd σ none v3) fun v4 =>
 bindP (semBin .lss v4 (.sc (.int .i64 1))) fun v5 =>
 guardP v5 false (aFad 0 v1) fun v6 =>
 guardP v5 false (aLd σ none v6) fun v7 =>
 guardP v5 false (semBin .gtr v7 (.sc (.int .i64 10))) fun v8 =>
 bindP (aPick v5 (.sc (.bool true)) v8) fun v9 =>
 COND v9 (
 bindS (hSt σ 1 v2 (.sc (.int .i64 22))) σ n fun v10 σ n =>
 bindP (aLd σ none v2) fun v11 =>
 R (.ret v11) σ n) (
 bindP (aLd σ (some 14) v1) fun v12 =>
 CALL Try.prog (.fn 103 []) [v12] σ n (kc_syntax_Check3 v2 R v1))
theorem se_syntax_Check (a0 : AV) (σ : Hp) (n : Nat) (R : AEnd → Hp → Nat → Prop) : sh_syntax_Check a0 σ n R = swpR Try.prog 35 sp_syntax_Check (retQ [(.c 2 none)] R) (entry [a0]) σ n := by kernel_rfl
theorem by_syntax_Check {a0 : AV} {σ : Hp} {n : Nat} {R : AEnd → Hp → Nat → Prop} (h : sh_syntax_Check a0 σ n R) : ConH Try.prog 56 [a0] σ n R := by
  rw [se_syntax_Check] at h
  exact conH_ofR [(.c 2 none)] (fn := Try.f56) rfl [0, 12, 15, 16, 17, 3, 21, 4, 1, 34, 2] (sp := sp_syntax_Check) (by kernel_rfl) (by kernel_rfl) (by kernel_rfl) (by kernel_rfl) h
def kc_syntax_Check_11 (a8 : AV) (y : Nat) (L : Lp) (gr : Regs) (R : AEnd → Hp → Nat → Prop) (r : AEnd) (σ : Hp) (n : Nat) : Prop :=
 onEnd r (fun v4 =>
 bindP (semBin .neq v4 (.sc (.int .i64 0))) fun v6 =>
 COND v6 (
 bindS (hSt σ 1 a8 v4) σ n fun v7 σ n =>
 σ y = some (.lp L gr 35 .busy none true) ∧ R (.ret (bb false)) (upd σ y (some (.lp L gr 35 .done (some .ret) true))) n) (
 σ y = some (.lp L gr 35 .busy none true) ∧ R (.ret (bb true)) (upd σ y (some (.lp L gr 35 .ready none true))) n)) (fun v5 => False)
attribute [go_sem] kc_syntax_Check_11
def sa_syntax_Check_1 : SCode := (.reg [
   ⟨(some 3), none, (.alloc [(.int .i64 0), (.int .i64 0), (.int .i64 0), (.string ⟨#[]⟩), (.string ⟨#[]⟩), (.string ⟨#[]⟩), (.slice none 0 0)])⟩,
    ⟨none, none, (.st 7 (.t 3) (.t 17))⟩])
def sb_syntax_Check_1 : SCode := (.block 1 (.seq (.reg [
   ⟨(some 18), none, (.ld (some 7) (.t 3))⟩,
    ⟨(some 19), none, (.call (.c (.fn 49 [])) [(.t 18)])⟩,
    ⟨(some 4), none, (.mv (.t 19))⟩]) (.seq (.reg [
   ⟨(some 20), none, (.mv (.t 4))⟩,
    ⟨(some 21), none, (.bin .neq (.t 20) (.c (.sc (.int .i64 0))))⟩]) (.cond (.t 21) (.seq (.reg [
   ⟨(some 22), none, (.mv (.t 4))⟩,
    ⟨none, none, (.st 1 (.t 2) (.t 22))⟩]) .ret) .skip))))
def shr_syntax_Check_1 (a0 a1 a2 a3 a4 a5 a6 a7 a8 : AV) (gr : Regs) (L : Lp) (y : Nat) (σ : Hp) (n : Nat) (R : AEnd → Hp → Nat → Prop) : Prop :=
 bindS (hAlloc n [(.int .i64 0), (.int .i64 0), (.int .i64 0), (.string ⟨#[]⟩), (.string ⟨#[]⟩), (.string ⟨#[]⟩), (.slice none 0 0)]) σ n fun v1 σ n =>
 bindS (hSt σ 7 v1 a0) σ n fun v2 σ n =>
 σ y = some (.lp L gr 35 .ready none true) ∧ (fun σ =>
 bindP (aLd σ (some 7) v1) fun v3 =>
 CALL Try.prog (.fn 49 []) [v3] σ n (kc_syntax_Check_11 a8 y L gr R)) (upd σ y (some (.lp L gr 35 .busy none true)))
theorem ser_syntax_Check_1 (a0 a1 a2 a3 a4 a5 a6 a7 a8 : AV) (gr : Regs) (L : Lp) (y : Nat) (σ : Hp) (n : Nat) (R : AEnd → Hp → Nat → Prop) : shr_syntax_Check_1 a0 a1 a2 a3 a4 a5 a6 a7 a8 gr L y σ n R = swp Try.prog sa_syntax_Check_1 (rndA Try.prog y L gr 35 sb_syntax_Check_1 R) (keepR [17, 16, 17, 3, 21, 4, 1, 34, 2] [a0, a1, a2, a3, a4, a5, a6, a7, a8]) σ n := by kernel_rfl
theorem byr_syntax_Check_1 {a0 a1 a2 a3 a4 a5 a6 a7 a8 : AV} {fnid : FuncId} {d y : Nat} {σ : Hp} {n : Nat} {R : AEnd → Hp → Nat → Prop} (hy : σ y = some (.lp ⟨fnid, #[17], as_syntax_Check_1, bo_syntax_Check_1, d⟩ (keepR [16, 17, 3, 21, 4, 1, 34, 2] [a1, a2, a3, a4, a5, a6, a7, a8]) 35 .ready none true)) (h : shr_syntax_Check_1 a0 a1 a2 a3 a4 a5 a6 a7 a8 (keepR [16, 17, 3, 21, 4, 1, 34, 2] [a1, a2, a3, a4, a5, a6, a7, a8]) ⟨fnid, #[17], as_syntax_Check_1, bo_syntax_Check_1, d⟩ y σ n R) : YCon Try.prog y [a0] σ n R := by
  rw [ser_syntax_Check_1] at h
  exact ycon_at (X := [0, 12, 15, 16, 17, 3, 21, 4, 1, 34, 2]) hy rfl (by kernel_rfl) (by kernel_rfl) (by kernel_rfl) h
/-- slices.Clone[[]switchback/api.Column,switchback/api.Column] -/
def sc_slices_Clone_lapi_Column_api_Column : SCode := (.seq (.reg [
   ⟨(some 2), none, (.mv (.c .em))⟩]) (.seq (.seq (.reg [
   ⟨(some 3), none, (.mv (.t 0))⟩,
    ⟨(some 4), none, (.eqn false (.t 3))⟩]) (.cond (.t 4) (.seq (.reg [
   ⟨(some 2), none, (.mv (.c .em))⟩]) .ret) .skip)) (.seq (.reg [
   ⟨(some 5), none, (.bsl 3 [(.string ⟨#[]⟩), (.int .i64 0), (.bool false)] 0 [])⟩,
    ⟨(some 6), none, (.mv (.t 0))⟩,
    ⟨(some 7), none, (.app 3 32 (.t 5) (.t 6))⟩,
    ⟨(some 2), none, (.mv (.t 7))⟩]) .ret)))
def sh_slices_Clone_lapi_Column_api_Column (a0 : AV) (σ : Hp) (n : Nat) (R : AEnd → Hp → Nat → Prop) : Prop :=
 bindP (aEqn false a0) fun v1 =>
 COND v1 (
 R (.ret .em) σ n) (
 bindS (hBsl σ n 3 [(.string ⟨#[]⟩), (.int .i64 0), (.bool false)] 0 []) σ n fun v2 σ n =>
 bindS (hApp σ n 3 32 v2 a0) σ n fun v3 σ n =>
 R (.ret v3) σ n)
theorem se_slices_Clone_lapi_Column_api_Column (a0 : AV) (σ : Hp) (n : Nat) (R : AEnd → Hp → Nat → Prop) : sh_slices_Clone_lapi_Column_api_Column a0 σ n R = swp Try.prog sc_slices_Clone_lapi_Column_api_Column (retQ [(.t 2)] R) (entry [a0]) σ n := by kernel_rfl
theorem by_slices_Clone_lapi_Column_api_Column {a0 : AV} {σ : Hp} {n : Nat} {R : AEnd → Hp → Nat → Prop} (h : sh_slices_Clone_lapi_Column_api_Column a0 σ n R) : ConH Try.prog 57 [a0] σ n R := by
  rw [se_slices_Clone_lapi_Column_api_Column] at h
  exact conH_of [(.t 2)] (fn := Try.f57) rfl [4, 0, 2] (by kernel_rfl) (by kernel_rfl) (by kernel_rfl) (by kernel_rfl) h
/-- switchback/catalog.place -/
def kc_catalog_place1 (R : AEnd → Hp → Nat → Prop) (r : AEnd) (σ : Hp) (n : Nat) : Prop :=
 onEnd r (fun v4 =>
 bindP (aExt v4 0) fun v6 =>
 bindP (aExt v4 1) fun v7 =>
 R (.ret (.tp [v6, v7])) σ n) (fun v5 => R (.pan v5) σ n)
attribute [go_sem] kc_catalog_place1
def sc_catalog_place : SCode := (.seq (.reg [
   ⟨(some 2), none, (.box (.t 0))⟩,
    ⟨(some 4), none, (.mv (.c (.sc (.int .i64 0))))⟩,
    ⟨(some 5), none, (.mv (.c (.sc (.bool false))))⟩]) (.seq (.reg [
   ⟨(some 6), none, (.fad 0 (.t 2))⟩,
    ⟨(some 7), none, (.ld none (.t 6))⟩,
    ⟨(some 8), none, (.mv (.t 1))⟩,
    ⟨(some 9), none, (.call (.c (.fn 110 [])) [(.t 7), (.t 8), (.c (.fn 111 []))])⟩,
    ⟨(some 10), none, (.ext (.t 9) 0)⟩,
    ⟨(some 11), none, (.ext (.t 9) 1)⟩,
    ⟨(some 4), none, (.mv (.t 10))⟩,
    ⟨(some 5), none, (.mv (.t 11))⟩]) .ret))
def sh_catalog_place (a0 a1 : AV) (σ : Hp) (n : Nat) (R : AEnd → Hp → Nat → Prop) : Prop :=
 bindS (hBox n a0) σ n fun v1 σ n =>
 bindP (aFad 0 v1) fun v2 =>
 bindP (aLd σ none v2) fun v3 =>
 CALL Try.prog (.fn 110 []) [v3, a1, (.fn 111 [])] σ n (kc_catalog_place1 R)
theorem se_catalog_place (a0 a1 : AV) (σ : Hp) (n : Nat) (R : AEnd → Hp → Nat → Prop) : sh_catalog_place a0 a1 σ n R = swp Try.prog sc_catalog_place (retQ [(.t 4), (.t 5)] R) (entry [a0, a1]) σ n := by kernel_rfl
theorem by_catalog_place {a0 a1 : AV} {σ : Hp} {n : Nat} {R : AEnd → Hp → Nat → Prop} (h : sh_catalog_place a0 a1 σ n R) : ConH Try.prog 65 [a0, a1] σ n R := by
  rw [se_catalog_place] at h
  exact conH_of [(.t 4), (.t 5)] (fn := Try.f65) rfl [0, 2, 1, 4, 5] (by kernel_rfl) (by kernel_rfl) (by kernel_rfl) (by kernel_rfl) h
/-- switchback/catalog.Clone -/
def kd_catalog_Clone1 (v19 : AV) (s12 : List AV) (σ : Hp) (v18 : AV) (v16 : AV) (n : Nat) (K12 : List AV → Hp → Nat → Prop) (v13 : AV) (R : AEnd → Hp → Nat → Prop) (r : AEnd) (w22 : Wr) (d22 : List Nat) : Prop :=
 onEnd r (fun v22 =>
 bindP (aIad 4 v19 (s12.getD 3 .any)) fun v24 =>
 bindH (hSt (applyW σ w22) 4 v24 v22) fun v25 w25 =>
 Apt (names []) (rdA v18) (names []) (rdA v16) ∧
 Apt (names []) (rdA v18) (names w22) d22 ∧
 ∀ n_, n + 16 * 7 ≤ n_ → (fun n => (fun σ => bindP (semBin .add (s12.getD 3 .any) (.sc (.int .i64 1))) fun v26 =>
 K12 [v13, v16, (s12.getD 3 .any), v26] σ n) (applyW (applyW σ w22) w25)) n_) (fun v23 => Apt (names []) (rdA v18) (names []) (rdA v16) ∧
 Apt (names []) (rdA v18) (names []) d22 ∧
 ∀ (fr_ : Regs) σ n, R (.pan v23) σ n)
def lb_catalog_Clone2 (v11 : AV) (v10 : AV) (v1 : AV) (R : AEnd → Hp → Nat → Prop) (v2 : AV) (K12 : List AV → Hp → Nat → Prop) (s12 : List AV) (σ : Hp) (n : Nat) : Prop :=
 bindP (semBin .lss (s12.getD 3 .any) v11) fun v13 =>
 COND v13 (
 bindP (aIad 4 v10 (s12.getD 3 .any)) fun v14 =>
 bindP (aLd σ (some 4) v14) fun v15 =>
 bindS (hAlloc n [(.string ⟨#[]⟩), (.slice none 0 0), (.int .i64 0), (.slice none 0 0)]) σ n fun v16 σ n =>
 bindS (hSt σ 4 v16 v15) σ n fun v17 σ n =>
 bindP (aFad 0 v1) fun v18 =>
 bindP (aLd σ none v18) fun v19 =>
 bindP (aLd σ (some 4) v16) fun v21 =>
 callD Try.prog (.fn 116 []) [v21] σ (n + 16 * 4) (kd_catalog_Clone1 v19 s12 σ v18 v16 n K12 v13 R)) (
 bindP (aLd σ (some 1) v1) fun v27 =>
 bindS (hSt σ 1 v2 v27) σ n fun v28 σ n =>
 bindP (aLd σ (some 1) v2) fun v29 =>
 R (.ret v29) σ n)
def kc_catalog_Clone3 (v1 : AV) (R : AEnd → Hp → Nat → Prop) (v2 : AV) (r : AEnd) (σ : Hp) (n : Nat) : Prop :=
 onEnd r (fun v5 =>
 bindP (aFad 0 v1) fun v7 =>
 bindS (hSt σ 1 v7 v5) σ n fun v8 σ n =>
 bindP (aFad 0 v1) fun v9 =>
 bindP (aLd σ none v9) fun v10 =>
 bindP (aLen false v10) fun v11 => bnd σ v10 →
 LOOP (lb_catalog_Clone2 v11 v10 v1 R v2) [(.tp []), (.tp []), (.tp []), (.sc (.int .i64 0))] σ n) (fun v6 => R (.pan v6) σ n)
attribute [go_sem] kd_catalog_Clone1 lb_catalog_Clone2 kc_catalog_Clone3
def sc_catalog_Clone : SCode := (.seq (.reg [
   ⟨(some 1), none, (.box (.t 0))⟩,
    ⟨(some 2), none, (.alloc [(.slice none 0 0)])⟩]) (.seq (.reg [
   ⟨(some 5), none, (.fad 0 (.t 1))⟩,
    ⟨(some 6), none, (.ld none (.t 5))⟩,
    ⟨(some 7), none, (.call (.c (.fn 115 [])) [(.t 6)])⟩,
    ⟨(some 8), none, (.fad 0 (.t 1))⟩,
    ⟨none, none, (.st 1 (.t 8) (.t 7))⟩]) (.seq (.seq (.reg [
   ⟨(some 9), none, (.fad 0 (.t 1))⟩,
    ⟨(some 10), none, (.ld none (.t 9))⟩,
    ⟨(some 11), none, (.len false (.t 10))⟩,
    ⟨(some 12), none, (.mv (.c (.sc (.int .i64 0))))⟩]) (.block 0 (.loop [13, 4, 3, 12] [13, 14, 15, 16, 4, 3, 17, 18, 19, 20, 21, 22, 23, 12] (.seq (.reg [
   ⟨(some 13), none, (.bin .lss (.t 12) (.t 11))⟩]) (.seq (.cond (.t 13) .skip (.exit 0)) (.seq (.block 1 (.seq (.reg [
   ⟨(some 14), none, (.mv (.t 12))⟩,
    ⟨(some 15), none, (.iad 4 (.t 10) (.t 12))⟩,
    ⟨(some 16), none, (.ld (some 4) (.t 15))⟩,
    ⟨(some 4), none, (.alloc [(.string ⟨#[]⟩), (.slice none 0 0), (.int .i64 0), (.slice none 0 0)])⟩,
    ⟨(some 3), none, (.mv (.t 14))⟩,
    ⟨none, none, (.st 4 (.t 4) (.t 16))⟩]) (.regD [(⟨(some 17), none, (.fad 0 (.t 1))⟩, []), (⟨(some 18), none, (.ld none (.t 17))⟩, [0]), (⟨(some 19), none, (.mv (.t 3))⟩, []), (⟨(some 20), none, (.ld (some 4) (.t 4))⟩, []), (⟨(some 21), none, (.call (.c (.fn 116 [])) [(.t 20)])⟩, [3]), (⟨(some 22), none, (.iad 4 (.t 18) (.t 19))⟩, [1, 0, 2, 3, 4]), (⟨none, none, (.st 4 (.t 22) (.t 21))⟩, [5, 1, 0, 2, 3, 4])]))) (.reg [
   ⟨(some 23), none, (.bin .add (.t 12) (.c (.sc (.int .i64 1))))⟩,
    ⟨(some 12), none, (.mv (.t 23))⟩]))))))) (.seq (.reg [
   ⟨(some 24), none, (.ld (some 1) (.t 1))⟩,
    ⟨none, none, (.st 1 (.t 2) (.t 24))⟩]) .ret))))
def sh_catalog_Clone (a0 : AV) (σ : Hp) (n : Nat) (R : AEnd → Hp → Nat → Prop) : Prop :=
 bindS (hBox n a0) σ n fun v1 σ n =>
 bindS (hAlloc n [(.slice none 0 0)]) σ n fun v2 σ n =>
 bindP (aFad 0 v1) fun v3 =>
 bindP (aLd σ none v3) fun v4 =>
 CALL Try.prog (.fn 115 []) [v4] σ n (kc_catalog_Clone3 v1 R v2)
theorem se_catalog_Clone (a0 : AV) (σ : Hp) (n : Nat) (R : AEnd → Hp → Nat → Prop) : sh_catalog_Clone a0 σ n R = swp Try.prog sc_catalog_Clone (retQ [(.c 2 (some 1))] R) (entry [a0]) σ n := by kernel_rfl
theorem by_catalog_Clone {a0 : AV} {σ : Hp} {n : Nat} {R : AEnd → Hp → Nat → Prop} (h : sh_catalog_Clone a0 σ n R) : ConH Try.prog 67 [a0] σ n R := by
  rw [se_catalog_Clone] at h
  exact conH_of [(.c 2 (some 1))] (fn := Try.f67) rfl [0, 11, 13, 10, 3, 4, 12, 1, 2] (by kernel_rfl) (by kernel_rfl) (by kernel_rfl) (by kernel_rfl) h
end Go.Proofs.Ytlhnncmflnjinaa
