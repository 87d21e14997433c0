/- Go functions for the abstract machine, written by a program of this repo (gen_shallow.py); Lean checks each. -/
import Derived.Test.YtlhnncmflnjinaaMs
import Derived.Test.YtlhnncmflnjinaaProg
set_option linter.unusedVariables false
set_option maxRecDepth 8000
namespace Go.Proofs.Ytlhnncmflnjinaa
open Go Am
/-- switchback/switchbacklaw09.RowsTwice -/
def kc_law09_RowsTwice1 (Kg : AV → Hp → Nat → Prop) (R : AEnd → Hp → Nat → Prop) (r : AEnd) (σ : Hp) (n : Nat) : Prop :=
 onEnd r (fun v41 =>
 Kg v41 σ n) (fun v42 => R (.pan v42) σ n)
def kc_law09_RowsTwice2 (v35 : AV) (R : AEnd → Hp → Nat → Prop) (v34 : AV) (r : AEnd) (σ : Hp) (n : Nat) : Prop :=
 onEnd r (fun v36 =>
 bindP (semBin .eql v36 (.sc (.int .i64 87))) fun v38 =>
 guardP v38 true (some v35) fun v39 =>
 guardK v38 true (fun Kg => CALL Try.prog (.fn 29 []) [v39] σ n (kc_law09_RowsTwice1 Kg R)) σ n fun v40 σ n =>
 guardP v38 true (semBin .eql v40 (.sc (.int .i64 87))) fun v43 =>
 bindP (aPick v38 v43 (.sc (.bool false))) fun v44 =>
 guardP v44 true (some v34) fun v45 =>
 guardP v44 true (aLen false v45) fun v46 =>
 guardP v44 true (semBin .eql v46 (.sc (.int .i64 0))) fun v47 =>
 bindP (aPick v44 v47 (.sc (.bool false))) fun v48 =>
 R (.ret v48) σ n) (fun v37 => R (.pan v37) σ n)
def kc_law09_RowsTwice3 (v21 : AV) (R : AEnd → Hp → Nat → Prop) (r : AEnd) (σ : Hp) (n : Nat) : Prop :=
 onEnd r (fun v32 =>
 bindP (aExt v32 0) fun v34 =>
 bindP (aExt v32 1) fun v35 =>
 CALL Try.prog (.fn 29 []) [v21] σ n (kc_law09_RowsTwice2 v35 R v34)) (fun v33 => R (.pan v33) σ n)
def kc_law09_RowsTwice4 (v15 : AV) (v21 : AV) (v20 : AV) (R : AEnd → Hp → Nat → Prop) (v8 : AV) (a2 : AV) (v14 : AV) (r : AEnd) (σ : Hp) (n : Nat) : Prop :=
 onEnd r (fun v22 =>
 bindP (semBin .neq v22 (.sc (.int .i64 0))) fun v24 =>
 COND v24 (
 bindP (semBin .eql v15 v21) fun v25 =>
 guardP v25 true (some v20) fun v26 =>
 guardP v25 true (aLen false v26) fun v27 =>
 guardP v25 true (semBin .eql v27 (.sc (.int .i64 0))) fun v28 =>
 bindP (aPick v25 v28 (.sc (.bool false))) fun v29 =>
 R (.ret v29) σ n) (
 bindP (aLd σ (some 4) v8) fun v30 =>
 bindS (hBsl σ n 1 [(.slice none 0 0)] 1 [(0, a2)]) σ n fun v31 σ n =>
 CALL Try.prog (.fn 28 []) [v30, v14, v31] σ n (kc_law09_RowsTwice3 v21 R))) (fun v23 => R (.pan v23) σ n)
def kc_law09_RowsTwice5 (v15 : AV) (R : AEnd → Hp → Nat → Prop) (v8 : AV) (a2 : AV) (v14 : AV) (r : AEnd) (σ : Hp) (n : Nat) : Prop :=
 onEnd r (fun v18 =>
 bindP (aExt v18 0) fun v20 =>
 bindP (aExt v18 1) fun v21 =>
 CALL Try.prog (.fn 29 []) [v15] σ n (kc_law09_RowsTwice4 v15 v21 v20 R v8 a2 v14)) (fun v19 => R (.pan v19) σ n)
def kc_law09_RowsTwice6 (v8 : AV) (a2 : AV) (a1 : AV) (R : AEnd → Hp → Nat → Prop) (r : AEnd) (σ : Hp) (n : Nat) : Prop :=
 onEnd r (fun v12 =>
 bindP (aExt v12 0) fun v14 =>
 bindP (aExt v12 1) fun v15 =>
 bindP (aLd σ (some 4) v8) fun v16 =>
 bindS (hBsl σ n 1 [(.slice none 0 0)] 2 [(0, a2), (1, a2)]) σ n fun v17 σ n =>
 CALL Try.prog (.fn 28 []) [v16, a1, v17] σ n (kc_law09_RowsTwice5 v15 R v8 a2 v14)) (fun v13 => R (.pan v13) σ n)
def kc_law09_RowsTwice7 (a2 : AV) (a1 : AV) (R : AEnd → Hp → Nat → Prop) (r : AEnd) (σ : Hp) (n : Nat) : Prop :=
 onEnd r (fun v6 =>
 bindS (hAlloc n [(.string ⟨#[]⟩), (.slice none 0 0), (.int .i64 0), (.slice none 0 0)]) σ n fun v8 σ n =>
 bindS (hSt σ 4 v8 v6) σ n fun v9 σ n =>
 bindP (aLd σ (some 4) v8) fun v10 =>
 bindS (hBsl σ n 1 [(.slice none 0 0)] 1 [(0, a2)]) σ n fun v11 σ n =>
 CALL Try.prog (.fn 28 []) [v10, a1, v11] σ n (kc_law09_RowsTwice6 v8 a2 a1 R)) (fun v7 => R (.pan v7) σ n)
def kc_law09_RowsTwice8 (R : AEnd → Hp → Nat → Prop) (v1 : AV) (a2 : AV) (a1 : AV) (r : AEnd) (σ : Hp) (n : Nat) : Prop :=
 onEnd r (fun v2 =>
 bindP (aUn .not v2) fun v4 =>
 COND v4 (
 R (.ret (.sc (.bool false))) σ n) (
 bindP (aLd σ (some 4) v1) fun v5 =>
 CALL Try.prog (.fn 27 []) [v5] σ n (kc_law09_RowsTwice7 a2 a1 R))) (fun v3 => R (.pan v3) σ n)
attribute [go_sem] kc_law09_RowsTwice1 kc_law09_RowsTwice2 kc_law09_RowsTwice3 kc_law09_RowsTwice4 kc_law09_RowsTwice5 kc_law09_RowsTwice6 kc_law09_RowsTwice7 kc_law09_RowsTwice8
def sc_law09_RowsTwice : SCode := (.seq (.reg [
   ⟨(some 3), none, (.box (.t 0))⟩,
    ⟨(some 6), none, (.mv (.c (.sc (.bool false))))⟩]) (.seq (.seq (.reg [
   ⟨(some 14), none, (.call (.c (.fn 26 [])) [])⟩,
    ⟨(some 15), none, (.un .not (.t 14))⟩]) (.cond (.t 15) (.seq (.reg [
   ⟨(some 6), none, (.mv (.c (.sc (.bool false))))⟩]) .ret) .skip)) (.seq (.reg [
   ⟨(some 16), none, (.ld (some 4) (.t 3))⟩,
    ⟨(some 17), none, (.call (.c (.fn 27 [])) [(.t 16)])⟩,
    ⟨(some 7), none, (.alloc [(.string ⟨#[]⟩), (.slice none 0 0), (.int .i64 0), (.slice none 0 0)])⟩,
    ⟨none, none, (.st 4 (.t 7) (.t 17))⟩]) (.seq (.reg [
   ⟨(some 19), none, (.ld (some 4) (.t 7))⟩,
    ⟨(some 20), none, (.mv (.t 1))⟩,
    ⟨(some 21), none, (.mv (.t 2))⟩,
    ⟨(some 22), none, (.bsl 1 [(.slice none 0 0)] 1 [(0, (.t 21))])⟩,
    ⟨(some 23), none, (.call (.c (.fn 28 [])) [(.t 19), (.t 20), (.t 22)])⟩,
    ⟨(some 18), none, (.mv (.t 23))⟩,
    ⟨(some 24), none, (.ext (.t 18) 0)⟩,
    ⟨(some 25), none, (.ext (.t 18) 1)⟩,
    ⟨(some 8), none, (.mv (.t 24))⟩,
    ⟨(some 9), none, (.mv (.t 25))⟩]) (.seq (.reg [
   ⟨(some 27), none, (.ld (some 4) (.t 7))⟩,
    ⟨(some 28), none, (.mv (.t 1))⟩,
    ⟨(some 29), none, (.mv (.t 2))⟩,
    ⟨(some 30), none, (.mv (.t 2))⟩,
    ⟨(some 31), none, (.bsl 1 [(.slice none 0 0)] 2 [(0, (.t 29)), (1, (.t 30))])⟩,
    ⟨(some 32), none, (.call (.c (.fn 28 [])) [(.t 27), (.t 28), (.t 31)])⟩,
    ⟨(some 26), none, (.mv (.t 32))⟩,
    ⟨(some 33), none, (.ext (.t 26) 0)⟩,
    ⟨(some 34), none, (.ext (.t 26) 1)⟩,
    ⟨(some 10), none, (.mv (.t 33))⟩,
    ⟨(some 11), none, (.mv (.t 34))⟩]) (.seq (.seq (.reg [
   ⟨(some 35), none, (.mv (.t 9))⟩,
    ⟨(some 36), none, (.call (.c (.fn 29 [])) [(.t 35)])⟩,
    ⟨(some 37), none, (.bin .neq (.t 36) (.c (.sc (.int .i64 0))))⟩]) (.cond (.t 37) (.seq (.reg [
   ⟨(some 38), none, (.mv (.t 9))⟩,
    ⟨(some 39), none, (.mv (.t 11))⟩,
    ⟨(some 40), none, (.bin .eql (.t 38) (.t 39))⟩,
    ⟨(some 41), none, (.mv (.t 40))⟩,
    ⟨(some 42), (some (41, true)), (.mv (.t 10))⟩,
    ⟨(some 43), (some (41, true)), (.len false (.t 42))⟩,
    ⟨(some 44), (some (41, true)), (.bin .eql (.t 43) (.c (.sc (.int .i64 0))))⟩,
    ⟨(some 45), none, (.pick (.t 41) (.t 44) (.c (.sc (.bool false))))⟩,
    ⟨(some 6), none, (.mv (.t 45))⟩]) .ret) .skip)) (.seq (.reg [
   ⟨(some 47), none, (.ld (some 4) (.t 7))⟩,
    ⟨(some 48), none, (.mv (.t 8))⟩,
    ⟨(some 49), none, (.mv (.t 2))⟩,
    ⟨(some 50), none, (.bsl 1 [(.slice none 0 0)] 1 [(0, (.t 49))])⟩,
    ⟨(some 51), none, (.call (.c (.fn 28 [])) [(.t 47), (.t 48), (.t 50)])⟩,
    ⟨(some 46), none, (.mv (.t 51))⟩,
    ⟨(some 52), none, (.ext (.t 46) 0)⟩,
    ⟨(some 53), none, (.ext (.t 46) 1)⟩,
    ⟨(some 12), none, (.mv (.t 52))⟩,
    ⟨(some 13), none, (.mv (.t 53))⟩]) (.seq (.reg [
   ⟨(some 54), none, (.mv (.t 11))⟩,
    ⟨(some 55), none, (.call (.c (.fn 29 [])) [(.t 54)])⟩,
    ⟨(some 56), none, (.bin .eql (.t 55) (.c (.sc (.int .i64 87))))⟩,
    ⟨(some 57), none, (.mv (.t 56))⟩,
    ⟨(some 58), (some (57, true)), (.mv (.t 13))⟩,
    ⟨(some 59), (some (57, true)), (.call (.c (.fn 29 [])) [(.t 58)])⟩,
    ⟨(some 60), (some (57, true)), (.bin .eql (.t 59) (.c (.sc (.int .i64 87))))⟩,
    ⟨(some 61), none, (.pick (.t 57) (.t 60) (.c (.sc (.bool false))))⟩,
    ⟨(some 62), none, (.mv (.t 61))⟩,
    ⟨(some 63), (some (62, true)), (.mv (.t 12))⟩,
    ⟨(some 64), (some (62, true)), (.len false (.t 63))⟩,
    ⟨(some 65), (some (62, true)), (.bin .eql (.t 64) (.c (.sc (.int .i64 0))))⟩,
    ⟨(some 66), none, (.pick (.t 62) (.t 65) (.c (.sc (.bool false))))⟩,
    ⟨(some 6), none, (.mv (.t 66))⟩]) .ret))))))))
def sh_law09_RowsTwice (a0 a1 a2 : AV) (σ : Hp) (n : Nat) (R : AEnd → Hp → Nat → Prop) : Prop :=
 bindS (hBox n a0) σ n fun v1 σ n =>
 CALL Try.prog (.fn 26 []) [] σ n (kc_law09_RowsTwice8 R v1 a2 a1)
theorem se_law09_RowsTwice (a0 a1 a2 : AV) (σ : Hp) (n : Nat) (R : AEnd → Hp → Nat → Prop) : sh_law09_RowsTwice a0 a1 a2 σ n R = swp Try.prog sc_law09_RowsTwice (retQ [(.t 6)] R) (entry [a0, a1, a2]) σ n := by kernel_rfl
theorem by_law09_RowsTwice {a0 a1 a2 : AV} {σ : Hp} {n : Nat} {R : AEnd → Hp → Nat → Prop} (h : sh_law09_RowsTwice a0 a1 a2 σ n R) : ConH Try.prog 7 [a0, a1, a2] σ n R := by
  rw [se_law09_RowsTwice] at h
  exact conH_of [(.t 6)] (fn := Try.f7) rfl [0, 15, 3, 1, 37, 9, 10, 7, 8, 2, 11, 13, 12, 6] (by kernel_rfl) (by kernel_rfl) (by kernel_rfl) (by kernel_rfl) h
/-- switchback/switchbacklaw09.RowsMay -/
def kd_law09_RowsMay1 (Kd : AV → Wr → List Nat → Prop) (v66 : AV) (v70 : AV) (σ : Hp) (n : Nat) (R : AEnd → Hp → Nat → Prop) (r : AEnd) (w73 : Wr) (d73 : List Nat) : Prop :=
 onEnd r (fun v73 =>
 Kd v73 w73 d73) (fun v74 => Apt (names []) (rdA v66) (names []) (rdA v70) ∧
 ∀ (fr_ : Regs) σ n, R (.pan v74) σ n)
def kd_law09_RowsMay2 (v53 : AV) (v13 : AV) (v52 : AV) (σ : Hp) (a2 : AV) (s35 : List AV) (n : Nat) (R : AEnd → Hp → Nat → Prop) (v46 : AV) (K35 : List AV → Hp → Nat → Prop) (v37 : AV) (v54 : AV) (r : AEnd) (w56 : Wr) (d56 : List Nat) : Prop :=
 onEnd r (fun v56 =>
 bindP (semBin .neq v56 (.sc (.int .i64 0))) fun v58 =>
 guardP v58 false (some v53) fun v60 =>
 guardP v58 false (aUn .not v60) fun v61 =>
 bindP (aPick v58 (.sc (.bool true)) v61) fun v62 =>
 guardP v62 false (some v13) fun v64 =>
 guardP v62 false (some v52) fun v65 =>
 guardP v62 false (aIad 1 v64 v65) fun v66 =>
 guardP v62 false (aLd (applyW σ w56) none v66) fun v67 =>
 guardP v62 false (some a2) fun v68 =>
 guardP v62 false (some (s35.getD 8 .any)) fun v69 =>
 guardP v62 false (aIad 1 v68 v69) fun v70 =>
 guardP v62 false (aLd (applyW σ w56) none v70) fun v71 =>
 guardD v62 false (fun Kd => callD Try.prog (.fn 32 []) [v67, v71] (applyW σ w56) (n + 16 * 16) (kd_law09_RowsMay1 Kd v66 v70 σ n R)) fun v72 w72 d72 =>
 guardP v62 false (aUn .not v72) fun v75 =>
 bindP (aPick v62 (.sc (.bool true)) v75) fun v76 =>
 Apt (names []) (rdA v66) (names []) (rdA v70) ∧
 ∀ n_, n + 16 * 19 ≤ n_ → (fun n => (fun σ => COND v76 (
 R (.ret (.sc (.bool false))) σ n) (
 bindP (aLd σ (some 3) v46) fun v77 =>
 bindS (hBsl σ n 3 [(.int .i64 0), (.int .i64 0), (.string ⟨#[]⟩)] 1 [(0, v77)]) σ n fun v78 σ n =>
 bindS (hApp σ n 3 32 (s35.getD 7 .any) v78) σ n fun v79 σ n =>
 bindP (semBin .add (s35.getD 8 .any) (.sc (.int .i64 1))) fun v80 =>
 K35 [v37, v46, v52, v53, v54, v76, (s35.getD 6 .any), v79, v80] σ n)) (applyW (applyW σ w56) w72)) n_) (fun v57 => Apt (names []) [] (names []) [] ∧
 ∀ (fr_ : Regs) σ n, R (.pan v57) σ n)
def kc_law09_RowsMay3 (v13 : AV) (a2 : AV) (s35 : List AV) (R : AEnd → Hp → Nat → Prop) (v46 : AV) (K35 : List AV → Hp → Nat → Prop) (v37 : AV) (r : AEnd) (σ : Hp) (n : Nat) : Prop :=
 onEnd r (fun v50 =>
 bindP (aExt v50 0) fun v52 =>
 bindP (aExt v50 1) fun v53 =>
 bindP (aExt v50 2) fun v54 =>
 callD Try.prog (.fn 29 []) [v54] σ (n + 16 * 1) (kd_law09_RowsMay2 v53 v13 v52 σ a2 s35 n R v46 K35 v37 v54)) (fun v51 => R (.pan v51) σ n)
def kc_law09_RowsMay4 (Kg : AV → Hp → Nat → Prop) (R : AEnd → Hp → Nat → Prop) (r : AEnd) (σ : Hp) (n : Nat) : Prop :=
 onEnd r (fun v92 =>
 Kg v92 σ n) (fun v93 => R (.pan v93) σ n)
def kc_law09_RowsMay5 (v84 : AV) (a1 : AV) (R : AEnd → Hp → Nat → Prop) (r : AEnd) (σ : Hp) (n : Nat) : Prop :=
 onEnd r (fun v86 =>
 bindP (semBin .eql v86 (.sc (.int .i64 0))) fun v88 =>
 guardP v88 true (some v84) fun v89 =>
 guardP v88 true (some a1) fun v90 =>
 guardK v88 true (fun Kg => CALL Try.prog (.fn 34 []) [v89, v90] σ n (kc_law09_RowsMay4 Kg R)) σ n fun v91 σ n =>
 bindP (aPick v88 v91 (.sc (.bool false))) fun v94 =>
 R (.ret v94) σ n) (fun v87 => R (.pan v87) σ n)
def kc_law09_RowsMay6 (a1 : AV) (R : AEnd → Hp → Nat → Prop) (r : AEnd) (σ : Hp) (n : Nat) : Prop :=
 onEnd r (fun v82 =>
 bindP (aExt v82 0) fun v84 =>
 bindP (aExt v82 1) fun v85 =>
 CALL Try.prog (.fn 29 []) [v85] σ n (kc_law09_RowsMay5 v84 a1 R)) (fun v83 => R (.pan v83) σ n)
def lb_law09_RowsMay7 (a2 : AV) (v1 : AV) (v8 : AV) (v13 : AV) (R : AEnd → Hp → Nat → Prop) (a1 : AV) (K35 : List AV → Hp → Nat → Prop) (s35 : List AV) (σ : Hp) (n : Nat) : Prop :=
 bindP (aLen false a2) fun v36 => bnd σ a2 →
 bindP (semBin .lss (s35.getD 8 .any) v36) fun v37 =>
 COND v37 (
 bindP (aIad 1 a2 (s35.getD 8 .any)) fun v40 =>
 bindP (aLd σ none v40) fun v41 =>
 bindP (aFad 2 v1) fun v42 =>
 bindP (aLd σ none v42) fun v43 =>
 bindP (aIad 3 v41 v43) fun v44 =>
 bindP (aLd σ (some 3) v44) fun v45 =>
 bindH (hAlloc (n + 16 * 8) [(.int .i64 0), (.int .i64 0), (.string ⟨#[]⟩)]) fun v46 w46 =>
 bindH (hSt (applyW σ w46) 3 v46 v45) fun v47 w47 =>
 Apt (names []) (rdA v40) (names []) (rdA v42) ∧
 Apt (names []) (rdA v40) (names w46) (names w46) ∧
 Apt (names []) (rdA v42) (names w46) (names w46) ∧
 Apt (names []) (rdA v44) (names w46) (names w46) ∧
 ∀ n_, n + 16 * 10 ≤ n_ → (fun n => (fun σ => bindP (aLd σ (some 4) v8) fun v48 =>
 bindP (aLd σ (some 3) v46) fun v49 =>
 CALL Try.prog (.fn 31 []) [v48, v13, v49] σ n (kc_law09_RowsMay3 v13 a2 s35 R v46 K35 v37)) (applyW (applyW σ w46) w47)) n_) (
 bindP (aLd σ (some 4) v8) fun v81 =>
 CALL Try.prog (.fn 33 []) [v81, v13, (s35.getD 7 .any)] σ n (kc_law09_RowsMay6 a1 R))
def kc_law09_RowsMay8 (v13 : AV) (a1 : AV) (a2 : AV) (R : AEnd → Hp → Nat → Prop) (v1 : AV) (v8 : AV) (r : AEnd) (σ : Hp) (n : Nat) : Prop :=
 onEnd r (fun v23 =>
 bindP (semBin .neq v23 (.sc (.int .i64 0))) fun v25 =>
 guardP v25 false (some v13) fun v26 =>
 guardP v25 false (aLen false v26) fun v27 =>
 guardP v25 false (some a1) fun v28 =>
 guardP v25 false (aLen false v28) fun v29 =>
 guardP v25 false (some a2) fun v30 =>
 guardP v25 false (aLen false v30) fun v31 =>
 guardP v25 false (semBin .add v29 v31) fun v32 =>
 guardP v25 false (semBin .neq v27 v32) fun v33 =>
 bindP (aPick v25 (.sc (.bool true)) v33) fun v34 =>
 COND v34 (
 R (.ret (.sc (.bool false))) σ n) (
 LOOP (lb_law09_RowsMay7 a2 v1 v8 v13 R a1) [(.tp []), (.tp []), (.tp []), (.tp []), (.tp []), (.tp []), (.sc (.bool false)), .em, (.sc (.int .i64 0))] σ n)) (fun v24 => R (.pan v24) σ n)
def kc_law09_RowsMay9 (v13 : AV) (a1 : AV) (a2 : AV) (R : AEnd → Hp → Nat → Prop) (v1 : AV) (v8 : AV) (r : AEnd) (σ : Hp) (n : Nat) : Prop :=
 onEnd r (fun v21 =>
 CALL Try.prog (.fn 29 []) [v21] σ n (kc_law09_RowsMay8 v13 a1 a2 R v1 v8)) (fun v22 => R (.pan v22) σ n)
def kc_law09_RowsMay10 (v13 : AV) (R : AEnd → Hp → Nat → Prop) (v8 : AV) (a1 : AV) (a2 : AV) (v1 : AV) (r : AEnd) (σ : Hp) (n : Nat) : Prop :=
 onEnd r (fun v15 =>
 bindP (semBin .neq v15 (.sc (.int .i64 0))) fun v17 =>
 COND v17 (
 bindP (aLen false v13) fun v18 => bnd σ v13 →
 bindP (semBin .eql v18 (.sc (.int .i64 0))) fun v19 =>
 R (.ret v19) σ n) (
 bindP (aLd σ (some 4) v8) fun v20 =>
 CALL Try.prog (.fn 30 []) [v20, v13] σ n (kc_law09_RowsMay9 v13 a1 a2 R v1 v8))) (fun v16 => R (.pan v16) σ n)
def kc_law09_RowsMay11 (R : AEnd → Hp → Nat → Prop) (v8 : AV) (a1 : AV) (a2 : AV) (v1 : AV) (r : AEnd) (σ : Hp) (n : Nat) : Prop :=
 onEnd r (fun v11 =>
 bindP (aExt v11 0) fun v13 =>
 bindP (aExt v11 1) fun v14 =>
 CALL Try.prog (.fn 29 []) [v14] σ n (kc_law09_RowsMay10 v13 R v8 a1 a2 v1)) (fun v12 => R (.pan v12) σ n)
def kc_law09_RowsMay12 (a1 : AV) (a2 : AV) (R : AEnd → Hp → Nat → Prop) (v1 : AV) (r : AEnd) (σ : Hp) (n : Nat) : Prop :=
 onEnd r (fun v6 =>
 bindS (hAlloc n [(.string ⟨#[]⟩), (.slice none 0 0), (.int .i64 0), (.slice none 0 0)]) σ n fun v8 σ n =>
 bindS (hSt σ 4 v8 v6) σ n fun v9 σ n =>
 bindP (aLd σ (some 4) v8) fun v10 =>
 CALL Try.prog (.fn 28 []) [v10, a1, a2] σ n (kc_law09_RowsMay11 R v8 a1 a2 v1)) (fun v7 => R (.pan v7) σ n)
def kc_law09_RowsMay13 (R : AEnd → Hp → Nat → Prop) (v1 : AV) (a1 : AV) (a2 : AV) (r : AEnd) (σ : Hp) (n : Nat) : Prop :=
 onEnd r (fun v2 =>
 bindP (aUn .not v2) fun v4 =>
 COND v4 (
 R (.ret (.sc (.bool false))) σ n) (
 bindP (aLd σ (some 4) v1) fun v5 =>
 CALL Try.prog (.fn 27 []) [v5] σ n (kc_law09_RowsMay12 a1 a2 R v1))) (fun v3 => R (.pan v3) σ n)
attribute [go_sem] kd_law09_RowsMay1 kd_law09_RowsMay2 kc_law09_RowsMay3 kc_law09_RowsMay4 kc_law09_RowsMay5 kc_law09_RowsMay6 lb_law09_RowsMay7 kc_law09_RowsMay8 kc_law09_RowsMay9 kc_law09_RowsMay10 kc_law09_RowsMay11 kc_law09_RowsMay12 kc_law09_RowsMay13
def sc_law09_RowsMay : SCode := (.seq (.reg [
   ⟨(some 3), none, (.box (.t 0))⟩,
    ⟨(some 6), none, (.mv (.c (.sc (.bool false))))⟩]) (.seq (.seq (.reg [
   ⟨(some 18), none, (.call (.c (.fn 26 [])) [])⟩,
    ⟨(some 19), none, (.un .not (.t 18))⟩]) (.cond (.t 19) (.seq (.reg [
   ⟨(some 6), none, (.mv (.c (.sc (.bool false))))⟩]) .ret) .skip)) (.seq (.reg [
   ⟨(some 20), none, (.ld (some 4) (.t 3))⟩,
    ⟨(some 21), none, (.call (.c (.fn 27 [])) [(.t 20)])⟩,
    ⟨(some 7), none, (.alloc [(.string ⟨#[]⟩), (.slice none 0 0), (.int .i64 0), (.slice none 0 0)])⟩,
    ⟨none, none, (.st 4 (.t 7) (.t 21))⟩]) (.seq (.reg [
   ⟨(some 23), none, (.ld (some 4) (.t 7))⟩,
    ⟨(some 24), none, (.mv (.t 1))⟩,
    ⟨(some 25), none, (.mv (.t 2))⟩,
    ⟨(some 26), none, (.call (.c (.fn 28 [])) [(.t 23), (.t 24), (.t 25)])⟩,
    ⟨(some 22), none, (.mv (.t 26))⟩,
    ⟨(some 27), none, (.ext (.t 22) 0)⟩,
    ⟨(some 28), none, (.ext (.t 22) 1)⟩,
    ⟨(some 8), none, (.mv (.t 27))⟩,
    ⟨(some 9), none, (.mv (.t 28))⟩]) (.seq (.seq (.reg [
   ⟨(some 29), none, (.mv (.t 9))⟩,
    ⟨(some 30), none, (.call (.c (.fn 29 [])) [(.t 29)])⟩,
    ⟨(some 31), none, (.bin .neq (.t 30) (.c (.sc (.int .i64 0))))⟩]) (.cond (.t 31) (.seq (.reg [
   ⟨(some 32), none, (.mv (.t 8))⟩,
    ⟨(some 33), none, (.len false (.t 32))⟩,
    ⟨(some 34), none, (.bin .eql (.t 33) (.c (.sc (.int .i64 0))))⟩,
    ⟨(some 6), none, (.mv (.t 34))⟩]) .ret) .skip)) (.seq (.seq (.reg [
   ⟨(some 35), none, (.ld (some 4) (.t 7))⟩,
    ⟨(some 36), none, (.mv (.t 8))⟩,
    ⟨(some 37), none, (.call (.c (.fn 30 [])) [(.t 35), (.t 36)])⟩,
    ⟨(some 38), none, (.call (.c (.fn 29 [])) [(.t 37)])⟩,
    ⟨(some 39), none, (.bin .neq (.t 38) (.c (.sc (.int .i64 0))))⟩,
    ⟨(some 40), none, (.mv (.t 39))⟩,
    ⟨(some 41), (some (40, false)), (.mv (.t 8))⟩,
    ⟨(some 42), (some (40, false)), (.len false (.t 41))⟩,
    ⟨(some 43), (some (40, false)), (.mv (.t 1))⟩,
    ⟨(some 44), (some (40, false)), (.len false (.t 43))⟩,
    ⟨(some 45), (some (40, false)), (.mv (.t 2))⟩,
    ⟨(some 46), (some (40, false)), (.len false (.t 45))⟩,
    ⟨(some 47), (some (40, false)), (.bin .add (.t 44) (.t 46))⟩,
    ⟨(some 48), (some (40, false)), (.bin .neq (.t 42) (.t 47))⟩,
    ⟨(some 49), none, (.pick (.t 40) (.c (.sc (.bool true))) (.t 48))⟩]) (.cond (.t 49) (.seq (.reg [
   ⟨(some 6), none, (.mv (.c (.sc (.bool false))))⟩]) .ret) .skip)) (.seq (.reg [
   ⟨(some 10), none, (.mv (.c .em))⟩]) (.seq (.seq (.reg [
   ⟨(some 11), none, (.mv (.c (.sc (.int .i64 0))))⟩]) (.block 0 (.loop [53, 12, 13, 14, 15, 90, 6, 10, 11] [50, 51, 52, 53, 56, 57, 58, 59, 60, 61, 62, 63, 12, 65, 66, 67, 68, 64, 69, 70, 71, 13, 14, 15, 72, 73, 74, 75, 76, 77, 78, 79, 80, 81, 82, 83, 84, 85, 86, 87, 88, 89, 90, 6, 91, 92, 93, 94, 10, 54, 55, 11] (.seq (.seq (.reg [
   ⟨(some 50), none, (.mv (.t 11))⟩,
    ⟨(some 51), none, (.mv (.t 2))⟩,
    ⟨(some 52), none, (.len false (.t 51))⟩,
    ⟨(some 53), none, (.bin .lss (.t 50) (.t 52))⟩]) (.cond (.t 53) .skip (.exit 0))) (.seq (.block 1 (.seq (.regD [(⟨(some 56), none, (.mv (.t 2))⟩, []), (⟨(some 57), none, (.mv (.t 11))⟩, []), (⟨(some 58), none, (.iad 1 (.t 56) (.t 57))⟩, [0, 1]), (⟨(some 59), none, (.ld none (.t 58))⟩, [2, 0, 1]), (⟨(some 60), none, (.fad 2 (.t 3))⟩, []), (⟨(some 61), none, (.ld none (.t 60))⟩, [4]), (⟨(some 62), none, (.iad 3 (.t 59) (.t 61))⟩, [3, 2, 0, 1, 5, 4]), (⟨(some 63), none, (.ld (some 3) (.t 62))⟩, [6, 3, 2, 0, 1, 5, 4]), (⟨(some 12), none, (.alloc [(.int .i64 0), (.int .i64 0), (.string ⟨#[]⟩)])⟩, []), (⟨none, none, (.st 3 (.t 12) (.t 63))⟩, [8, 7, 6, 3, 2, 0, 1, 5, 4])]) (.seq (.reg [
   ⟨(some 65), none, (.ld (some 4) (.t 7))⟩,
    ⟨(some 66), none, (.mv (.t 8))⟩,
    ⟨(some 67), none, (.ld (some 3) (.t 12))⟩,
    ⟨(some 68), none, (.call (.c (.fn 31 [])) [(.t 65), (.t 66), (.t 67)])⟩,
    ⟨(some 64), none, (.mv (.t 68))⟩,
    ⟨(some 69), none, (.ext (.t 64) 0)⟩,
    ⟨(some 70), none, (.ext (.t 64) 1)⟩,
    ⟨(some 71), none, (.ext (.t 64) 2)⟩,
    ⟨(some 13), none, (.mv (.t 69))⟩,
    ⟨(some 14), none, (.mv (.t 70))⟩,
    ⟨(some 15), none, (.mv (.t 71))⟩]) (.seq (.seq (.regD [(⟨(some 72), none, (.mv (.t 15))⟩, []), (⟨(some 73), none, (.call (.c (.fn 29 [])) [(.t 72)])⟩, [0]), (⟨(some 74), none, (.bin .neq (.t 73) (.c (.sc (.int .i64 0))))⟩, [1, 0]), (⟨(some 75), none, (.mv (.t 74))⟩, [2, 1, 0]), (⟨(some 76), (some (75, false)), (.mv (.t 14))⟩, [3, 2, 1, 0]), (⟨(some 77), (some (75, false)), (.un .not (.t 76))⟩, [4, 3, 2, 1, 0]), (⟨(some 78), none, (.pick (.t 75) (.c (.sc (.bool true))) (.t 77))⟩, [3, 2, 1, 0, 5, 4]), (⟨(some 79), none, (.mv (.t 78))⟩, [6, 3, 2, 1, 0, 5, 4]), (⟨(some 80), (some (79, false)), (.mv (.t 8))⟩, [7, 6, 3, 2, 1, 0, 5, 4]), (⟨(some 81), (some (79, false)), (.mv (.t 13))⟩, [7, 6, 3, 2, 1, 0, 5, 4]), (⟨(some 82), (some (79, false)), (.iad 1 (.t 80) (.t 81))⟩, [8, 7, 6, 3, 2, 1, 0, 5, 4, 9]), (⟨(some 83), (some (79, false)), (.ld none (.t 82))⟩, [10, 8, 7, 6, 3, 2, 1, 0, 5, 4, 9]), (⟨(some 84), (some (79, false)), (.mv (.t 2))⟩, [7, 6, 3, 2, 1, 0, 5, 4]), (⟨(some 85), (some (79, false)), (.mv (.t 11))⟩, [7, 6, 3, 2, 1, 0, 5, 4]), (⟨(some 86), (some (79, false)), (.iad 1 (.t 84) (.t 85))⟩, [12, 7, 6, 3, 2, 1, 0, 5, 4, 13]), (⟨(some 87), (some (79, false)), (.ld none (.t 86))⟩, [14, 12, 7, 6, 3, 2, 1, 0, 5, 4, 13]), (⟨(some 88), (some (79, false)), (.call (.c (.fn 32 [])) [(.t 83), (.t 87)])⟩, [11, 10, 8, 7, 6, 3, 2, 1, 0, 5, 4, 9, 15, 14, 12, 13]), (⟨(some 89), (some (79, false)), (.un .not (.t 88))⟩, [16, 11, 10, 8, 7, 6, 3, 2, 1, 0, 5, 4, 9, 15, 14, 12, 13]), (⟨(some 90), none, (.pick (.t 79) (.c (.sc (.bool true))) (.t 89))⟩, [7, 6, 3, 2, 1, 0, 5, 4, 17, 16, 11, 10, 8, 9, 15, 14, 12, 13])]) (.cond (.t 90) (.seq (.reg [
   ⟨(some 6), none, (.mv (.c (.sc (.bool false))))⟩]) .ret) .skip)) (.reg [
   ⟨(some 91), none, (.mv (.t 10))⟩,
    ⟨(some 92), none, (.ld (some 3) (.t 12))⟩,
    ⟨(some 93), none, (.bsl 3 [(.int .i64 0), (.int .i64 0), (.string ⟨#[]⟩)] 1 [(0, (.t 92))])⟩,
    ⟨(some 94), none, (.app 3 32 (.t 91) (.t 93))⟩,
    ⟨(some 10), none, (.mv (.t 94))⟩]))))) (.reg [
   ⟨(some 54), none, (.mv (.t 11))⟩,
    ⟨(some 55), none, (.bin .add (.t 54) (.c (.sc (.int .i64 1))))⟩,
    ⟨(some 11), none, (.mv (.t 55))⟩])))))) (.seq (.reg [
   ⟨(some 96), none, (.ld (some 4) (.t 7))⟩,
    ⟨(some 97), none, (.mv (.t 8))⟩,
    ⟨(some 98), none, (.mv (.t 10))⟩,
    ⟨(some 99), none, (.call (.c (.fn 33 [])) [(.t 96), (.t 97), (.t 98)])⟩,
    ⟨(some 95), none, (.mv (.t 99))⟩,
    ⟨(some 100), none, (.ext (.t 95) 0)⟩,
    ⟨(some 101), none, (.ext (.t 95) 1)⟩,
    ⟨(some 16), none, (.mv (.t 100))⟩,
    ⟨(some 17), none, (.mv (.t 101))⟩]) (.seq (.reg [
   ⟨(some 102), none, (.mv (.t 17))⟩,
    ⟨(some 103), none, (.call (.c (.fn 29 [])) [(.t 102)])⟩,
    ⟨(some 104), none, (.bin .eql (.t 103) (.c (.sc (.int .i64 0))))⟩,
    ⟨(some 105), none, (.mv (.t 104))⟩,
    ⟨(some 106), (some (105, true)), (.mv (.t 16))⟩,
    ⟨(some 107), (some (105, true)), (.mv (.t 1))⟩,
    ⟨(some 108), (some (105, true)), (.call (.c (.fn 34 [])) [(.t 106), (.t 107)])⟩,
    ⟨(some 109), none, (.pick (.t 105) (.t 108) (.c (.sc (.bool false))))⟩,
    ⟨(some 6), none, (.mv (.t 109))⟩]) .ret))))))))))
def sh_law09_RowsMay (a0 a1 a2 : AV) (σ : Hp) (n : Nat) (R : AEnd → Hp → Nat → Prop) : Prop :=
 bindS (hBox n a0) σ n fun v1 σ n =>
 CALL Try.prog (.fn 26 []) [] σ n (kc_law09_RowsMay13 R v1 a1 a2)
theorem se_law09_RowsMay (a0 a1 a2 : AV) (σ : Hp) (n : Nat) (R : AEnd → Hp → Nat → Prop) : sh_law09_RowsMay a0 a1 a2 σ n R = swp Try.prog sc_law09_RowsMay (retQ [(.t 6)] R) (entry [a0, a1, a2]) σ n := by kernel_rfl
theorem by_law09_RowsMay {a0 a1 a2 : AV} {σ : Hp} {n : Nat} {R : AEnd → Hp → Nat → Prop} (h : sh_law09_RowsMay a0 a1 a2 σ n R) : ConH Try.prog 8 [a0, a1, a2] σ n R := by
  rw [se_law09_RowsMay] at h
  exact conH_of [(.t 6)] (fn := Try.f8) rfl [0, 19, 9, 31, 49, 53, 3, 15, 14, 13, 2, 90, 12, 11, 7, 8, 10, 17, 16, 1, 6] (by kernel_rfl) (by kernel_rfl) (by kernel_rfl) (by kernel_rfl) h
/-- switchback/switchbacklaw09.alive -/
def kc_law09_alive1 (v26 : AV) (v24 : AV) (R : AEnd → Hp → Nat → Prop) (r : AEnd) (σ : Hp) (n : Nat) : Prop :=
 onEnd r (fun v28 =>
 bindP (semBin .add v26 v28) fun v30 =>
 bindP (semBin .eql v30 (.sc (.int .i64 0))) fun v31 =>
 guardP v31 true (some v24) fun v32 =>
 guardP v31 true (aLen false v32) fun v33 =>
 guardP v31 true (semBin .eql v33 (.sc (.int .i64 2))) fun v34 =>
 bindP (aPick v31 v34 (.sc (.bool false))) fun v35 =>
 guardP v35 true (some v24) fun v36 =>
 guardP v35 true (aIad 1 v36 (.sc (.int .i64 0))) fun v37 =>
 guardP v35 true (aLd σ none v37) fun v38 =>
 guardP v35 true (aIad 3 v38 (.sc (.int .i64 0))) fun v39 =>
 guardP v35 true (aFad 1 v39) fun v40 =>
 guardP v35 true (aLd σ none v40) fun v41 =>
 guardP v35 true (semBin .eql v41 (.sc (.int .i64 1))) fun v42 =>
 bindP (aPick v35 v42 (.sc (.bool false))) fun v43 =>
 R (.ret v43) σ n) (fun v29 => R (.pan v29) σ n)
def kc_law09_alive2 (v25 : AV) (v24 : AV) (R : AEnd → Hp → Nat → Prop) (r : AEnd) (σ : Hp) (n : Nat) : Prop :=
 onEnd r (fun v26 =>
 CALL Try.prog (.fn 29 []) [v25] σ n (kc_law09_alive1 v26 v24 R)) (fun v27 => R (.pan v27) σ n)
def kc_law09_alive3 (v11 : AV) (R : AEnd → Hp → Nat → Prop) (r : AEnd) (σ : Hp) (n : Nat) : Prop :=
 onEnd r (fun v22 =>
 bindP (aExt v22 0) fun v24 =>
 bindP (aExt v22 1) fun v25 =>
 CALL Try.prog (.fn 29 []) [v11] σ n (kc_law09_alive2 v25 v24 R)) (fun v23 => R (.pan v23) σ n)
def kc_law09_alive4 (v17 : AV) (v12 : AV) (v10 : AV) (v16 : AV) (v11 : AV) (R : AEnd → Hp → Nat → Prop) (r : AEnd) (σ : Hp) (n : Nat) : Prop :=
 onEnd r (fun v19 =>
 bindS (hBsl σ n 1 [(.slice none 0 0)] 2 [(0, v17), (1, v19)]) σ n fun v21 σ n =>
 CALL Try.prog (.fn 71 []) [v12, v10, v16, v21] σ n (kc_law09_alive3 v11 R)) (fun v20 => R (.pan v20) σ n)
def kc_law09_alive5 (v12 : AV) (v10 : AV) (v16 : AV) (v11 : AV) (R : AEnd → Hp → Nat → Prop) (r : AEnd) (σ : Hp) (n : Nat) : Prop :=
 onEnd r (fun v17 =>
 CALL Try.prog (.fn 70 []) [(.sc (.int .i64 1))] σ n (kc_law09_alive4 v17 v12 v10 v16 v11 R)) (fun v18 => R (.pan v18) σ n)
def kc_law09_alive6 (v10 : AV) (v11 : AV) (R : AEnd → Hp → Nat → Prop) (r : AEnd) (σ : Hp) (n : Nat) : Prop :=
 onEnd r (fun v12 =>
 bindP (aBuild [(.int .i64 0), (.int .i64 0), (.string ⟨#[]⟩)] [(0, 1, (.sc (.int .i64 1))), (1, 1, (.sc (.int .i64 1)))]) fun v14 =>
 bindP (aBuild [(.int .i64 0), (.int .i64 0), (.string ⟨#[]⟩)] [(0, 1, (.sc (.int .i64 1))), (1, 1, (.sc (.int .i64 2)))]) fun v15 =>
 bindS (hBsl σ n 3 [(.int .i64 0), (.int .i64 0), (.string ⟨#[]⟩)] 2 [(0, v14), (1, v15)]) σ n fun v16 σ n =>
 CALL Try.prog (.fn 70 []) [(.sc (.int .i64 2))] σ n (kc_law09_alive5 v12 v10 v16 v11 R)) (fun v13 => R (.pan v13) σ n)
def kc_law09_alive7 (R : AEnd → Hp → Nat → Prop) (r : AEnd) (σ : Hp) (n : Nat) : Prop :=
 onEnd r (fun v8 =>
 bindP (aExt v8 0) fun v10 =>
 bindP (aExt v8 1) fun v11 =>
 CALL Try.prog (.fn 69 []) [] σ n (kc_law09_alive6 v10 v11 R)) (fun v9 => R (.pan v9) σ n)
def kc_law09_alive8 (v3 : AV) (v1 : AV) (R : AEnd → Hp → Nat → Prop) (r : AEnd) (σ : Hp) (n : Nat) : Prop :=
 onEnd r (fun v5 =>
 bindS (hBsl σ n 1 [(.slice none 0 0)] 2 [(0, v3), (1, v5)]) σ n fun v7 σ n =>
 CALL Try.prog (.fn 28 []) [v1, .em, v7] σ n (kc_law09_alive7 R)) (fun v6 => R (.pan v6) σ n)
def kc_law09_alive9 (v1 : AV) (R : AEnd → Hp → Nat → Prop) (r : AEnd) (σ : Hp) (n : Nat) : Prop :=
 onEnd r (fun v3 =>
 CALL Try.prog (.fn 70 []) [(.sc (.int .i64 1))] σ n (kc_law09_alive8 v3 v1 R)) (fun v4 => R (.pan v4) σ n)
def kc_law09_alive10 (R : AEnd → Hp → Nat → Prop) (r : AEnd) (σ : Hp) (n : Nat) : Prop :=
 onEnd r (fun v1 =>
 CALL Try.prog (.fn 70 []) [(.sc (.int .i64 2))] σ n (kc_law09_alive9 v1 R)) (fun v2 => R (.pan v2) σ n)
attribute [go_sem] kc_law09_alive1 kc_law09_alive2 kc_law09_alive3 kc_law09_alive4 kc_law09_alive5 kc_law09_alive6 kc_law09_alive7 kc_law09_alive8 kc_law09_alive9 kc_law09_alive10
def sc_law09_alive : SCode := (.seq (.reg [
   ⟨(some 0), none, (.mv (.c (.sc (.bool false))))⟩]) (.seq (.reg [
   ⟨(some 6), none, (.call (.c (.fn 69 [])) [])⟩,
    ⟨(some 7), none, (.call (.c (.fn 70 [])) [(.c (.sc (.int .i64 2)))])⟩,
    ⟨(some 8), none, (.call (.c (.fn 70 [])) [(.c (.sc (.int .i64 1)))])⟩,
    ⟨(some 9), none, (.bsl 1 [(.slice none 0 0)] 2 [(0, (.t 7)), (1, (.t 8))])⟩,
    ⟨(some 10), none, (.call (.c (.fn 28 [])) [(.t 6), (.c .em), (.t 9)])⟩,
    ⟨(some 5), none, (.mv (.t 10))⟩,
    ⟨(some 11), none, (.ext (.t 5) 0)⟩,
    ⟨(some 12), none, (.ext (.t 5) 1)⟩,
    ⟨(some 1), none, (.mv (.t 11))⟩,
    ⟨(some 2), none, (.mv (.t 12))⟩]) (.seq (.reg [
   ⟨(some 14), none, (.call (.c (.fn 69 [])) [])⟩,
    ⟨(some 15), none, (.mv (.t 1))⟩,
    ⟨(some 16), none, (.build [(.int .i64 0), (.int .i64 0), (.string ⟨#[]⟩)] [(0, (1, (.c (.sc (.int .i64 1))))), (1, (1, (.c (.sc (.int .i64 1)))))])⟩,
    ⟨(some 17), none, (.build [(.int .i64 0), (.int .i64 0), (.string ⟨#[]⟩)] [(0, (1, (.c (.sc (.int .i64 1))))), (1, (1, (.c (.sc (.int .i64 2)))))])⟩,
    ⟨(some 18), none, (.bsl 3 [(.int .i64 0), (.int .i64 0), (.string ⟨#[]⟩)] 2 [(0, (.t 16)), (1, (.t 17))])⟩,
    ⟨(some 19), none, (.call (.c (.fn 70 [])) [(.c (.sc (.int .i64 2)))])⟩,
    ⟨(some 20), none, (.call (.c (.fn 70 [])) [(.c (.sc (.int .i64 1)))])⟩,
    ⟨(some 21), none, (.bsl 1 [(.slice none 0 0)] 2 [(0, (.t 19)), (1, (.t 20))])⟩,
    ⟨(some 22), none, (.call (.c (.fn 71 [])) [(.t 14), (.t 15), (.t 18), (.t 21)])⟩,
    ⟨(some 13), none, (.mv (.t 22))⟩,
    ⟨(some 23), none, (.ext (.t 13) 0)⟩,
    ⟨(some 24), none, (.ext (.t 13) 1)⟩,
    ⟨(some 3), none, (.mv (.t 23))⟩,
    ⟨(some 4), none, (.mv (.t 24))⟩]) (.seq (.reg [
   ⟨(some 25), none, (.mv (.t 2))⟩,
    ⟨(some 26), none, (.call (.c (.fn 29 [])) [(.t 25)])⟩,
    ⟨(some 27), none, (.mv (.t 4))⟩,
    ⟨(some 28), none, (.call (.c (.fn 29 [])) [(.t 27)])⟩,
    ⟨(some 29), none, (.bin .add (.t 26) (.t 28))⟩,
    ⟨(some 30), none, (.bin .eql (.t 29) (.c (.sc (.int .i64 0))))⟩,
    ⟨(some 31), none, (.mv (.t 30))⟩,
    ⟨(some 32), (some (31, true)), (.mv (.t 3))⟩,
    ⟨(some 33), (some (31, true)), (.len false (.t 32))⟩,
    ⟨(some 34), (some (31, true)), (.bin .eql (.t 33) (.c (.sc (.int .i64 2))))⟩,
    ⟨(some 35), none, (.pick (.t 31) (.t 34) (.c (.sc (.bool false))))⟩,
    ⟨(some 36), none, (.mv (.t 35))⟩,
    ⟨(some 37), (some (36, true)), (.mv (.t 3))⟩,
    ⟨(some 38), (some (36, true)), (.iad 1 (.t 37) (.c (.sc (.int .i64 0))))⟩,
    ⟨(some 39), (some (36, true)), (.ld none (.t 38))⟩,
    ⟨(some 40), (some (36, true)), (.iad 3 (.t 39) (.c (.sc (.int .i64 0))))⟩,
    ⟨(some 41), (some (36, true)), (.fad 1 (.t 40))⟩,
    ⟨(some 42), (some (36, true)), (.ld none (.t 41))⟩,
    ⟨(some 43), (some (36, true)), (.bin .eql (.t 42) (.c (.sc (.int .i64 1))))⟩,
    ⟨(some 44), none, (.pick (.t 36) (.t 43) (.c (.sc (.bool false))))⟩,
    ⟨(some 0), none, (.mv (.t 44))⟩]) .ret))))
def sh_law09_alive (σ : Hp) (n : Nat) (R : AEnd → Hp → Nat → Prop) : Prop :=
 CALL Try.prog (.fn 69 []) [] σ n (kc_law09_alive10 R)
theorem se_law09_alive (σ : Hp) (n : Nat) (R : AEnd → Hp → Nat → Prop) : sh_law09_alive σ n R = swp Try.prog sc_law09_alive (retQ [(.t 0)] R) (entry []) σ n := by kernel_rfl
theorem by_law09_alive {σ : Hp} {n : Nat} {R : AEnd → Hp → Nat → Prop} (h : sh_law09_alive σ n R) : ConH Try.prog 26 [] σ n R := by
  rw [se_law09_alive] at h
  exact conH_of [(.t 0)] (fn := Try.f26) rfl [1, 2, 4, 3, 0] (by kernel_rfl) (by kernel_rfl) (by kernel_rfl) (by kernel_rfl) h
/-- switchback/rows.Insert -/
def kc_rows_Insert1 (R : AEnd → Hp → Nat → Prop) (r : AEnd) (σ : Hp) (n : Nat) : Prop :=
 onEnd r (fun v4 =>
 bindP (aExt v4 0) fun v6 =>
 bindP (aExt v4 1) fun v7 =>
 R (.ret (.tp [v6, v7])) σ n) (fun v5 => R (.pan v5) σ n)
attribute [go_sem] kc_rows_Insert1
def sc_rows_Insert : SCode := (.seq (.reg [
   ⟨(some 3), none, (.box (.t 0))⟩,
    ⟨(some 5), none, (.box (.t 2))⟩,
    ⟨(some 6), none, (.mv (.c .em))⟩,
    ⟨(some 7), none, (.mv (.c (.sc (.int .i64 0))))⟩]) (.seq (.reg [
   ⟨(some 8), none, (.ld (some 4) (.t 3))⟩,
    ⟨(some 9), none, (.mv (.t 1))⟩,
    ⟨(some 10), none, (.mkf 73 [(.t 5)])⟩,
    ⟨(some 11), none, (.call (.c (.fn 72 [])) [(.t 8), (.t 9), (.t 10)])⟩,
    ⟨(some 12), none, (.ext (.t 11) 0)⟩,
    ⟨(some 13), none, (.ext (.t 11) 1)⟩,
    ⟨(some 6), none, (.mv (.t 12))⟩,
    ⟨(some 7), none, (.mv (.t 13))⟩]) .ret))
def sh_rows_Insert (a0 a1 a2 : AV) (σ : Hp) (n : Nat) (R : AEnd → Hp → Nat → Prop) : Prop :=
 bindS (hBox n a0) σ n fun v1 σ n =>
 bindS (hBox n a2) σ n fun v2 σ n =>
 bindP (aLd σ (some 4) v1) fun v3 =>
 CALL Try.prog (.fn 72 []) [v3, a1, (.fn 73 [v2])] σ n (kc_rows_Insert1 R)
theorem se_rows_Insert (a0 a1 a2 : AV) (σ : Hp) (n : Nat) (R : AEnd → Hp → Nat → Prop) : sh_rows_Insert a0 a1 a2 σ n R = swp Try.prog sc_rows_Insert (retQ [(.t 6), (.t 7)] R) (entry [a0, a1, a2]) σ n := by kernel_rfl
theorem by_rows_Insert {a0 a1 a2 : AV} {σ : Hp} {n : Nat} {R : AEnd → Hp → Nat → Prop} (h : sh_rows_Insert a0 a1 a2 σ n R) : ConH Try.prog 28 [a0, a1, a2] σ n R := by
  rw [se_rows_Insert] at h
  exact conH_of [(.t 6), (.t 7)] (fn := Try.f28) rfl [0, 2, 3, 1, 5, 6, 7] (by kernel_rfl) (by kernel_rfl) (by kernel_rfl) (by kernel_rfl) h
/-- switchback/switchbacklaw09.num -/
def sc_law09_num : SCode := (.seq (.reg [
   ⟨(some 2), none, (.mv (.c (.sc (.int .i64 0))))⟩]) (.seq (.reg [
   ⟨(some 3), none, (.mv (.t 0))⟩,
    ⟨(some 2), none, (.mv (.t 3))⟩]) .ret))
def sh_law09_num (a0 : AV) (σ : Hp) (n : Nat) (R : AEnd → Hp → Nat → Prop) : Prop :=
 R (.ret a0) σ n
theorem se_law09_num (a0 : AV) (σ : Hp) (n : Nat) (R : AEnd → Hp → Nat → Prop) : sh_law09_num a0 σ n R = swp Try.prog sc_law09_num (retQ [(.t 2)] R) (entry [a0]) σ n := by kernel_rfl
theorem by_law09_num {a0 : AV} {σ : Hp} {n : Nat} {R : AEnd → Hp → Nat → Prop} (h : sh_law09_num a0 σ n R) : ConH Try.prog 29 [a0] σ n R := by
  rw [se_law09_num] at h
  exact conH_of [(.t 2)] (fn := Try.f29) rfl [0, 2] (by kernel_rfl) (by kernel_rfl) (by kernel_rfl) (by kernel_rfl) h
/-- switchback/rows.Check -/
def kc_rows_Check1 (R : AEnd → Hp → Nat → Prop) (s9 : List AV) (K9 : List AV → Hp → Nat → Prop) (v10 : AV) (v12 : AV) (r : AEnd) (σ : Hp) (n : Nat) : Prop :=
 onEnd r (fun v14 =>
 bindP (semBin .neq v14 (.sc (.int .i64 0))) fun v16 =>
 COND v16 (
 R (.ret v14) σ n) (
 bindP (semBin .add (s9.getD 5 .any) (.sc (.int .i64 1))) fun v17 =>
 K9 [v10, v12, v14, v16, (s9.getD 4 .any), v17] σ n)) (fun v15 => R (.pan v15) σ n)
def kd_rows_Check2 (Kd : AV → Wr → List Nat → Prop) (v27 : AV) (v29 : AV) (v35 : AV) (v31 : AV) (v37 : AV) (v39 : AV) (σ : Hp) (n : Nat) (R : AEnd → Hp → Nat → Prop) (r : AEnd) (w42 : Wr) (d42 : List Nat) : Prop :=
 onEnd r (fun v42 =>
 Kd v42 w42 d42) (fun v43 => Apt (names []) (rdA v27) (names []) (rdA v29) ∧
 Apt (names []) (rdA v27) (names []) (rdA v35) ∧
 Apt (names []) (rdA v29) (names []) (rdA v35) ∧
 Apt (names []) (rdA v31) (names []) (rdA v35) ∧
 Apt (names []) (rdA v27) (names []) (rdA v37) ∧
 Apt (names []) (rdA v29) (names []) (rdA v37) ∧
 Apt (names []) (rdA v31) (names []) (rdA v37) ∧
 Apt (names []) (rdA v35) (names []) (rdA v37) ∧
 Apt (names []) (rdA v27) (names []) (rdA v39) ∧
 Apt (names []) (rdA v29) (names []) (rdA v39) ∧
 Apt (names []) (rdA v31) (names []) (rdA v39) ∧
 ∀ (fr_ : Regs) σ n, R (.pan v43) σ n)
def lb_rows_Check3 (v18 : AV) (a1 : AV) (v1 : AV) (R : AEnd → Hp → Nat → Prop) (K19 : List AV → Hp → Nat → Prop) (s19 : List AV) (σ : Hp) (n : Nat) : Prop :=
 bindP (semBin .lss (s19.getD 4 .any) v18) fun v20 =>
 COND v20 (
 bindP (semBin .gtr (s19.getD 4 .any) (.sc (.int .i64 0))) fun v22 =>
 guardP v22 true (some a1) fun v24 =>
 guardP v22 true (some (s19.getD 4 .any)) fun v25 =>
 guardP v22 true (semBin .sub v25 (.sc (.int .i64 1))) fun v26 =>
 guardP v22 true (aIad 1 v24 v26) fun v27 =>
 guardP v22 true (aLd σ none v27) fun v28 =>
 guardP v22 true (aFad 2 v1) fun v29 =>
 guardP v22 true (aLd σ none v29) fun v30 =>
 guardP v22 true (aIad 3 v28 v30) fun v31 =>
 guardP v22 true (aLd σ (some 3) v31) fun v32 =>
 guardP v22 true (some a1) fun v33 =>
 guardP v22 true (some (s19.getD 4 .any)) fun v34 =>
 guardP v22 true (aIad 1 v33 v34) fun v35 =>
 guardP v22 true (aLd σ none v35) fun v36 =>
 guardP v22 true (aFad 2 v1) fun v37 =>
 guardP v22 true (aLd σ none v37) fun v38 =>
 guardP v22 true (aIad 3 v36 v38) fun v39 =>
 guardP v22 true (aLd σ (some 3) v39) fun v40 =>
 guardD v22 true (fun Kd => callD Try.prog (.fn 77 []) [v32, v40] σ (n + 16 * 20) (kd_rows_Check2 Kd v27 v29 v35 v31 v37 v39 σ n R)) fun v41 w41 d41 =>
 guardP v22 true (semBin .geq v41 (.sc (.int .i64 0))) fun v44 =>
 bindP (aPick v22 v44 (.sc (.bool false))) fun v45 =>
 Apt (names []) (rdA v27) (names []) (rdA v29) ∧
 Apt (names []) (rdA v27) (names []) (rdA v35) ∧
 Apt (names []) (rdA v29) (names []) (rdA v35) ∧
 Apt (names []) (rdA v31) (names []) (rdA v35) ∧
 Apt (names []) (rdA v27) (names []) (rdA v37) ∧
 Apt (names []) (rdA v29) (names []) (rdA v37) ∧
 Apt (names []) (rdA v31) (names []) (rdA v37) ∧
 Apt (names []) (rdA v35) (names []) (rdA v37) ∧
 Apt (names []) (rdA v27) (names []) (rdA v39) ∧
 Apt (names []) (rdA v29) (names []) (rdA v39) ∧
 Apt (names []) (rdA v31) (names []) (rdA v39) ∧
 ∀ n_, n + 16 * 23 ≤ n_ → (fun n => (fun σ => COND v45 (
 R (.ret (.sc (.int .i64 9))) σ n) (
 bindP (semBin .add (s19.getD 4 .any) (.sc (.int .i64 1))) fun v46 =>
 K19 [v20, (s19.getD 4 .any), v45, (s19.getD 3 .any), v46] σ n)) (applyW σ w41)) n_) (
 R (.ret (.sc (.int .i64 0))) σ n)
def lb_rows_Check4 (v8 : AV) (a1 : AV) (v1 : AV) (R : AEnd → Hp → Nat → Prop) (K9 : List AV → Hp → Nat → Prop) (s9 : List AV) (σ : Hp) (n : Nat) : Prop :=
 bindP (semBin .lss (s9.getD 5 .any) v8) fun v10 =>
 COND v10 (
 bindP (aIad 1 a1 (s9.getD 5 .any)) fun v11 =>
 bindP (aLd σ none v11) fun v12 =>
 bindP (aLd σ (some 4) v1) fun v13 =>
 CALL Try.prog (.fn 76 []) [v13, v12] σ n (kc_rows_Check1 R s9 K9 v10 v12)) (
 bindP (aLen false a1) fun v18 => bnd σ a1 →
 LOOP (lb_rows_Check3 v18 a1 v1 R) [(.tp []), (.tp []), (.tp []), (s9.getD 4 .any), (.sc (.int .i64 0))] σ n)
def kc_rows_Check5 (R : AEnd → Hp → Nat → Prop) (a1 : AV) (v1 : AV) (r : AEnd) (σ : Hp) (n : Nat) : Prop :=
 onEnd r (fun v5 =>
 bindP (aUn .not v5) fun v7 =>
 COND v7 (
 R (.ret (.sc (.int .i64 9))) σ n) (
 bindP (aLen false a1) fun v8 => bnd σ a1 →
 LOOP (lb_rows_Check4 v8 a1 v1 R) [(.tp []), (.tp []), (.tp []), (.tp []), (.sc (.int .i64 0)), (.sc (.int .i64 0))] σ n)) (fun v6 => R (.pan v6) σ n)
attribute [go_sem] kc_rows_Check1 kd_rows_Check2 lb_rows_Check3 lb_rows_Check4 kc_rows_Check5
def sc_rows_Check : SCode := (.seq (.reg [
   ⟨(some 2), none, (.box (.t 0))⟩,
    ⟨(some 4), none, (.mv (.c (.sc (.int .i64 0))))⟩]) (.seq (.seq (.reg [
   ⟨(some 9), none, (.mv (.t 1))⟩,
    ⟨(some 10), none, (.len false (.t 9))⟩,
    ⟨(some 11), none, (.bin .gtr (.t 10) (.c (.sc (.int .i64 256))))⟩]) (.cond (.t 11) (.seq (.reg [
   ⟨(some 4), none, (.mv (.c (.sc (.int .i64 3))))⟩]) .ret) .skip)) (.seq (.seq (.reg [
   ⟨(some 12), none, (.ld (some 4) (.t 2))⟩,
    ⟨(some 13), none, (.call (.c (.fn 75 [])) [(.t 12)])⟩,
    ⟨(some 14), none, (.un .not (.t 13))⟩]) (.cond (.t 14) (.seq (.reg [
   ⟨(some 4), none, (.mv (.c (.sc (.int .i64 9))))⟩]) .ret) .skip)) (.seq (.seq (.reg [
   ⟨(some 15), none, (.mv (.t 1))⟩,
    ⟨(some 16), none, (.len false (.t 15))⟩,
    ⟨(some 17), none, (.mv (.c (.sc (.int .i64 0))))⟩]) (.block 0 (.loop [18, 6, 7, 25, 4, 17] [18, 19, 20, 6, 21, 22, 23, 7, 24, 25, 26, 4, 27, 17] (.seq (.reg [
   ⟨(some 18), none, (.bin .lss (.t 17) (.t 16))⟩]) (.seq (.cond (.t 18) .skip (.exit 0)) (.seq (.block 1 (.seq (.reg [
   ⟨(some 19), none, (.iad 1 (.t 15) (.t 17))⟩,
    ⟨(some 20), none, (.ld none (.t 19))⟩,
    ⟨(some 6), none, (.mv (.t 20))⟩]) (.seq (.reg [
   ⟨(some 21), none, (.ld (some 4) (.t 2))⟩,
    ⟨(some 22), none, (.mv (.t 6))⟩,
    ⟨(some 23), none, (.call (.c (.fn 76 [])) [(.t 21), (.t 22)])⟩,
    ⟨(some 7), none, (.mv (.t 23))⟩]) (.seq (.reg [
   ⟨(some 24), none, (.mv (.t 7))⟩,
    ⟨(some 25), none, (.bin .neq (.t 24) (.c (.sc (.int .i64 0))))⟩]) (.cond (.t 25) (.seq (.reg [
   ⟨(some 26), none, (.mv (.t 7))⟩,
    ⟨(some 4), none, (.mv (.t 26))⟩]) .ret) .skip))))) (.reg [
   ⟨(some 27), none, (.bin .add (.t 17) (.c (.sc (.int .i64 1))))⟩,
    ⟨(some 17), none, (.mv (.t 27))⟩]))))))) (.seq (.seq (.reg [
   ⟨(some 28), none, (.mv (.t 1))⟩,
    ⟨(some 29), none, (.len false (.t 28))⟩,
    ⟨(some 30), none, (.mv (.c (.sc (.int .i64 0))))⟩]) (.block 2 (.loop [31, 8, 55, 4, 30] [31, 32, 8, 33, 34, 35, 36, 37, 38, 39, 40, 41, 42, 43, 44, 45, 46, 47, 48, 49, 50, 51, 52, 53, 54, 55, 4, 56, 30] (.seq (.reg [
   ⟨(some 31), none, (.bin .lss (.t 30) (.t 29))⟩]) (.seq (.cond (.t 31) .skip (.exit 2)) (.seq (.block 3 (.seq (.reg [
   ⟨(some 32), none, (.mv (.t 30))⟩,
    ⟨(some 8), none, (.mv (.t 32))⟩]) (.seq (.regD [(⟨(some 33), none, (.mv (.t 8))⟩, []), (⟨(some 34), none, (.bin .gtr (.t 33) (.c (.sc (.int .i64 0))))⟩, [0]), (⟨(some 35), none, (.mv (.t 34))⟩, [1, 0]), (⟨(some 36), (some (35, true)), (.mv (.t 1))⟩, [2, 1, 0]), (⟨(some 37), (some (35, true)), (.mv (.t 8))⟩, [2, 1, 0]), (⟨(some 38), (some (35, true)), (.bin .sub (.t 37) (.c (.sc (.int .i64 1))))⟩, [4, 2, 1, 0]), (⟨(some 39), (some (35, true)), (.iad 1 (.t 36) (.t 38))⟩, [3, 2, 1, 0, 5, 4]), (⟨(some 40), (some (35, true)), (.ld none (.t 39))⟩, [6, 3, 2, 1, 0, 5, 4]), (⟨(some 41), (some (35, true)), (.fad 2 (.t 2))⟩, [2, 1, 0]), (⟨(some 42), (some (35, true)), (.ld none (.t 41))⟩, [8, 2, 1, 0]), (⟨(some 43), (some (35, true)), (.iad 3 (.t 40) (.t 42))⟩, [7, 6, 3, 2, 1, 0, 5, 4, 9, 8]), (⟨(some 44), (some (35, true)), (.ld (some 3) (.t 43))⟩, [10, 7, 6, 3, 2, 1, 0, 5, 4, 9, 8]), (⟨(some 45), (some (35, true)), (.mv (.t 1))⟩, [2, 1, 0]), (⟨(some 46), (some (35, true)), (.mv (.t 8))⟩, [2, 1, 0]), (⟨(some 47), (some (35, true)), (.iad 1 (.t 45) (.t 46))⟩, [12, 2, 1, 0, 13]), (⟨(some 48), (some (35, true)), (.ld none (.t 47))⟩, [14, 12, 2, 1, 0, 13]), (⟨(some 49), (some (35, true)), (.fad 2 (.t 2))⟩, [2, 1, 0]), (⟨(some 50), (some (35, true)), (.ld none (.t 49))⟩, [16, 2, 1, 0]), (⟨(some 51), (some (35, true)), (.iad 3 (.t 48) (.t 50))⟩, [15, 14, 12, 2, 1, 0, 13, 17, 16]), (⟨(some 52), (some (35, true)), (.ld (some 3) (.t 51))⟩, [18, 15, 14, 12, 2, 1, 0, 13, 17, 16]), (⟨(some 53), (some (35, true)), (.call (.c (.fn 77 [])) [(.t 44), (.t 52)])⟩, [11, 10, 7, 6, 3, 2, 1, 0, 5, 4, 9, 8, 19, 18, 15, 14, 12, 13, 17, 16]), (⟨(some 54), (some (35, true)), (.bin .geq (.t 53) (.c (.sc (.int .i64 0))))⟩, [20, 11, 10, 7, 6, 3, 2, 1, 0, 5, 4, 9, 8, 19, 18, 15, 14, 12, 13, 17, 16]), (⟨(some 55), none, (.pick (.t 35) (.t 54) (.c (.sc (.bool false))))⟩, [2, 1, 0, 21, 20, 11, 10, 7, 6, 3, 5, 4, 9, 8, 19, 18, 15, 14, 12, 13, 17, 16])]) (.cond (.t 55) (.seq (.reg [
   ⟨(some 4), none, (.mv (.c (.sc (.int .i64 9))))⟩]) .ret) .skip)))) (.reg [
   ⟨(some 56), none, (.bin .add (.t 30) (.c (.sc (.int .i64 1))))⟩,
    ⟨(some 30), none, (.mv (.t 56))⟩]))))))) (.seq (.reg [
   ⟨(some 4), none, (.mv (.c (.sc (.int .i64 0))))⟩]) .ret))))))
def sh_rows_Check (a0 a1 : AV) (σ : Hp) (n : Nat) (R : AEnd → Hp → Nat → Prop) : Prop :=
 bindS (hBox n a0) σ n fun v1 σ n =>
 bindP (aLen false a1) fun v2 => bnd σ a1 →
 bindP (semBin .gtr v2 (.sc (.int .i64 256))) fun v3 =>
 COND v3 (
 R (.ret (.sc (.int .i64 3))) σ n) (
 bindP (aLd σ (some 4) v1) fun v4 =>
 CALL Try.prog (.fn 75 []) [v4] σ n (kc_rows_Check5 R a1 v1))
theorem se_rows_Check (a0 a1 : AV) (σ : Hp) (n : Nat) (R : AEnd → Hp → Nat → Prop) : sh_rows_Check a0 a1 σ n R = swp Try.prog sc_rows_Check (retQ [(.t 4)] R) (entry [a0, a1]) σ n := by kernel_rfl
theorem by_rows_Check {a0 a1 : AV} {σ : Hp} {n : Nat} {R : AEnd → Hp → Nat → Prop} (h : sh_rows_Check a0 a1 σ n R) : ConH Try.prog 30 [a0, a1] σ n R := by
  rw [se_rows_Check] at h
  exact conH_of [(.t 4)] (fn := Try.f30) rfl [0, 11, 14, 16, 18, 15, 6, 25, 7, 17, 29, 31, 1, 8, 2, 55, 30, 4] (by kernel_rfl) (by kernel_rfl) (by kernel_rfl) (by kernel_rfl) h
/-- switchback/rows.Find -/
def kc_rows_Find1 (R : AEnd → Hp → Nat → Prop) (r : AEnd) (σ : Hp) (n : Nat) : Prop :=
 onEnd r (fun v9 =>
 bindP (aExt v9 0) fun v11 =>
 bindP (aExt v9 1) fun v12 =>
 R (.ret (.tp [v11, v12, (.sc (.int .i64 0))])) σ n) (fun v10 => R (.pan v10) σ n)
def kc_rows_Find2 (R : AEnd → Hp → Nat → Prop) (v1 : AV) (v2 : AV) (a1 : AV) (r : AEnd) (σ : Hp) (n : Nat) : Prop :=
 onEnd r (fun v4 =>
 bindP (semBin .neq v4 (.sc (.int .i64 0))) fun v6 =>
 COND v6 (
 R (.ret (.tp [(.sc (.int .i64 0)), (.sc (.bool false)), v4])) σ n) (
 bindP (aLd σ (some 4) v1) fun v7 =>
 bindP (aLd σ (some 3) v2) fun v8 =>
 CALL Try.prog (.fn 78 []) [v7, a1, v8] σ n (kc_rows_Find1 R))) (fun v5 => R (.pan v5) σ n)
attribute [go_sem] kc_rows_Find1 kc_rows_Find2
def sc_rows_Find : SCode := (.seq (.reg [
   ⟨(some 3), none, (.box (.t 0))⟩,
    ⟨(some 5), none, (.box (.t 2))⟩,
    ⟨(some 6), none, (.mv (.c (.sc (.int .i64 0))))⟩,
    ⟨(some 7), none, (.mv (.c (.sc (.bool false))))⟩,
    ⟨(some 8), none, (.mv (.c (.sc (.int .i64 0))))⟩]) (.seq (.seq (.reg [
   ⟨(some 12), none, (.ld (some 4) (.t 3))⟩,
    ⟨(some 13), none, (.mv (.t 1))⟩,
    ⟨(some 14), none, (.call (.c (.fn 30 [])) [(.t 12), (.t 13)])⟩,
    ⟨(some 9), none, (.mv (.t 14))⟩]) (.seq (.reg [
   ⟨(some 15), none, (.mv (.t 9))⟩,
    ⟨(some 16), none, (.bin .neq (.t 15) (.c (.sc (.int .i64 0))))⟩]) (.cond (.t 16) (.seq (.reg [
   ⟨(some 17), none, (.mv (.t 9))⟩,
    ⟨(some 6), none, (.mv (.c (.sc (.int .i64 0))))⟩,
    ⟨(some 7), none, (.mv (.c (.sc (.bool false))))⟩,
    ⟨(some 8), none, (.mv (.t 17))⟩]) .ret) .skip))) (.seq (.reg [
   ⟨(some 19), none, (.ld (some 4) (.t 3))⟩,
    ⟨(some 20), none, (.mv (.t 1))⟩,
    ⟨(some 21), none, (.ld (some 3) (.t 5))⟩,
    ⟨(some 22), none, (.call (.c (.fn 78 [])) [(.t 19), (.t 20), (.t 21)])⟩,
    ⟨(some 18), none, (.mv (.t 22))⟩,
    ⟨(some 23), none, (.ext (.t 18) 0)⟩,
    ⟨(some 24), none, (.ext (.t 18) 1)⟩,
    ⟨(some 10), none, (.mv (.t 23))⟩,
    ⟨(some 11), none, (.mv (.t 24))⟩]) (.seq (.reg [
   ⟨(some 25), none, (.mv (.t 10))⟩,
    ⟨(some 26), none, (.mv (.t 11))⟩,
    ⟨(some 6), none, (.mv (.t 25))⟩,
    ⟨(some 7), none, (.mv (.t 26))⟩,
    ⟨(some 8), none, (.mv (.c (.sc (.int .i64 0))))⟩]) .ret))))
def sh_rows_Find (a0 a1 a2 : AV) (σ : Hp) (n : Nat) (R : AEnd → Hp → Nat → Prop) : Prop :=
 bindS (hBox n a0) σ n fun v1 σ n =>
 bindS (hBox n a2) σ n fun v2 σ n =>
 bindP (aLd σ (some 4) v1) fun v3 =>
 CALL Try.prog (.fn 30 []) [v3, a1] σ n (kc_rows_Find2 R v1 v2 a1)
theorem se_rows_Find (a0 a1 a2 : AV) (σ : Hp) (n : Nat) (R : AEnd → Hp → Nat → Prop) : sh_rows_Find a0 a1 a2 σ n R = swp Try.prog sc_rows_Find (retQ [(.t 6), (.t 7), (.t 8)] R) (entry [a0, a1, a2]) σ n := by kernel_rfl
theorem by_rows_Find {a0 a1 a2 : AV} {σ : Hp} {n : Nat} {R : AEnd → Hp → Nat → Prop} (h : sh_rows_Find a0 a1 a2 σ n R) : ConH Try.prog 31 [a0, a1, a2] σ n R := by
  rw [se_rows_Find] at h
  exact conH_of [(.t 6), (.t 7), (.t 8)] (fn := Try.f31) rfl [0, 2, 16, 9, 3, 1, 5, 10, 11, 6, 7, 8] (by kernel_rfl) (by kernel_rfl) (by kernel_rfl) (by kernel_rfl) h
/-- switchback/switchbackplain.SameRow -/
def lb_plain_SameRow1 (a0 : AV) (a1 : AV) (R : AEnd → Hp → Nat → Prop) (K4 : List AV → Hp → Nat → Prop) (s4 : List AV) (σ : Hp) (n : Nat) : Prop :=
 bindP (aLen false a0) fun v5 => bnd σ a0 →
 bindP (semBin .lss (s4.getD 3 .any) v5) fun v6 =>
 COND v6 (
 bindP (aIad 3 a0 (s4.getD 3 .any)) fun v9 =>
 bindP (aLd σ (some 3) v9) fun v10 =>
 bindP (aIad 3 a1 (s4.getD 3 .any)) fun v13 =>
 bindP (aLd σ (some 3) v13) fun v14 =>
 bindP (aEqs [0, 0, 2] true v10 v14) fun v15 =>
 Apt (names []) (rdA v9) (names []) (rdA v13) ∧
 ∀ n_, n + 16 * 9 ≤ n_ → (fun n => COND v15 (
 R (.ret (.sc (.bool false))) σ n) (
 bindP (semBin .add (s4.getD 3 .any) (.sc (.int .i64 1))) fun v16 =>
 K4 [v6, v15, (s4.getD 2 .any), v16] σ n)) n_) (
 R (.ret (.sc (.bool true))) σ n)
attribute [go_sem] lb_plain_SameRow1
def sc_plain_SameRow : SCode := (.seq (.reg [
   ⟨(some 4), none, (.mv (.c (.sc (.bool false))))⟩]) (.seq (.seq (.reg [
   ⟨(some 6), none, (.mv (.t 0))⟩,
    ⟨(some 7), none, (.len false (.t 6))⟩,
    ⟨(some 8), none, (.mv (.t 1))⟩,
    ⟨(some 9), none, (.len false (.t 8))⟩,
    ⟨(some 10), none, (.bin .neq (.t 7) (.t 9))⟩]) (.cond (.t 10) (.seq (.reg [
   ⟨(some 4), none, (.mv (.c (.sc (.bool false))))⟩]) .ret) .skip)) (.seq (.seq (.reg [
   ⟨(some 5), none, (.mv (.c (.sc (.int .i64 0))))⟩]) (.block 0 (.loop [14, 25, 4, 5] [11, 12, 13, 14, 17, 18, 19, 20, 21, 22, 23, 24, 25, 4, 15, 16, 5] (.seq (.seq (.reg [
   ⟨(some 11), none, (.mv (.t 5))⟩,
    ⟨(some 12), none, (.mv (.t 0))⟩,
    ⟨(some 13), none, (.len false (.t 12))⟩,
    ⟨(some 14), none, (.bin .lss (.t 11) (.t 13))⟩]) (.cond (.t 14) .skip (.exit 0))) (.seq (.block 1 (.seq (.regD [(⟨(some 17), none, (.mv (.t 0))⟩, []), (⟨(some 18), none, (.mv (.t 5))⟩, []), (⟨(some 19), none, (.iad 3 (.t 17) (.t 18))⟩, [0, 1]), (⟨(some 20), none, (.ld (some 3) (.t 19))⟩, [2, 0, 1]), (⟨(some 21), none, (.mv (.t 1))⟩, []), (⟨(some 22), none, (.mv (.t 5))⟩, []), (⟨(some 23), none, (.iad 3 (.t 21) (.t 22))⟩, [4, 5]), (⟨(some 24), none, (.ld (some 3) (.t 23))⟩, [6, 4, 5]), (⟨(some 25), none, (.eqs [0, 0, 2] true (.t 20) (.t 24))⟩, [3, 2, 0, 1, 7, 6, 4, 5])]) (.cond (.t 25) (.seq (.reg [
   ⟨(some 4), none, (.mv (.c (.sc (.bool false))))⟩]) .ret) .skip))) (.reg [
   ⟨(some 15), none, (.mv (.t 5))⟩,
    ⟨(some 16), none, (.bin .add (.t 15) (.c (.sc (.int .i64 1))))⟩,
    ⟨(some 5), none, (.mv (.t 16))⟩])))))) (.seq (.reg [
   ⟨(some 4), none, (.mv (.c (.sc (.bool true))))⟩]) .ret))))
def sh_plain_SameRow (a0 a1 : AV) (σ : Hp) (n : Nat) (R : AEnd → Hp → Nat → Prop) : Prop :=
 bindP (aLen false a0) fun v1 => bnd σ a0 →
 bindP (aLen false a1) fun v2 => bnd σ a1 →
 bindP (semBin .neq v1 v2) fun v3 =>
 COND v3 (
 R (.ret (.sc (.bool false))) σ n) (
 LOOP (lb_plain_SameRow1 a0 a1 R) [(.tp []), (.tp []), (.sc (.bool false)), (.sc (.int .i64 0))] σ n)
theorem se_plain_SameRow (a0 a1 : AV) (σ : Hp) (n : Nat) (R : AEnd → Hp → Nat → Prop) : sh_plain_SameRow a0 a1 σ n R = swp Try.prog sc_plain_SameRow (retQ [(.t 4)] R) (entry [a0, a1]) σ n := by kernel_rfl
theorem by_plain_SameRow {a0 a1 : AV} {σ : Hp} {n : Nat} {R : AEnd → Hp → Nat → Prop} (h : sh_plain_SameRow a0 a1 σ n R) : ConH Try.prog 32 [a0, a1] σ n R := by
  rw [se_plain_SameRow] at h
  exact conH_of [(.t 4)] (fn := Try.f32) rfl [10, 14, 0, 1, 25, 5, 4] (by kernel_rfl) (by kernel_rfl) (by kernel_rfl) (by kernel_rfl) h
/-- switchback/rows.Delete -/
def kc_rows_Delete1 (R : AEnd → Hp → Nat → Prop) (r : AEnd) (σ : Hp) (n : Nat) : Prop :=
 onEnd r (fun v4 =>
 bindP (aExt v4 0) fun v6 =>
 bindP (aExt v4 1) fun v7 =>
 R (.ret (.tp [v6, v7])) σ n) (fun v5 => R (.pan v5) σ n)
attribute [go_sem] kc_rows_Delete1
def sc_rows_Delete : SCode := (.seq (.reg [
   ⟨(some 3), none, (.box (.t 0))⟩,
    ⟨(some 5), none, (.box (.t 2))⟩,
    ⟨(some 6), none, (.mv (.c .em))⟩,
    ⟨(some 7), none, (.mv (.c (.sc (.int .i64 0))))⟩]) (.seq (.reg [
   ⟨(some 8), none, (.ld (some 4) (.t 3))⟩,
    ⟨(some 9), none, (.mv (.t 1))⟩,
    ⟨(some 10), none, (.mkf 79 [(.t 5)])⟩,
    ⟨(some 11), none, (.call (.c (.fn 72 [])) [(.t 8), (.t 9), (.t 10)])⟩,
    ⟨(some 12), none, (.ext (.t 11) 0)⟩,
    ⟨(some 13), none, (.ext (.t 11) 1)⟩,
    ⟨(some 6), none, (.mv (.t 12))⟩,
    ⟨(some 7), none, (.mv (.t 13))⟩]) .ret))
def sh_rows_Delete (a0 a1 a2 : AV) (σ : Hp) (n : Nat) (R : AEnd → Hp → Nat → Prop) : Prop :=
 bindS (hBox n a0) σ n fun v1 σ n =>
 bindS (hBox n a2) σ n fun v2 σ n =>
 bindP (aLd σ (some 4) v1) fun v3 =>
 CALL Try.prog (.fn 72 []) [v3, a1, (.fn 79 [v2])] σ n (kc_rows_Delete1 R)
theorem se_rows_Delete (a0 a1 a2 : AV) (σ : Hp) (n : Nat) (R : AEnd → Hp → Nat → Prop) : sh_rows_Delete a0 a1 a2 σ n R = swp Try.prog sc_rows_Delete (retQ [(.t 6), (.t 7)] R) (entry [a0, a1, a2]) σ n := by kernel_rfl
theorem by_rows_Delete {a0 a1 a2 : AV} {σ : Hp} {n : Nat} {R : AEnd → Hp → Nat → Prop} (h : sh_rows_Delete a0 a1 a2 σ n R) : ConH Try.prog 33 [a0, a1, a2] σ n R := by
  rw [se_rows_Delete] at h
  exact conH_of [(.t 6), (.t 7)] (fn := Try.f33) rfl [0, 2, 3, 1, 5, 6, 7] (by kernel_rfl) (by kernel_rfl) (by kernel_rfl) (by kernel_rfl) h
/-- switchback/switchbackplain.SameRows -/
def kd_plain_SameRows1 (v9 : AV) (v13 : AV) (n : Nat) (σ : Hp) (R : AEnd → Hp → Nat → Prop) (s4 : List AV) (K4 : List AV → Hp → Nat → Prop) (v6 : AV) (r : AEnd) (w15 : Wr) (d15 : List Nat) : Prop :=
 onEnd r (fun v15 =>
 bindP (aUn .not v15) fun v17 =>
 Apt (names []) (rdA v9) (names []) (rdA v13) ∧
 ∀ n_, n + 16 * 10 ≤ n_ → (fun n => (fun σ => COND v17 (
 R (.ret (.sc (.bool false))) σ n) (
 bindP (semBin .add (s4.getD 3 .any) (.sc (.int .i64 1))) fun v18 =>
 K4 [v6, v17, (s4.getD 2 .any), v18] σ n)) (applyW σ w15)) n_) (fun v16 => Apt (names []) (rdA v9) (names []) (rdA v13) ∧
 ∀ (fr_ : Regs) σ n, R (.pan v16) σ n)
def lb_plain_SameRows2 (a0 : AV) (a1 : AV) (R : AEnd → Hp → Nat → Prop) (K4 : List AV → Hp → Nat → Prop) (s4 : List AV) (σ : Hp) (n : Nat) : Prop :=
 bindP (aLen false a0) fun v5 => bnd σ a0 →
 bindP (semBin .lss (s4.getD 3 .any) v5) fun v6 =>
 COND v6 (
 bindP (aIad 1 a0 (s4.getD 3 .any)) fun v9 =>
 bindP (aLd σ none v9) fun v10 =>
 bindP (aIad 1 a1 (s4.getD 3 .any)) fun v13 =>
 bindP (aLd σ none v13) fun v14 =>
 callD Try.prog (.fn 32 []) [v10, v14] σ (n + 16 * 8) (kd_plain_SameRows1 v9 v13 n σ R s4 K4 v6)) (
 R (.ret (.sc (.bool true))) σ n)
attribute [go_sem] kd_plain_SameRows1 lb_plain_SameRows2
def sc_plain_SameRows : SCode := (.seq (.reg [
   ⟨(some 4), none, (.mv (.c (.sc (.bool false))))⟩]) (.seq (.seq (.reg [
   ⟨(some 6), none, (.mv (.t 0))⟩,
    ⟨(some 7), none, (.len false (.t 6))⟩,
    ⟨(some 8), none, (.mv (.t 1))⟩,
    ⟨(some 9), none, (.len false (.t 8))⟩,
    ⟨(some 10), none, (.bin .neq (.t 7) (.t 9))⟩]) (.cond (.t 10) (.seq (.reg [
   ⟨(some 4), none, (.mv (.c (.sc (.bool false))))⟩]) .ret) .skip)) (.seq (.seq (.reg [
   ⟨(some 5), none, (.mv (.c (.sc (.int .i64 0))))⟩]) (.block 0 (.loop [14, 26, 4, 5] [11, 12, 13, 14, 17, 18, 19, 20, 21, 22, 23, 24, 25, 26, 4, 15, 16, 5] (.seq (.seq (.reg [
   ⟨(some 11), none, (.mv (.t 5))⟩,
    ⟨(some 12), none, (.mv (.t 0))⟩,
    ⟨(some 13), none, (.len false (.t 12))⟩,
    ⟨(some 14), none, (.bin .lss (.t 11) (.t 13))⟩]) (.cond (.t 14) .skip (.exit 0))) (.seq (.block 1 (.seq (.regD [(⟨(some 17), none, (.mv (.t 0))⟩, []), (⟨(some 18), none, (.mv (.t 5))⟩, []), (⟨(some 19), none, (.iad 1 (.t 17) (.t 18))⟩, [0, 1]), (⟨(some 20), none, (.ld none (.t 19))⟩, [2, 0, 1]), (⟨(some 21), none, (.mv (.t 1))⟩, []), (⟨(some 22), none, (.mv (.t 5))⟩, []), (⟨(some 23), none, (.iad 1 (.t 21) (.t 22))⟩, [4, 5]), (⟨(some 24), none, (.ld none (.t 23))⟩, [6, 4, 5]), (⟨(some 25), none, (.call (.c (.fn 32 [])) [(.t 20), (.t 24)])⟩, [3, 2, 0, 1, 7, 6, 4, 5]), (⟨(some 26), none, (.un .not (.t 25))⟩, [8, 3, 2, 0, 1, 7, 6, 4, 5])]) (.cond (.t 26) (.seq (.reg [
   ⟨(some 4), none, (.mv (.c (.sc (.bool false))))⟩]) .ret) .skip))) (.reg [
   ⟨(some 15), none, (.mv (.t 5))⟩,
    ⟨(some 16), none, (.bin .add (.t 15) (.c (.sc (.int .i64 1))))⟩,
    ⟨(some 5), none, (.mv (.t 16))⟩])))))) (.seq (.reg [
   ⟨(some 4), none, (.mv (.c (.sc (.bool true))))⟩]) .ret))))
def sh_plain_SameRows (a0 a1 : AV) (σ : Hp) (n : Nat) (R : AEnd → Hp → Nat → Prop) : Prop :=
 bindP (aLen false a0) fun v1 => bnd σ a0 →
 bindP (aLen false a1) fun v2 => bnd σ a1 →
 bindP (semBin .neq v1 v2) fun v3 =>
 COND v3 (
 R (.ret (.sc (.bool false))) σ n) (
 LOOP (lb_plain_SameRows2 a0 a1 R) [(.tp []), (.tp []), (.sc (.bool false)), (.sc (.int .i64 0))] σ n)
theorem se_plain_SameRows (a0 a1 : AV) (σ : Hp) (n : Nat) (R : AEnd → Hp → Nat → Prop) : sh_plain_SameRows a0 a1 σ n R = swp Try.prog sc_plain_SameRows (retQ [(.t 4)] R) (entry [a0, a1]) σ n := by kernel_rfl
theorem by_plain_SameRows {a0 a1 : AV} {σ : Hp} {n : Nat} {R : AEnd → Hp → Nat → Prop} (h : sh_plain_SameRows a0 a1 σ n R) : ConH Try.prog 34 [a0, a1] σ n R := by
  rw [se_plain_SameRows] at h
  exact conH_of [(.t 4)] (fn := Try.f34) rfl [10, 14, 0, 1, 26, 5, 4] (by kernel_rfl) (by kernel_rfl) (by kernel_rfl) (by kernel_rfl) h
/-- switchback/switchbacklaw09.table -/
def sc_law09_table : SCode := (.seq (.reg [
   ⟨(some 0), none, (.alloc [(.string ⟨#[]⟩), (.slice none 0 0), (.int .i64 0), (.slice none 0 0)])⟩]) (.seq (.reg [
   ⟨(some 1), none, (.build [(.string ⟨#[]⟩), (.int .i64 0), (.bool false)] [(0, (1, (.c (.s [97])))), (1, (1, (.c (.sc (.int .i64 1))))), (2, (1, (.c (.sc (.bool true)))))])⟩,
    ⟨(some 2), none, (.build [(.string ⟨#[]⟩), (.int .i64 0), (.bool false)] [(0, (1, (.c (.s [98])))), (1, (1, (.c (.sc (.int .i64 3)))))])⟩,
    ⟨(some 3), none, (.bsl 3 [(.string ⟨#[]⟩), (.int .i64 0), (.bool false)] 2 [(0, (.t 1)), (1, (.t 2))])⟩,
    ⟨(some 4), none, (.build [(.string ⟨#[]⟩), (.slice none 0 0), (.int .i64 0), (.slice none 0 0)] [(0, (1, (.c (.s [116])))), (1, (1, (.t 3)))])⟩,
    ⟨none, none, (.st 4 (.t 0) (.t 4))⟩]) .ret))
def sh_law09_table (σ : Hp) (n : Nat) (R : AEnd → Hp → Nat → Prop) : Prop :=
 bindS (hAlloc n [(.string ⟨#[]⟩), (.slice none 0 0), (.int .i64 0), (.slice none 0 0)]) σ n fun v1 σ n =>
 bindP (aBuild [(.string ⟨#[]⟩), (.int .i64 0), (.bool false)] [(0, 1, (.s [97])), (1, 1, (.sc (.int .i64 1))), (2, 1, (.sc (.bool true)))]) fun v2 =>
 bindP (aBuild [(.string ⟨#[]⟩), (.int .i64 0), (.bool false)] [(0, 1, (.s [98])), (1, 1, (.sc (.int .i64 3)))]) fun v3 =>
 bindS (hBsl σ n 3 [(.string ⟨#[]⟩), (.int .i64 0), (.bool false)] 2 [(0, v2), (1, v3)]) σ n fun v4 σ n =>
 bindP (aBuild [(.string ⟨#[]⟩), (.slice none 0 0), (.int .i64 0), (.slice none 0 0)] [(0, 1, (.s [116])), (1, 1, v4)]) fun v5 =>
 bindS (hSt σ 4 v1 v5) σ n fun v6 σ n =>
 bindP (aLd σ (some 4) v1) fun v7 =>
 R (.ret v7) σ n
theorem se_law09_table (σ : Hp) (n : Nat) (R : AEnd → Hp → Nat → Prop) : sh_law09_table σ n R = swp Try.prog sc_law09_table (retQ [(.c 0 (some 4))] R) (entry []) σ n := by kernel_rfl
theorem by_law09_table {σ : Hp} {n : Nat} {R : AEnd → Hp → Nat → Prop} (h : sh_law09_table σ n R) : ConH Try.prog 69 [] σ n R := by
  rw [se_law09_table] at h
  exact conH_of [(.c 0 (some 4))] (fn := Try.f69) rfl [0] (by kernel_rfl) (by kernel_rfl) (by kernel_rfl) (by kernel_rfl) h
/-- switchback/switchbacklaw09.row -/
def sc_law09_row : SCode := (.seq (.reg [
   ⟨(some 2), none, (.mv (.c .em))⟩]) (.seq (.reg [
   ⟨(some 3), none, (.mv (.t 0))⟩,
    ⟨(some 4), none, (.build [(.int .i64 0), (.int .i64 0), (.string ⟨#[]⟩)] [(0, (1, (.c (.sc (.int .i64 1))))), (1, (1, (.t 3)))])⟩,
    ⟨(some 5), none, (.build [(.int .i64 0), (.int .i64 0), (.string ⟨#[]⟩)] [(0, (1, (.c (.sc (.int .i64 3))))), (2, (1, (.c (.s [120]))))])⟩,
    ⟨(some 6), none, (.bsl 3 [(.int .i64 0), (.int .i64 0), (.string ⟨#[]⟩)] 2 [(0, (.t 4)), (1, (.t 5))])⟩,
    ⟨(some 2), none, (.mv (.t 6))⟩]) .ret))
def sh_law09_row (a0 : AV) (σ : Hp) (n : Nat) (R : AEnd → Hp → Nat → Prop) : Prop :=
 bindP (aBuild [(.int .i64 0), (.int .i64 0), (.string ⟨#[]⟩)] [(0, 1, (.sc (.int .i64 1))), (1, 1, a0)]) fun v1 =>
 bindP (aBuild [(.int .i64 0), (.int .i64 0), (.string ⟨#[]⟩)] [(0, 1, (.sc (.int .i64 3))), (2, 1, (.s [120]))]) fun v2 =>
 bindS (hBsl σ n 3 [(.int .i64 0), (.int .i64 0), (.string ⟨#[]⟩)] 2 [(0, v1), (1, v2)]) σ n fun v3 σ n =>
 R (.ret v3) σ n
theorem se_law09_row (a0 : AV) (σ : Hp) (n : Nat) (R : AEnd → Hp → Nat → Prop) : sh_law09_row a0 σ n R = swp Try.prog sc_law09_row (retQ [(.t 2)] R) (entry [a0]) σ n := by kernel_rfl
theorem by_law09_row {a0 : AV} {σ : Hp} {n : Nat} {R : AEnd → Hp → Nat → Prop} (h : sh_law09_row a0 σ n R) : ConH Try.prog 70 [a0] σ n R := by
  rw [se_law09_row] at h
  exact conH_of [(.t 2)] (fn := Try.f70) rfl [0, 2] (by kernel_rfl) (by kernel_rfl) (by kernel_rfl) (by kernel_rfl) h
/-- switchback/rows.Update -/
def kc_rows_Update1 (R : AEnd → Hp → Nat → Prop) (r : AEnd) (σ : Hp) (n : Nat) : Prop :=
 onEnd r (fun v5 =>
 bindP (aExt v5 0) fun v7 =>
 bindP (aExt v5 1) fun v8 =>
 R (.ret (.tp [v7, v8])) σ n) (fun v6 => R (.pan v6) σ n)
attribute [go_sem] kc_rows_Update1
def sc_rows_Update : SCode := (.seq (.reg [
   ⟨(some 4), none, (.box (.t 0))⟩,
    ⟨(some 6), none, (.box (.t 2))⟩,
    ⟨(some 7), none, (.box (.t 3))⟩,
    ⟨(some 8), none, (.mv (.c .em))⟩,
    ⟨(some 9), none, (.mv (.c (.sc (.int .i64 0))))⟩]) (.seq (.reg [
   ⟨(some 10), none, (.ld (some 4) (.t 4))⟩,
    ⟨(some 11), none, (.mv (.t 1))⟩,
    ⟨(some 12), none, (.mkf 119 [(.t 6), (.t 7)])⟩,
    ⟨(some 13), none, (.call (.c (.fn 72 [])) [(.t 10), (.t 11), (.t 12)])⟩,
    ⟨(some 14), none, (.ext (.t 13) 0)⟩,
    ⟨(some 15), none, (.ext (.t 13) 1)⟩,
    ⟨(some 8), none, (.mv (.t 14))⟩,
    ⟨(some 9), none, (.mv (.t 15))⟩]) .ret))
def sh_rows_Update (a0 a1 a2 a3 : AV) (σ : Hp) (n : Nat) (R : AEnd → Hp → Nat → Prop) : Prop :=
 bindS (hBox n a0) σ n fun v1 σ n =>
 bindS (hBox n a2) σ n fun v2 σ n =>
 bindS (hBox n a3) σ n fun v3 σ n =>
 bindP (aLd σ (some 4) v1) fun v4 =>
 CALL Try.prog (.fn 72 []) [v4, a1, (.fn 119 [v2, v3])] σ n (kc_rows_Update1 R)
theorem se_rows_Update (a0 a1 a2 a3 : AV) (σ : Hp) (n : Nat) (R : AEnd → Hp → Nat → Prop) : sh_rows_Update a0 a1 a2 a3 σ n R = swp Try.prog sc_rows_Update (retQ [(.t 8), (.t 9)] R) (entry [a0, a1, a2, a3]) σ n := by kernel_rfl
theorem by_rows_Update {a0 a1 a2 a3 : AV} {σ : Hp} {n : Nat} {R : AEnd → Hp → Nat → Prop} (h : sh_rows_Update a0 a1 a2 a3 σ n R) : ConH Try.prog 71 [a0, a1, a2, a3] σ n R := by
  rw [se_rows_Update] at h
  exact conH_of [(.t 8), (.t 9)] (fn := Try.f71) rfl [0, 2, 3, 4, 1, 6, 7, 8, 9] (by kernel_rfl) (by kernel_rfl) (by kernel_rfl) (by kernel_rfl) h
/-- switchback/rows.change -/
def kc_rows_change1 (R : AEnd → Hp → Nat → Prop) (v11 : AV) (r : AEnd) (σ : Hp) (n : Nat) : Prop :=
 onEnd r (fun v13 =>
 bindP (semBin .neq v13 (.sc (.int .i64 0))) fun v15 =>
 COND v15 (
 R (.ret (.tp [.em, v13])) σ n) (
 bindP (aNck v11) fun v16 =>
 bindP (aFad 4 v16) fun v17 =>
 bindP (aLd σ none v17) fun v18 =>
 R (.ret (.tp [v18, (.sc (.int .i64 0))])) σ n)) (fun v14 => R (.pan v14) σ n)
def kd_rows_change2 (v6 : AV) (n : Nat) (v1 : AV) (σ : Hp) (a2 : AV) (R : AEnd → Hp → Nat → Prop) (r : AEnd) (w8 : Wr) (d8 : List Nat) : Prop :=
 onEnd r (fun v8 =>
 bindP (aBuild [(.string ⟨#[]⟩), (.slice none 0 0), (.int .i64 0), (.slice none 0 0), (.slice none 0 0)] [(0, 4, v6), (4, 1, v8)]) fun v10 =>
 bindH (hBox (n + 16 * 4) v10) fun v11 w11 =>
 Apt (names []) (rdA v1) (names w8) d8 ∧
 ∀ n_, n + 16 * 6 ≤ n_ → (fun n => (fun σ => CALL Try.prog a2 [v11] σ n (kc_rows_change1 R v11)) (applyW (applyW σ w8) w11)) n_) (fun v9 => Apt (names []) (rdA v1) (names []) d8 ∧
 ∀ (fr_ : Regs) σ n, R (.pan v9) σ n)
def kc_rows_change3 (R : AEnd → Hp → Nat → Prop) (v1 : AV) (a1 : AV) (a2 : AV) (r : AEnd) (σ : Hp) (n : Nat) : Prop :=
 onEnd r (fun v3 =>
 bindP (semBin .neq v3 (.sc (.int .i64 0))) fun v5 =>
 COND v5 (
 R (.ret (.tp [.em, v3])) σ n) (
 bindP (aLd σ (some 4) v1) fun v6 =>
 callD Try.prog (.fn 120 []) [a1] σ (n + 16 * 2) (kd_rows_change2 v6 n v1 σ a2 R))) (fun v4 => R (.pan v4) σ n)
attribute [go_sem] kc_rows_change1 kd_rows_change2 kc_rows_change3
def sc_rows_change : SCode := (.seq (.reg [
   ⟨(some 3), none, (.box (.t 0))⟩,
    ⟨(some 6), none, (.mv (.c .em))⟩,
    ⟨(some 7), none, (.mv (.c (.sc (.int .i64 0))))⟩]) (.seq (.seq (.reg [
   ⟨(some 11), none, (.ld (some 4) (.t 3))⟩,
    ⟨(some 12), none, (.mv (.t 1))⟩,
    ⟨(some 13), none, (.call (.c (.fn 30 [])) [(.t 11), (.t 12)])⟩,
    ⟨(some 8), none, (.mv (.t 13))⟩]) (.seq (.reg [
   ⟨(some 14), none, (.mv (.t 8))⟩,
    ⟨(some 15), none, (.bin .neq (.t 14) (.c (.sc (.int .i64 0))))⟩]) (.cond (.t 15) (.seq (.reg [
   ⟨(some 16), none, (.mv (.t 8))⟩,
    ⟨(some 6), none, (.mv (.c .em))⟩,
    ⟨(some 7), none, (.mv (.t 16))⟩]) .ret) .skip))) (.seq (.regD [(⟨(some 17), none, (.ld (some 4) (.t 3))⟩, []), (⟨(some 18), none, (.mv (.t 1))⟩, []), (⟨(some 19), none, (.call (.c (.fn 120 [])) [(.t 18)])⟩, [1]), (⟨(some 20), none, (.build [(.string ⟨#[]⟩), (.slice none 0 0), (.int .i64 0), (.slice none 0 0), (.slice none 0 0)] [(0, (4, (.t 17))), (4, (1, (.t 19)))])⟩, [0, 2, 1]), (⟨(some 21), none, (.box (.t 20))⟩, [3, 0, 2, 1]), (⟨(some 9), none, (.mv (.t 21))⟩, [4, 3, 0, 2, 1])]) (.seq (.seq (.reg [
   ⟨(some 22), none, (.mv (.t 2))⟩,
    ⟨(some 23), none, (.mv (.t 9))⟩,
    ⟨(some 24), none, (.call (.t 22) [(.t 23)])⟩,
    ⟨(some 10), none, (.mv (.t 24))⟩]) (.seq (.reg [
   ⟨(some 25), none, (.mv (.t 10))⟩,
    ⟨(some 26), none, (.bin .neq (.t 25) (.c (.sc (.int .i64 0))))⟩]) (.cond (.t 26) (.seq (.reg [
   ⟨(some 27), none, (.mv (.t 10))⟩,
    ⟨(some 6), none, (.mv (.c .em))⟩,
    ⟨(some 7), none, (.mv (.t 27))⟩]) .ret) .skip))) (.seq (.reg [
   ⟨(some 28), none, (.mv (.t 9))⟩,
    ⟨(some 29), none, (.nck (.t 28))⟩,
    ⟨(some 30), none, (.fad 4 (.t 29))⟩,
    ⟨(some 31), none, (.ld none (.t 30))⟩,
    ⟨(some 6), none, (.mv (.t 31))⟩,
    ⟨(some 7), none, (.mv (.c (.sc (.int .i64 0))))⟩]) .ret)))))
def sh_rows_change (a0 a1 a2 : AV) (σ : Hp) (n : Nat) (R : AEnd → Hp → Nat → Prop) : Prop :=
 bindS (hBox n a0) σ n fun v1 σ n =>
 bindP (aLd σ (some 4) v1) fun v2 =>
 CALL Try.prog (.fn 30 []) [v2, a1] σ n (kc_rows_change3 R v1 a1 a2)
theorem se_rows_change (a0 a1 a2 : AV) (σ : Hp) (n : Nat) (R : AEnd → Hp → Nat → Prop) : sh_rows_change a0 a1 a2 σ n R = swp Try.prog sc_rows_change (retQ [(.t 6), (.t 7)] R) (entry [a0, a1, a2]) σ n := by kernel_rfl
theorem by_rows_change {a0 a1 a2 : AV} {σ : Hp} {n : Nat} {R : AEnd → Hp → Nat → Prop} (h : sh_rows_change a0 a1 a2 σ n R) : ConH Try.prog 72 [a0, a1, a2] σ n R := by
  rw [se_rows_change] at h
  exact conH_of [(.t 6), (.t 7)] (fn := Try.f72) rfl [0, 15, 8, 3, 1, 2, 26, 10, 9, 6, 7] (by kernel_rfl) (by kernel_rfl) (by kernel_rfl) (by kernel_rfl) h
/-- switchback/rows.Insert$1 -/
def kc_rows_Insert_c11 (R : AEnd → Hp → Nat → Prop) (r : AEnd) (σ : Hp) (n : Nat) : Prop :=
 onEnd r (fun v2 =>
 R (.ret v2) σ n) (fun v3 => R (.pan v3) σ n)
attribute [go_sem] kc_rows_Insert_c11
def sc_rows_Insert_c1 : SCode := (.seq (.reg [
   ⟨(some 3), none, (.mv (.c (.sc (.int .i64 0))))⟩]) (.seq (.reg [
   ⟨(some 4), none, (.mv (.t 0))⟩,
    ⟨(some 5), none, (.ld none (.t 1))⟩,
    ⟨(some 6), none, (.call (.c (.fn 74 [])) [(.t 4), (.t 5)])⟩,
    ⟨(some 3), none, (.mv (.t 6))⟩]) .ret))
def sh_rows_Insert_c1 (a0 a1 : AV) (σ : Hp) (n : Nat) (R : AEnd → Hp → Nat → Prop) : Prop :=
 bindP (aLd σ none a1) fun v1 =>
 CALL Try.prog (.fn 74 []) [a0, v1] σ n (kc_rows_Insert_c11 R)
theorem se_rows_Insert_c1 (a0 a1 : AV) (σ : Hp) (n : Nat) (R : AEnd → Hp → Nat → Prop) : sh_rows_Insert_c1 a0 a1 σ n R = swp Try.prog sc_rows_Insert_c1 (retQ [(.t 3)] R) (entry [a0, a1]) σ n := by kernel_rfl
theorem by_rows_Insert_c1 {a0 a1 : AV} {σ : Hp} {n : Nat} {R : AEnd → Hp → Nat → Prop} (h : sh_rows_Insert_c1 a0 a1 σ n R) : ConH Try.prog 73 [a0, a1] σ n R := by
  rw [se_rows_Insert_c1] at h
  exact conH_of [(.t 3)] (fn := Try.f73) rfl [0, 1, 3] (by kernel_rfl) (by kernel_rfl) (by kernel_rfl) (by kernel_rfl) h
/-- (*switchback/rows.table).insert -/
def kd_prows_table_insert1 (a0 : AV) (σ : Hp) (w47 : Wr) (w49 : Wr) (v43 : AV) (d47 : List Nat) (n : Nat) (s2 : List AV) (K2 : List AV → Hp → Nat → Prop) (v3 : AV) (v5 : AV) (v9 : AV) (v11 : AV) (v31 : AV) (v32 : AV) (v39 : AV) (R : AEnd → Hp → Nat → Prop) (r : AEnd) (w50 : Wr) (d50 : List Nat) : Prop :=
 onEnd r (fun v50 =>
 bindP (aNck a0) fun v52 =>
 bindP (aFad 4 v52) fun v53 =>
 bindH (hSt (applyW (applyW (applyW σ w47) w49) w50) 1 v53 v50) fun v54 w54 =>
 Apt (names []) (rdA v43) (names w47) d47 ∧
 Apt (names []) (rdA v43) (names w49) (names w49) ∧
 ∀ n_, n + 16 * 13 ≤ n_ → (fun n => (fun σ => bindP (semBin .add (s2.getD 9 .any) (.sc (.int .i64 1))) fun v55 =>
 K2 [v3, v5, v9, v11, v31, v32, v32, v39, (s2.getD 8 .any), v55] σ n) (applyW (applyW (applyW (applyW σ w47) w49) w50) w54)) n_) (fun v51 => Apt (names []) (rdA v43) (names w47) d47 ∧
 Apt (names []) (rdA v43) (names w49) (names w49) ∧
 ∀ (fr_ : Regs) σ n, R (.pan v51) σ n)
def kd_prows_table_insert2 (σ : Hp) (n : Nat) (v44 : AV) (v31 : AV) (a0 : AV) (v43 : AV) (s2 : List AV) (K2 : List AV → Hp → Nat → Prop) (v3 : AV) (v5 : AV) (v9 : AV) (v11 : AV) (v32 : AV) (v39 : AV) (R : AEnd → Hp → Nat → Prop) (r : AEnd) (w47 : Wr) (d47 : List Nat) : Prop :=
 onEnd r (fun v47 =>
 bindH (hBsl (applyW σ w47) (n + 16 * 8) 1 [(.slice none 0 0)] 1 [(0, v47)]) fun v49 w49 =>
 callD Try.prog (.fn 121 []) [v44, v31, v49] (applyW (applyW σ w47) w49) (n + 16 * 9) (kd_prows_table_insert1 a0 σ w47 w49 v43 d47 n s2 K2 v3 v5 v9 v11 v31 v32 v39 R)) (fun v48 => Apt (names []) (rdA v43) (names []) d47 ∧
 Apt (names []) (rdA v43) (names []) [] ∧
 ∀ (fr_ : Regs) σ n, R (.pan v48) σ n)
def kd_prows_table_insert3 (v14 : AV) (v18 : AV) (v24 : AV) (v26 : AV) (n : Nat) (σ : Hp) (R : AEnd → Hp → Nat → Prop) (a0 : AV) (v5 : AV) (s2 : List AV) (K2 : List AV → Hp → Nat → Prop) (v3 : AV) (v9 : AV) (v11 : AV) (r : AEnd) (w28 : Wr) (d28 : List Nat) : Prop :=
 onEnd r (fun v28 =>
 bindP (aExt v28 0) fun v31 =>
 bindP (aExt v28 1) fun v32 =>
 Apt (names []) (rdA v14) (names []) (rdA v18) ∧
 Apt (names []) (rdA v14) (names []) (rdA v24) ∧
 Apt (names []) (rdA v18) (names []) (rdA v24) ∧
 Apt (names []) (rdA v14) (names []) (rdA v26) ∧
 Apt (names []) (rdA v18) (names []) (rdA v26) ∧
 ∀ n_, n + 16 * 22 ≤ n_ → (fun n => (fun σ => COND v32 (
 R (.ret (.sc (.int .i64 87))) σ n) (
 bindP (aNck a0) fun v35 =>
 bindP (aFad 4 v35) fun v36 =>
 bindP (aLd σ none v36) fun v37 =>
 bindP (aLen false v37) fun v38 => bnd σ v37 →
 bindP (semBin .eql v38 (.sc (.int .i64 256))) fun v39 =>
 COND v39 (
 R (.ret (.sc (.int .i64 51))) σ n) (
 bindP (aNck a0) fun v42 =>
 bindP (aFad 4 v42) fun v43 =>
 bindP (aLd σ none v43) fun v44 =>
 callD Try.prog (.fn 122 []) [v5] σ (n + 16 * 7) (kd_prows_table_insert2 σ n v44 v31 a0 v43 s2 K2 v3 v5 v9 v11 v32 v39 R)))) (applyW σ w28)) n_) (fun v29 => Apt (names []) (rdA v14) (names []) (rdA v18) ∧
 Apt (names []) (rdA v14) (names []) (rdA v24) ∧
 Apt (names []) (rdA v18) (names []) (rdA v24) ∧
 Apt (names []) (rdA v14) (names []) (rdA v26) ∧
 Apt (names []) (rdA v18) (names []) (rdA v26) ∧
 ∀ (fr_ : Regs) σ n, R (.pan v29) σ n)
def kc_prows_table_insert4 (R : AEnd → Hp → Nat → Prop) (a0 : AV) (v5 : AV) (s2 : List AV) (K2 : List AV → Hp → Nat → Prop) (v3 : AV) (r : AEnd) (σ : Hp) (n : Nat) : Prop :=
 onEnd r (fun v9 =>
 bindP (semBin .neq v9 (.sc (.int .i64 0))) fun v11 =>
 COND v11 (
 R (.ret v9) σ n) (
 bindP (aNck a0) fun v13 =>
 bindP (aFad 0 v13) fun v14 =>
 bindP (aLd σ (some 4) v14) fun v15 =>
 bindP (aNck a0) fun v17 =>
 bindP (aFad 4 v17) fun v18 =>
 bindP (aLd σ none v18) fun v19 =>
 bindP (aNck a0) fun v22 =>
 bindP (aFad 0 v22) fun v23 =>
 bindP (aFad 2 v23) fun v24 =>
 bindP (aLd σ none v24) fun v25 =>
 bindP (aIad 3 v5 v25) fun v26 =>
 bindP (aLd σ (some 3) v26) fun v27 =>
 callD Try.prog (.fn 78 []) [v15, v19, v27] σ (n + 16 * 16) (kd_prows_table_insert3 v14 v18 v24 v26 n σ R a0 v5 s2 K2 v3 v9 v11))) (fun v10 => R (.pan v10) σ n)
def lb_prows_table_insert5 (v1 : AV) (a1 : AV) (a0 : AV) (R : AEnd → Hp → Nat → Prop) (K2 : List AV → Hp → Nat → Prop) (s2 : List AV) (σ : Hp) (n : Nat) : Prop :=
 bindP (semBin .lss (s2.getD 9 .any) v1) fun v3 =>
 COND v3 (
 bindP (aIad 1 a1 (s2.getD 9 .any)) fun v4 =>
 bindP (aLd σ none v4) fun v5 =>
 bindP (aNck a0) fun v6 =>
 bindP (aFad 0 v6) fun v7 =>
 bindP (aLd σ (some 4) v7) fun v8 =>
 CALL Try.prog (.fn 76 []) [v8, v5] σ n (kc_prows_table_insert4 R a0 v5 s2 K2 v3)) (
 R (.ret (.sc (.int .i64 0))) σ n)
attribute [go_sem] kd_prows_table_insert1 kd_prows_table_insert2 kd_prows_table_insert3 kc_prows_table_insert4 lb_prows_table_insert5
def sc_prows_table_insert : SCode := (.seq (.reg [
   ⟨(some 4), none, (.mv (.c (.sc (.int .i64 0))))⟩]) (.seq (.seq (.reg [
   ⟨(some 10), none, (.mv (.t 1))⟩,
    ⟨(some 11), none, (.len false (.t 10))⟩,
    ⟨(some 12), none, (.mv (.c (.sc (.int .i64 0))))⟩]) (.block 0 (.loop [13, 6, 7, 23, 8, 9, 45, 51, 4, 12] [13, 14, 15, 6, 16, 17, 18, 19, 20, 21, 7, 22, 23, 24, 4, 26, 27, 28, 29, 30, 31, 32, 33, 34, 35, 36, 37, 38, 39, 40, 41, 42, 25, 43, 44, 8, 9, 45, 4, 46, 47, 48, 49, 50, 51, 4, 52, 53, 54, 55, 56, 57, 58, 59, 60, 61, 62, 63, 64, 12] (.seq (.reg [
   ⟨(some 13), none, (.bin .lss (.t 12) (.t 11))⟩]) (.seq (.cond (.t 13) .skip (.exit 0)) (.seq (.block 1 (.seq (.reg [
   ⟨(some 14), none, (.iad 1 (.t 10) (.t 12))⟩,
    ⟨(some 15), none, (.ld none (.t 14))⟩,
    ⟨(some 6), none, (.mv (.t 15))⟩]) (.seq (.seq (.reg [
   ⟨(some 16), none, (.mv (.t 0))⟩,
    ⟨(some 17), none, (.nck (.t 16))⟩,
    ⟨(some 18), none, (.fad 0 (.t 17))⟩,
    ⟨(some 19), none, (.ld (some 4) (.t 18))⟩,
    ⟨(some 20), none, (.mv (.t 6))⟩,
    ⟨(some 21), none, (.call (.c (.fn 76 [])) [(.t 19), (.t 20)])⟩,
    ⟨(some 7), none, (.mv (.t 21))⟩]) (.seq (.reg [
   ⟨(some 22), none, (.mv (.t 7))⟩,
    ⟨(some 23), none, (.bin .neq (.t 22) (.c (.sc (.int .i64 0))))⟩]) (.cond (.t 23) (.seq (.reg [
   ⟨(some 24), none, (.mv (.t 7))⟩,
    ⟨(some 4), none, (.mv (.t 24))⟩]) .ret) .skip))) (.seq (.regD [(⟨(some 26), none, (.mv (.t 0))⟩, []), (⟨(some 27), none, (.nck (.t 26))⟩, [0]), (⟨(some 28), none, (.fad 0 (.t 27))⟩, [1, 0]), (⟨(some 29), none, (.ld (some 4) (.t 28))⟩, [2, 1, 0]), (⟨(some 30), none, (.mv (.t 0))⟩, []), (⟨(some 31), none, (.nck (.t 30))⟩, [4]), (⟨(some 32), none, (.fad 4 (.t 31))⟩, [5, 4]), (⟨(some 33), none, (.ld none (.t 32))⟩, [6, 5, 4]), (⟨(some 34), none, (.mv (.t 6))⟩, []), (⟨(some 35), none, (.mv (.t 0))⟩, []), (⟨(some 36), none, (.nck (.t 35))⟩, [9]), (⟨(some 37), none, (.fad 0 (.t 36))⟩, [10, 9]), (⟨(some 38), none, (.fad 2 (.t 37))⟩, [11, 10, 9]), (⟨(some 39), none, (.ld none (.t 38))⟩, [12, 11, 10, 9]), (⟨(some 40), none, (.iad 3 (.t 34) (.t 39))⟩, [8, 13, 12, 11, 10, 9]), (⟨(some 41), none, (.ld (some 3) (.t 40))⟩, [14, 8, 13, 12, 11, 10, 9]), (⟨(some 42), none, (.call (.c (.fn 78 [])) [(.t 29), (.t 33), (.t 41)])⟩, [3, 2, 1, 0, 7, 6, 5, 4, 15, 14, 8, 13, 12, 11, 10, 9]), (⟨(some 25), none, (.mv (.t 42))⟩, [16, 3, 2, 1, 0, 7, 6, 5, 4, 15, 14, 8, 13, 12, 11, 10, 9]), (⟨(some 43), none, (.ext (.t 25) 0)⟩, [17, 16, 3, 2, 1, 0, 7, 6, 5, 4, 15, 14, 8, 13, 12, 11, 10, 9]), (⟨(some 44), none, (.ext (.t 25) 1)⟩, [17, 16, 3, 2, 1, 0, 7, 6, 5, 4, 15, 14, 8, 13, 12, 11, 10, 9]), (⟨(some 8), none, (.mv (.t 43))⟩, [18, 17, 16, 3, 2, 1, 0, 7, 6, 5, 4, 15, 14, 8, 13, 12, 11, 10, 9]), (⟨(some 9), none, (.mv (.t 44))⟩, [19, 17, 16, 3, 2, 1, 0, 7, 6, 5, 4, 15, 14, 8, 13, 12, 11, 10, 9, 20, 18])]) (.seq (.seq (.reg [
   ⟨(some 45), none, (.mv (.t 9))⟩]) (.cond (.t 45) (.seq (.reg [
   ⟨(some 4), none, (.mv (.c (.sc (.int .i64 87))))⟩]) .ret) .skip)) (.seq (.seq (.reg [
   ⟨(some 46), none, (.mv (.t 0))⟩,
    ⟨(some 47), none, (.nck (.t 46))⟩,
    ⟨(some 48), none, (.fad 4 (.t 47))⟩,
    ⟨(some 49), none, (.ld none (.t 48))⟩,
    ⟨(some 50), none, (.len false (.t 49))⟩,
    ⟨(some 51), none, (.bin .eql (.t 50) (.c (.sc (.int .i64 256))))⟩]) (.cond (.t 51) (.seq (.reg [
   ⟨(some 4), none, (.mv (.c (.sc (.int .i64 51))))⟩]) .ret) .skip)) (.regD [(⟨(some 52), none, (.mv (.t 0))⟩, []), (⟨(some 53), none, (.mv (.t 0))⟩, []), (⟨(some 54), none, (.nck (.t 53))⟩, [1]), (⟨(some 55), none, (.fad 4 (.t 54))⟩, [2, 1]), (⟨(some 56), none, (.ld none (.t 55))⟩, [3, 2, 1]), (⟨(some 57), none, (.mv (.t 8))⟩, []), (⟨(some 58), none, (.mv (.t 6))⟩, []), (⟨(some 59), none, (.call (.c (.fn 122 [])) [(.t 58)])⟩, [6]), (⟨(some 60), none, (.bsl 1 [(.slice none 0 0)] 1 [(0, (.t 59))])⟩, [7, 6]), (⟨(some 61), none, (.call (.c (.fn 121 [])) [(.t 56), (.t 57), (.t 60)])⟩, [4, 3, 2, 1, 5, 8, 7, 6]), (⟨(some 62), none, (.nck (.t 52))⟩, [0, 1, 2, 3, 4, 5, 6, 7, 8, 9]), (⟨(some 63), none, (.fad 4 (.t 62))⟩, [10, 0, 1, 2, 3, 4, 5, 6, 7, 8, 9]), (⟨none, none, (.st 1 (.t 63) (.t 61))⟩, [11, 10, 0, 1, 2, 3, 4, 5, 6, 7, 8, 9])]))))))) (.reg [
   ⟨(some 64), none, (.bin .add (.t 12) (.c (.sc (.int .i64 1))))⟩,
    ⟨(some 12), none, (.mv (.t 64))⟩]))))))) (.seq (.reg [
   ⟨(some 4), none, (.mv (.c (.sc (.int .i64 0))))⟩]) .ret)))
def sh_prows_table_insert (a0 a1 : AV) (σ : Hp) (n : Nat) (R : AEnd → Hp → Nat → Prop) : Prop :=
 bindP (aLen false a1) fun v1 => bnd σ a1 →
 LOOP (lb_prows_table_insert5 v1 a1 a0 R) [(.tp []), (.tp []), (.tp []), (.tp []), (.tp []), (.tp []), (.tp []), (.tp []), (.sc (.int .i64 0)), (.sc (.int .i64 0))] σ n
theorem se_prows_table_insert (a0 a1 : AV) (σ : Hp) (n : Nat) (R : AEnd → Hp → Nat → Prop) : sh_prows_table_insert a0 a1 σ n R = swp Try.prog sc_prows_table_insert (retQ [(.t 4)] R) (entry [a0, a1]) σ n := by kernel_rfl
theorem by_prows_table_insert {a0 a1 : AV} {σ : Hp} {n : Nat} {R : AEnd → Hp → Nat → Prop} (h : sh_prows_table_insert a0 a1 σ n R) : ConH Try.prog 74 [a0, a1] σ n R := by
  rw [se_prows_table_insert] at h
  exact conH_of [(.t 4)] (fn := Try.f74) rfl [1, 11, 13, 10, 23, 7, 9, 45, 51, 0, 8, 6, 12, 4] (by kernel_rfl) (by kernel_rfl) (by kernel_rfl) (by kernel_rfl) h
/-- switchback/catalog.May -/
def kc_catalog_May1 (Kg : AV → Hp → Nat → Prop) (R : AEnd → Hp → Nat → Prop) (r : AEnd) (σ : Hp) (n : Nat) : Prop :=
 onEnd r (fun v53 =>
 Kg v53 σ n) (fun v54 => R (.pan v54) σ n)
def kc_catalog_May2 (Kg : AV → Hp → Nat → Prop) (R : AEnd → Hp → Nat → Prop) (r : AEnd) (σ : Hp) (n : Nat) : Prop :=
 onEnd r (fun v85 =>
 Kg v85 σ n) (fun v86 => R (.pan v86) σ n)
def lb_catalog_May3 (v72 : AV) (v71 : AV) (v37 : AV) (R : AEnd → Hp → Nat → Prop) (v4 : AV) (K73 : List AV → Hp → Nat → Prop) (s73 : List AV) (σ : Hp) (n : Nat) : Prop :=
 bindP (semBin .lss (s73.getD 4 .any) v72) fun v74 =>
 COND v74 (
 bindP (aIad 2 v71 (s73.getD 4 .any)) fun v75 =>
 bindP (aLd σ (some 2) v75) fun v76 =>
 bindS (hAlloc n [(.string ⟨#[]⟩), (.int .i64 0)]) σ n fun v77 σ n =>
 bindS (hSt σ 2 v77 v76) σ n fun v78 σ n =>
 bindP (aFad 0 v77) fun v79 =>
 bindP (aLd σ none v79) fun v80 =>
 bindP (aLkp σ (.bool false) false v37 v80) fun v81 =>
 guardP v81 false (aFad 0 v77) fun v82 =>
 guardP v81 false (aLd σ none v82) fun v83 =>
 guardK v81 false (fun Kg => CALL Try.prog (.fn 123 []) [v83] σ n (kc_catalog_May2 Kg R)) σ n fun v84 σ n =>
 guardP v81 false (aUn .not v84) fun v87 =>
 bindP (aPick v81 (.sc (.bool true)) v87) fun v88 =>
 guardP v88 false (aFad 1 v77) fun v89 =>
 guardP v88 false (aLd σ none v89) fun v90 =>
 guardP v88 false (aCvi .u64 v90) fun v91 =>
 guardP v88 false (some v4) fun v92 =>
 guardP v88 false (aCvi .u64 v92) fun v93 =>
 guardP v88 false (semBin .geq v91 v93) fun v94 =>
 bindP (aPick v88 (.sc (.bool true)) v94) fun v95 =>
 COND v95 (
 R (.ret (.sc (.bool false))) σ n) (
 bindP (aFad 0 v77) fun v96 =>
 bindP (aLd σ none v96) fun v97 =>
 bindS (hMup σ v37 v97 (.sc (.bool true))) σ n fun v98 σ n =>
 bindP (semBin .add (s73.getD 4 .any) (.sc (.int .i64 1))) fun v99 =>
 K73 [v74, v77, v95, (s73.getD 3 .any), v99] σ n)) (
 R (.ret (.sc (.bool true))) σ n)
def lb_catalog_May4 (v40 : AV) (v39 : AV) (v37 : AV) (R : AEnd → Hp → Nat → Prop) (v1 : AV) (v4 : AV) (K41 : List AV → Hp → Nat → Prop) (s41 : List AV) (σ : Hp) (n : Nat) : Prop :=
 bindP (semBin .lss (s41.getD 4 .any) v40) fun v42 =>
 COND v42 (
 bindP (aIad 3 v39 (s41.getD 4 .any)) fun v43 =>
 bindP (aLd σ (some 3) v43) fun v44 =>
 bindS (hAlloc n [(.string ⟨#[]⟩), (.int .i64 0), (.bool false)]) σ n fun v45 σ n =>
 bindS (hSt σ 3 v45 v44) σ n fun v46 σ n =>
 bindP (aFad 0 v45) fun v47 =>
 bindP (aLd σ none v47) fun v48 =>
 bindP (aLkp σ (.bool false) false v37 v48) fun v49 =>
 guardP v49 false (aFad 0 v45) fun v50 =>
 guardP v49 false (aLd σ none v50) fun v51 =>
 guardK v49 false (fun Kg => CALL Try.prog (.fn 123 []) [v51] σ n (kc_catalog_May1 Kg R)) σ n fun v52 σ n =>
 guardP v49 false (aUn .not v52) fun v55 =>
 bindP (aPick v49 (.sc (.bool true)) v55) fun v56 =>
 guardP v56 false (aFad 1 v45) fun v57 =>
 guardP v56 false (aLd σ none v57) fun v58 =>
 guardP v56 false (semBin .lss v58 (.sc (.int .i64 1))) fun v59 =>
 bindP (aPick v56 (.sc (.bool true)) v59) fun v60 =>
 guardP v60 false (aFad 1 v45) fun v61 =>
 guardP v60 false (aLd σ none v61) fun v62 =>
 guardP v60 false (semBin .gtr v62 (.sc (.int .i64 3))) fun v63 =>
 bindP (aPick v60 (.sc (.bool true)) v63) fun v64 =>
 COND v64 (
 R (.ret (.sc (.bool false))) σ n) (
 bindP (aFad 0 v45) fun v65 =>
 bindP (aLd σ none v65) fun v66 =>
 bindS (hMup σ v37 v66 (.sc (.bool true))) σ n fun v67 σ n =>
 bindP (semBin .add (s41.getD 4 .any) (.sc (.int .i64 1))) fun v68 =>
 K41 [v42, v45, v64, (s41.getD 3 .any), v68] σ n)) (
 bindS (hClm σ v37) σ n fun v69 σ n =>
 bindP (aFad 3 v1) fun v70 =>
 bindP (aLd σ none v70) fun v71 =>
 bindP (aLen false v71) fun v72 => bnd σ v71 →
 LOOP (lb_catalog_May3 v72 v71 v37 R v4) [(.tp []), (.tp []), (.tp []), (s41.getD 3 .any), (.sc (.int .i64 0))] σ n)
def kc_catalog_May5 (v4 : AV) (v1 : AV) (R : AEnd → Hp → Nat → Prop) (r : AEnd) (σ : Hp) (n : Nat) : Prop :=
 onEnd r (fun v7 =>
 bindP (aUn .not v7) fun v9 =>
 guardP v9 false (some v4) fun v10 =>
 guardP v9 false (semBin .lss v10 (.sc (.int .i64 1))) fun v11 =>
 bindP (aPick v9 (.sc (.bool true)) v11) fun v12 =>
 guardP v12 false (some v4) fun v13 =>
 guardP v12 false (semBin .gtr v13 (.sc (.int .i64 8))) fun v14 =>
 bindP (aPick v12 (.sc (.bool true)) v14) fun v15 =>
 guardP v15 false (aFad 3 v1) fun v16 =>
 guardP v15 false (aLd σ none v16) fun v17 =>
 guardP v15 false (aLen false v17) fun v18 =>
 guardP v15 false (semBin .gtr v18 (.sc (.int .i64 4))) fun v19 =>
 bindP (aPick v15 (.sc (.bool true)) v19) fun v20 =>
 guardP v20 false (aFad 2 v1) fun v21 =>
 guardP v20 false (aLd σ none v21) fun v22 =>
 guardP v20 false (aCvi .u64 v22) fun v23 =>
 guardP v20 false (some v4) fun v24 =>
 guardP v20 false (aCvi .u64 v24) fun v25 =>
 guardP v20 false (semBin .geq v23 v25) fun v26 =>
 bindP (aPick v20 (.sc (.bool true)) v26) fun v27 =>
 guardP v27 false (aFad 1 v1) fun v28 =>
 guardP v27 false (aLd σ none v28) fun v29 =>
 guardP v27 false (aFad 2 v1) fun v30 =>
 guardP v27 false (aLd σ none v30) fun v31 =>
 guardP v27 false (aIad 3 v29 v31) fun v32 =>
 guardP v27 false (aFad 2 v32) fun v33 =>
 guardP v27 false (aLd σ none v33) fun v34 =>
 guardP v27 false (aUn .not v34) fun v35 =>
 bindP (aPick v27 (.sc (.bool true)) v35) fun v36 =>
 COND v36 (
 R (.ret (.sc (.bool false))) σ n) (
 bindS (hMkm n) σ n fun v37 σ n =>
 bindP (aFad 1 v1) fun v38 =>
 bindP (aLd σ none v38) fun v39 =>
 bindP (aLen false v39) fun v40 => bnd σ v39 →
 LOOP (lb_catalog_May4 v40 v39 v37 R v1 v4) [(.tp []), (.tp []), (.tp []), (.sc (.bool false)), (.sc (.int .i64 0))] σ n)) (fun v8 => R (.pan v8) σ n)
attribute [go_sem] kc_catalog_May1 kc_catalog_May2 lb_catalog_May3 lb_catalog_May4 kc_catalog_May5
def sc_catalog_May : SCode := (.seq (.reg [
   ⟨(some 1), none, (.box (.t 0))⟩,
    ⟨(some 2), none, (.mv (.c (.sc (.bool false))))⟩]) (.seq (.reg [
   ⟨(some 9), none, (.fad 1 (.t 1))⟩,
    ⟨(some 10), none, (.ld none (.t 9))⟩,
    ⟨(some 11), none, (.len false (.t 10))⟩,
    ⟨(some 3), none, (.mv (.t 11))⟩]) (.seq (.seq (.reg [
   ⟨(some 12), none, (.fad 0 (.t 1))⟩,
    ⟨(some 13), none, (.ld none (.t 12))⟩,
    ⟨(some 14), none, (.call (.c (.fn 123 [])) [(.t 13)])⟩,
    ⟨(some 15), none, (.un .not (.t 14))⟩,
    ⟨(some 16), none, (.mv (.t 15))⟩,
    ⟨(some 17), (some (16, false)), (.mv (.t 3))⟩,
    ⟨(some 18), (some (16, false)), (.bin .lss (.t 17) (.c (.sc (.int .i64 1))))⟩,
    ⟨(some 19), none, (.pick (.t 16) (.c (.sc (.bool true))) (.t 18))⟩,
    ⟨(some 20), none, (.mv (.t 19))⟩,
    ⟨(some 21), (some (20, false)), (.mv (.t 3))⟩,
    ⟨(some 22), (some (20, false)), (.bin .gtr (.t 21) (.c (.sc (.int .i64 8))))⟩,
    ⟨(some 23), none, (.pick (.t 20) (.c (.sc (.bool true))) (.t 22))⟩,
    ⟨(some 24), none, (.mv (.t 23))⟩,
    ⟨(some 25), (some (24, false)), (.fad 3 (.t 1))⟩,
    ⟨(some 26), (some (24, false)), (.ld none (.t 25))⟩,
    ⟨(some 27), (some (24, false)), (.len false (.t 26))⟩,
    ⟨(some 28), (some (24, false)), (.bin .gtr (.t 27) (.c (.sc (.int .i64 4))))⟩,
    ⟨(some 29), none, (.pick (.t 24) (.c (.sc (.bool true))) (.t 28))⟩,
    ⟨(some 30), none, (.mv (.t 29))⟩,
    ⟨(some 31), (some (30, false)), (.fad 2 (.t 1))⟩,
    ⟨(some 32), (some (30, false)), (.ld none (.t 31))⟩,
    ⟨(some 33), (some (30, false)), (.cvi .u64 (.t 32))⟩,
    ⟨(some 34), (some (30, false)), (.mv (.t 3))⟩,
    ⟨(some 35), (some (30, false)), (.cvi .u64 (.t 34))⟩,
    ⟨(some 36), (some (30, false)), (.bin .geq (.t 33) (.t 35))⟩,
    ⟨(some 37), none, (.pick (.t 30) (.c (.sc (.bool true))) (.t 36))⟩,
    ⟨(some 38), none, (.mv (.t 37))⟩,
    ⟨(some 39), (some (38, false)), (.fad 1 (.t 1))⟩,
    ⟨(some 40), (some (38, false)), (.ld none (.t 39))⟩,
    ⟨(some 41), (some (38, false)), (.fad 2 (.t 1))⟩,
    ⟨(some 42), (some (38, false)), (.ld none (.t 41))⟩,
    ⟨(some 43), (some (38, false)), (.iad 3 (.t 40) (.t 42))⟩,
    ⟨(some 44), (some (38, false)), (.fad 2 (.t 43))⟩,
    ⟨(some 45), (some (38, false)), (.ld none (.t 44))⟩,
    ⟨(some 46), (some (38, false)), (.un .not (.t 45))⟩,
    ⟨(some 47), none, (.pick (.t 38) (.c (.sc (.bool true))) (.t 46))⟩]) (.cond (.t 47) (.seq (.reg [
   ⟨(some 2), none, (.mv (.c (.sc (.bool false))))⟩]) .ret) .skip)) (.seq (.reg [
   ⟨(some 48), none, .mkm⟩,
    ⟨(some 4), none, (.mv (.t 48))⟩]) (.seq (.seq (.reg [
   ⟨(some 49), none, (.fad 1 (.t 1))⟩,
    ⟨(some 50), none, (.ld none (.t 49))⟩,
    ⟨(some 51), none, (.len false (.t 50))⟩,
    ⟨(some 52), none, (.mv (.c (.sc (.int .i64 0))))⟩]) (.block 0 (.loop [53, 6, 75, 2, 52] [53, 54, 55, 6, 56, 57, 58, 59, 60, 61, 62, 63, 64, 65, 66, 67, 68, 69, 70, 71, 72, 73, 74, 75, 2, 76, 77, 78, 79, 52] (.seq (.reg [
   ⟨(some 53), none, (.bin .lss (.t 52) (.t 51))⟩]) (.seq (.cond (.t 53) .skip (.exit 0)) (.seq (.block 1 (.seq (.reg [
   ⟨(some 54), none, (.iad 3 (.t 50) (.t 52))⟩,
    ⟨(some 55), none, (.ld (some 3) (.t 54))⟩,
    ⟨(some 6), none, (.alloc [(.string ⟨#[]⟩), (.int .i64 0), (.bool false)])⟩,
    ⟨none, none, (.st 3 (.t 6) (.t 55))⟩]) (.seq (.seq (.reg [
   ⟨(some 56), none, (.mv (.t 4))⟩,
    ⟨(some 57), none, (.fad 0 (.t 6))⟩,
    ⟨(some 58), none, (.ld none (.t 57))⟩,
    ⟨(some 59), none, (.lkp (.bool false) false (.t 56) (.t 58))⟩,
    ⟨(some 60), none, (.mv (.t 59))⟩,
    ⟨(some 61), (some (60, false)), (.fad 0 (.t 6))⟩,
    ⟨(some 62), (some (60, false)), (.ld none (.t 61))⟩,
    ⟨(some 63), (some (60, false)), (.call (.c (.fn 123 [])) [(.t 62)])⟩,
    ⟨(some 64), (some (60, false)), (.un .not (.t 63))⟩,
    ⟨(some 65), none, (.pick (.t 60) (.c (.sc (.bool true))) (.t 64))⟩,
    ⟨(some 66), none, (.mv (.t 65))⟩,
    ⟨(some 67), (some (66, false)), (.fad 1 (.t 6))⟩,
    ⟨(some 68), (some (66, false)), (.ld none (.t 67))⟩,
    ⟨(some 69), (some (66, false)), (.bin .lss (.t 68) (.c (.sc (.int .i64 1))))⟩,
    ⟨(some 70), none, (.pick (.t 66) (.c (.sc (.bool true))) (.t 69))⟩,
    ⟨(some 71), none, (.mv (.t 70))⟩,
    ⟨(some 72), (some (71, false)), (.fad 1 (.t 6))⟩,
    ⟨(some 73), (some (71, false)), (.ld none (.t 72))⟩,
    ⟨(some 74), (some (71, false)), (.bin .gtr (.t 73) (.c (.sc (.int .i64 3))))⟩,
    ⟨(some 75), none, (.pick (.t 71) (.c (.sc (.bool true))) (.t 74))⟩]) (.cond (.t 75) (.seq (.reg [
   ⟨(some 2), none, (.mv (.c (.sc (.bool false))))⟩]) .ret) .skip)) (.reg [
   ⟨(some 76), none, (.mv (.t 4))⟩,
    ⟨(some 77), none, (.fad 0 (.t 6))⟩,
    ⟨(some 78), none, (.ld none (.t 77))⟩,
    ⟨none, none, (.mup (.t 76) (.t 78) (.c (.sc (.bool true))))⟩])))) (.reg [
   ⟨(some 79), none, (.bin .add (.t 52) (.c (.sc (.int .i64 1))))⟩,
    ⟨(some 52), none, (.mv (.t 79))⟩]))))))) (.seq (.reg [
   ⟨(some 80), none, (.mv (.t 4))⟩,
    ⟨none, none, (.clm (.t 80))⟩]) (.seq (.seq (.reg [
   ⟨(some 81), none, (.fad 3 (.t 1))⟩,
    ⟨(some 82), none, (.ld none (.t 81))⟩,
    ⟨(some 83), none, (.len false (.t 82))⟩,
    ⟨(some 84), none, (.mv (.c (.sc (.int .i64 0))))⟩]) (.block 2 (.loop [85, 8, 105, 2, 84] [85, 86, 87, 8, 88, 89, 90, 91, 92, 93, 94, 95, 96, 97, 98, 99, 100, 101, 102, 103, 104, 105, 2, 106, 107, 108, 109, 84] (.seq (.reg [
   ⟨(some 85), none, (.bin .lss (.t 84) (.t 83))⟩]) (.seq (.cond (.t 85) .skip (.exit 2)) (.seq (.block 3 (.seq (.reg [
   ⟨(some 86), none, (.iad 2 (.t 82) (.t 84))⟩,
    ⟨(some 87), none, (.ld (some 2) (.t 86))⟩,
    ⟨(some 8), none, (.alloc [(.string ⟨#[]⟩), (.int .i64 0)])⟩,
    ⟨none, none, (.st 2 (.t 8) (.t 87))⟩]) (.seq (.seq (.reg [
   ⟨(some 88), none, (.mv (.t 4))⟩,
    ⟨(some 89), none, (.fad 0 (.t 8))⟩,
    ⟨(some 90), none, (.ld none (.t 89))⟩,
    ⟨(some 91), none, (.lkp (.bool false) false (.t 88) (.t 90))⟩,
    ⟨(some 92), none, (.mv (.t 91))⟩,
    ⟨(some 93), (some (92, false)), (.fad 0 (.t 8))⟩,
    ⟨(some 94), (some (92, false)), (.ld none (.t 93))⟩,
    ⟨(some 95), (some (92, false)), (.call (.c (.fn 123 [])) [(.t 94)])⟩,
    ⟨(some 96), (some (92, false)), (.un .not (.t 95))⟩,
    ⟨(some 97), none, (.pick (.t 92) (.c (.sc (.bool true))) (.t 96))⟩,
    ⟨(some 98), none, (.mv (.t 97))⟩,
    ⟨(some 99), (some (98, false)), (.fad 1 (.t 8))⟩,
    ⟨(some 100), (some (98, false)), (.ld none (.t 99))⟩,
    ⟨(some 101), (some (98, false)), (.cvi .u64 (.t 100))⟩,
    ⟨(some 102), (some (98, false)), (.mv (.t 3))⟩,
    ⟨(some 103), (some (98, false)), (.cvi .u64 (.t 102))⟩,
    ⟨(some 104), (some (98, false)), (.bin .geq (.t 101) (.t 103))⟩,
    ⟨(some 105), none, (.pick (.t 98) (.c (.sc (.bool true))) (.t 104))⟩]) (.cond (.t 105) (.seq (.reg [
   ⟨(some 2), none, (.mv (.c (.sc (.bool false))))⟩]) .ret) .skip)) (.reg [
   ⟨(some 106), none, (.mv (.t 4))⟩,
    ⟨(some 107), none, (.fad 0 (.t 8))⟩,
    ⟨(some 108), none, (.ld none (.t 107))⟩,
    ⟨none, none, (.mup (.t 106) (.t 108) (.c (.sc (.bool true))))⟩])))) (.reg [
   ⟨(some 109), none, (.bin .add (.t 84) (.c (.sc (.int .i64 1))))⟩,
    ⟨(some 84), none, (.mv (.t 109))⟩]))))))) (.seq (.reg [
   ⟨(some 2), none, (.mv (.c (.sc (.bool true))))⟩]) .ret))))))))
def sh_catalog_May (a0 : AV) (σ : Hp) (n : Nat) (R : AEnd → Hp → Nat → Prop) : Prop :=
 bindS (hBox n a0) σ n fun v1 σ n =>
 bindP (aFad 1 v1) fun v2 =>
 bindP (aLd σ none v2) fun v3 =>
 bindP (aLen false v3) fun v4 => bnd σ v3 →
 bindP (aFad 0 v1) fun v5 =>
 bindP (aLd σ none v5) fun v6 =>
 CALL Try.prog (.fn 123 []) [v6] σ n (kc_catalog_May5 v4 v1 R)
theorem se_catalog_May (a0 : AV) (σ : Hp) (n : Nat) (R : AEnd → Hp → Nat → Prop) : sh_catalog_May a0 σ n R = swp Try.prog sc_catalog_May (retQ [(.t 2)] R) (entry [a0]) σ n := by kernel_rfl
theorem by_catalog_May {a0 : AV} {σ : Hp} {n : Nat} {R : AEnd → Hp → Nat → Prop} (h : sh_catalog_May a0 σ n R) : ConH Try.prog 75 [a0] σ n R := by
  rw [se_catalog_May] at h
  exact conH_of [(.t 2)] (fn := Try.f75) rfl [0, 47, 51, 53, 50, 75, 6, 52, 1, 83, 85, 82, 3, 105, 4, 8, 84, 2] (by kernel_rfl) (by kernel_rfl) (by kernel_rfl) (by kernel_rfl) h
/-- switchback/rows.fits -/
def kc_rows_fits1 (R : AEnd → Hp → Nat → Prop) (v12 : AV) (v18 : AV) (s8 : List AV) (K8 : List AV → Hp → Nat → Prop) (v9 : AV) (r : AEnd) (σ : Hp) (n : Nat) : Prop :=
 onEnd r (fun v21 =>
 bindP (semBin .neq v21 (.sc (.int .i64 0))) fun v23 =>
 COND v23 (
 R (.ret (.sc (.int .i64 9))) σ n) (
 bindP (aFad 0 v12) fun v24 =>
 bindP (aLd σ none v24) fun v25 =>
 bindP (semBin .eql v25 (.sc (.int .i64 0))) fun v26 =>
 guardP v26 true (aFad 2 v18) fun v27 =>
 guardP v26 true (aLd σ none v27) fun v28 =>
 bindP (aPick v26 v28 (.sc (.bool false))) fun v29 =>
 COND v29 (
 R (.ret (.sc (.int .i64 86))) σ n) (
 bindP (aFad 0 v12) fun v30 =>
 bindP (aLd σ none v30) fun v31 =>
 bindP (semBin .neq v31 (.sc (.int .i64 0))) fun v32 =>
 guardP v32 true (aFad 0 v12) fun v33 =>
 guardP v32 true (aLd σ none v33) fun v34 =>
 guardP v32 true (aFad 1 v18) fun v35 =>
 guardP v32 true (aLd σ none v35) fun v36 =>
 guardP v32 true (semBin .neq v34 v36) fun v37 =>
 bindP (aPick v32 v37 (.sc (.bool false))) fun v38 =>
 COND v38 (
 R (.ret (.sc (.int .i64 81))) σ n) (
 bindP (semBin .add (s8.getD 8 .any) (.sc (.int .i64 1))) fun v39 =>
 K8 [v9, v12, (s8.getD 8 .any), v18, v23, v29, v38, (s8.getD 7 .any), v39] σ n)))) (fun v22 => R (.pan v22) σ n)
def lb_rows_fits2 (v7 : AV) (a1 : AV) (v1 : AV) (R : AEnd → Hp → Nat → Prop) (K8 : List AV → Hp → Nat → Prop) (s8 : List AV) (σ : Hp) (n : Nat) : Prop :=
 bindP (semBin .lss (s8.getD 8 .any) v7) fun v9 =>
 COND v9 (
 bindP (aIad 3 a1 (s8.getD 8 .any)) fun v10 =>
 bindP (aLd σ (some 3) v10) fun v11 =>
 bindS (hAlloc n [(.int .i64 0), (.int .i64 0), (.string ⟨#[]⟩)]) σ n fun v12 σ n =>
 bindS (hSt σ 3 v12 v11) σ n fun v13 σ n =>
 bindP (aFad 1 v1) fun v14 =>
 bindP (aLd σ none v14) fun v15 =>
 bindP (aIad 3 v15 (s8.getD 8 .any)) fun v16 =>
 bindP (aLd σ (some 3) v16) fun v17 =>
 bindS (hAlloc n [(.string ⟨#[]⟩), (.int .i64 0), (.bool false)]) σ n fun v18 σ n =>
 bindS (hSt σ 3 v18 v17) σ n fun v19 σ n =>
 bindP (aLd σ (some 3) v12) fun v20 =>
 CALL Try.prog (.fn 124 []) [v20] σ n (kc_rows_fits1 R v12 v18 s8 K8 v9)) (
 R (.ret (.sc (.int .i64 0))) σ n)
attribute [go_sem] kc_rows_fits1 lb_rows_fits2
def sc_rows_fits : SCode := (.seq (.reg [
   ⟨(some 2), none, (.box (.t 0))⟩,
    ⟨(some 4), none, (.mv (.c (.sc (.int .i64 0))))⟩]) (.seq (.seq (.reg [
   ⟨(some 8), none, (.mv (.t 1))⟩,
    ⟨(some 9), none, (.len false (.t 8))⟩,
    ⟨(some 10), none, (.fad 1 (.t 2))⟩,
    ⟨(some 11), none, (.ld none (.t 10))⟩,
    ⟨(some 12), none, (.len false (.t 11))⟩,
    ⟨(some 13), none, (.bin .neq (.t 9) (.t 12))⟩]) (.cond (.t 13) (.seq (.reg [
   ⟨(some 4), none, (.mv (.c (.sc (.int .i64 3))))⟩]) .ret) .skip)) (.seq (.seq (.reg [
   ⟨(some 14), none, (.mv (.t 1))⟩,
    ⟨(some 15), none, (.len false (.t 14))⟩,
    ⟨(some 16), none, (.mv (.c (.sc (.int .i64 0))))⟩]) (.block 0 (.loop [17, 6, 5, 7, 26, 30, 38, 4, 16] [17, 18, 19, 20, 6, 5, 21, 22, 23, 24, 25, 7, 27, 28, 29, 26, 4, 31, 32, 33, 34, 35, 36, 37, 30, 4, 39, 40, 41, 42, 43, 44, 45, 46, 47, 48, 38, 4, 49, 16] (.seq (.reg [
   ⟨(some 17), none, (.bin .lss (.t 16) (.t 15))⟩]) (.seq (.cond (.t 17) .skip (.exit 0)) (.seq (.block 1 (.seq (.reg [
   ⟨(some 18), none, (.mv (.t 16))⟩,
    ⟨(some 19), none, (.iad 3 (.t 14) (.t 16))⟩,
    ⟨(some 20), none, (.ld (some 3) (.t 19))⟩,
    ⟨(some 6), none, (.alloc [(.int .i64 0), (.int .i64 0), (.string ⟨#[]⟩)])⟩,
    ⟨(some 5), none, (.mv (.t 18))⟩,
    ⟨none, none, (.st 3 (.t 6) (.t 20))⟩]) (.seq (.reg [
   ⟨(some 21), none, (.fad 1 (.t 2))⟩,
    ⟨(some 22), none, (.ld none (.t 21))⟩,
    ⟨(some 23), none, (.mv (.t 5))⟩,
    ⟨(some 24), none, (.iad 3 (.t 22) (.t 23))⟩,
    ⟨(some 25), none, (.ld (some 3) (.t 24))⟩,
    ⟨(some 7), none, (.alloc [(.string ⟨#[]⟩), (.int .i64 0), (.bool false)])⟩,
    ⟨none, none, (.st 3 (.t 7) (.t 25))⟩]) (.block 2 (.seq (.reg [
   ⟨(some 27), none, (.ld (some 3) (.t 6))⟩,
    ⟨(some 28), none, (.call (.c (.fn 124 [])) [(.t 27)])⟩,
    ⟨(some 29), none, (.bin .neq (.t 28) (.c (.sc (.int .i64 0))))⟩,
    ⟨(some 26), none, (.mv (.t 29))⟩]) (.cond (.t 26) (.seq (.reg [
   ⟨(some 4), none, (.mv (.c (.sc (.int .i64 9))))⟩]) .ret) (.seq (.reg [
   ⟨(some 31), none, (.fad 0 (.t 6))⟩,
    ⟨(some 32), none, (.ld none (.t 31))⟩,
    ⟨(some 33), none, (.bin .eql (.t 32) (.c (.sc (.int .i64 0))))⟩,
    ⟨(some 34), none, (.mv (.t 33))⟩,
    ⟨(some 35), (some (34, true)), (.fad 2 (.t 7))⟩,
    ⟨(some 36), (some (34, true)), (.ld none (.t 35))⟩,
    ⟨(some 37), none, (.pick (.t 34) (.t 36) (.c (.sc (.bool false))))⟩,
    ⟨(some 30), none, (.mv (.t 37))⟩]) (.cond (.t 30) (.seq (.reg [
   ⟨(some 4), none, (.mv (.c (.sc (.int .i64 86))))⟩]) .ret) (.seq (.reg [
   ⟨(some 39), none, (.fad 0 (.t 6))⟩,
    ⟨(some 40), none, (.ld none (.t 39))⟩,
    ⟨(some 41), none, (.bin .neq (.t 40) (.c (.sc (.int .i64 0))))⟩,
    ⟨(some 42), none, (.mv (.t 41))⟩,
    ⟨(some 43), (some (42, true)), (.fad 0 (.t 6))⟩,
    ⟨(some 44), (some (42, true)), (.ld none (.t 43))⟩,
    ⟨(some 45), (some (42, true)), (.fad 1 (.t 7))⟩,
    ⟨(some 46), (some (42, true)), (.ld none (.t 45))⟩,
    ⟨(some 47), (some (42, true)), (.bin .neq (.t 44) (.t 46))⟩,
    ⟨(some 48), none, (.pick (.t 42) (.t 47) (.c (.sc (.bool false))))⟩,
    ⟨(some 38), none, (.mv (.t 48))⟩]) (.cond (.t 38) (.seq (.reg [
   ⟨(some 4), none, (.mv (.c (.sc (.int .i64 81))))⟩]) .ret) .skip)))))))))) (.reg [
   ⟨(some 49), none, (.bin .add (.t 16) (.c (.sc (.int .i64 1))))⟩,
    ⟨(some 16), none, (.mv (.t 49))⟩]))))))) (.seq (.reg [
   ⟨(some 4), none, (.mv (.c (.sc (.int .i64 0))))⟩]) .ret))))
def sh_rows_fits (a0 a1 : AV) (σ : Hp) (n : Nat) (R : AEnd → Hp → Nat → Prop) : Prop :=
 bindS (hBox n a0) σ n fun v1 σ n =>
 bindP (aLen false a1) fun v2 => bnd σ a1 →
 bindP (aFad 1 v1) fun v3 =>
 bindP (aLd σ none v3) fun v4 =>
 bindP (aLen false v4) fun v5 => bnd σ v4 →
 bindP (semBin .neq v2 v5) fun v6 =>
 COND v6 (
 R (.ret (.sc (.int .i64 3))) σ n) (
 bindP (aLen false a1) fun v7 => bnd σ a1 →
 LOOP (lb_rows_fits2 v7 a1 v1 R) [(.tp []), (.tp []), (.tp []), (.tp []), (.tp []), (.tp []), (.tp []), (.sc (.int .i64 0)), (.sc (.int .i64 0))] σ n)
theorem se_rows_fits (a0 a1 : AV) (σ : Hp) (n : Nat) (R : AEnd → Hp → Nat → Prop) : sh_rows_fits a0 a1 σ n R = swp Try.prog sc_rows_fits (retQ [(.t 4)] R) (entry [a0, a1]) σ n := by kernel_rfl
theorem by_rows_fits {a0 a1 : AV} {σ : Hp} {n : Nat} {R : AEnd → Hp → Nat → Prop} (h : sh_rows_fits a0 a1 σ n R) : ConH Try.prog 76 [a0, a1] σ n R := by
  rw [se_rows_fits] at h
  exact conH_of [(.t 4)] (fn := Try.f76) rfl [0, 13, 1, 15, 17, 14, 2, 5, 26, 30, 6, 7, 38, 16, 4] (by kernel_rfl) (by kernel_rfl) (by kernel_rfl) (by kernel_rfl) h
/-- switchback/value.Order -/
def kc_value_Order1 (R : AEnd → Hp → Nat → Prop) (r : AEnd) (σ : Hp) (n : Nat) : Prop :=
 onEnd r (fun v17 =>
 R (.ret v17) σ n) (fun v18 => R (.pan v18) σ n)
def kc_value_Order2 (R : AEnd → Hp → Nat → Prop) (r : AEnd) (σ : Hp) (n : Nat) : Prop :=
 onEnd r (fun v24 =>
 R (.ret v24) σ n) (fun v25 => R (.pan v25) σ n)
def jk_value_Order3 (v1 : AV) (v2 : AV) (R : AEnd → Hp → Nat → Prop) (v11 : AV) (s12 : List AV) (σ : Hp) (n : Nat) : Prop :=
 COND (s12.getD 0 .any) (
 bindP (aFad 1 v1) fun v13 =>
 bindP (aLd σ none v13) fun v14 =>
 bindP (aFad 1 v2) fun v15 =>
 bindP (aLd σ none v15) fun v16 =>
 CALL Try.prog (.fn 125 []) [v14, v16] σ n (kc_value_Order1 R)) (
 bindP (semBin .eql v11 (.sc (.int .i64 3))) fun v19 =>
 COND v19 (
 bindP (aFad 2 v1) fun v20 =>
 bindP (aLd σ none v20) fun v21 =>
 bindP (aFad 2 v2) fun v22 =>
 bindP (aLd σ none v22) fun v23 =>
 CALL Try.prog (.fn 112 []) [v21, v23] σ n (kc_value_Order2 R)) (
 R (.ret (.sc (.int .i64 0))) σ n))
def kc_value_Order4 (R : AEnd → Hp → Nat → Prop) (v1 : AV) (v2 : AV) (r : AEnd) (σ : Hp) (n : Nat) : Prop :=
 onEnd r (fun v7 =>
 bindP (semBin .neq v7 (.sc (.int .i64 0))) fun v9 =>
 COND v9 (
 R (.ret v7) σ n) (
 bindP (aFad 0 v1) fun v10 =>
 bindP (aLd σ none v10) fun v11 =>
 JOIN (jk_value_Order3 v1 v2 R v11) fun K12 =>
 bindP (semBin .eql v11 (.sc (.int .i64 1))) fun v26 =>
 COND v26 (
 K12 [v26] σ n) (
 bindP (semBin .eql v11 (.sc (.int .i64 2))) fun v27 =>
 K12 [v27] σ n))) (fun v8 => R (.pan v8) σ n)
attribute [go_sem] kc_value_Order1 kc_value_Order2 jk_value_Order3 kc_value_Order4
def sc_value_Order : SCode := (.seq (.reg [
   ⟨(some 2), none, (.box (.t 0))⟩,
    ⟨(some 3), none, (.box (.t 1))⟩,
    ⟨(some 4), none, (.mv (.c (.sc (.int .i64 0))))⟩]) (.seq (.seq (.reg [
   ⟨(some 6), none, (.fad 0 (.t 2))⟩,
    ⟨(some 7), none, (.ld none (.t 6))⟩,
    ⟨(some 8), none, (.fad 0 (.t 3))⟩,
    ⟨(some 9), none, (.ld none (.t 8))⟩,
    ⟨(some 10), none, (.call (.c (.fn 125 [])) [(.t 7), (.t 9)])⟩,
    ⟨(some 5), none, (.mv (.t 10))⟩]) (.seq (.reg [
   ⟨(some 11), none, (.mv (.t 5))⟩,
    ⟨(some 12), none, (.bin .neq (.t 11) (.c (.sc (.int .i64 0))))⟩]) (.cond (.t 12) (.seq (.reg [
   ⟨(some 13), none, (.mv (.t 5))⟩,
    ⟨(some 4), none, (.mv (.t 13))⟩]) .ret) .skip))) (.seq (.seq (.reg [
   ⟨(some 14), none, (.fad 0 (.t 2))⟩,
    ⟨(some 15), none, (.ld none (.t 14))⟩]) (.block 0 (.seqJ [16] [17, 16, 18, 16] (.seq (.reg [
   ⟨(some 17), none, (.bin .eql (.t 15) (.c (.sc (.int .i64 1))))⟩,
    ⟨(some 16), none, (.mv (.t 17))⟩]) (.cond (.t 16) .skip (.reg [
   ⟨(some 18), none, (.bin .eql (.t 15) (.c (.sc (.int .i64 2))))⟩,
    ⟨(some 16), none, (.mv (.t 18))⟩]))) (.cond (.t 16) (.seq (.reg [
   ⟨(some 19), none, (.fad 1 (.t 2))⟩,
    ⟨(some 20), none, (.ld none (.t 19))⟩,
    ⟨(some 21), none, (.fad 1 (.t 3))⟩,
    ⟨(some 22), none, (.ld none (.t 21))⟩,
    ⟨(some 23), none, (.call (.c (.fn 125 [])) [(.t 20), (.t 22)])⟩,
    ⟨(some 4), none, (.mv (.t 23))⟩]) .ret) (.seq (.reg [
   ⟨(some 25), none, (.bin .eql (.t 15) (.c (.sc (.int .i64 3))))⟩,
    ⟨(some 24), none, (.mv (.t 25))⟩]) (.cond (.t 24) (.seq (.reg [
   ⟨(some 26), none, (.fad 2 (.t 2))⟩,
    ⟨(some 27), none, (.ld none (.t 26))⟩,
    ⟨(some 28), none, (.fad 2 (.t 3))⟩,
    ⟨(some 29), none, (.ld none (.t 28))⟩,
    ⟨(some 30), none, (.call (.c (.fn 112 [])) [(.t 27), (.t 29)])⟩,
    ⟨(some 4), none, (.mv (.t 30))⟩]) .ret) .skip)))))) (.seq (.reg [
   ⟨(some 4), none, (.mv (.c (.sc (.int .i64 0))))⟩]) .ret))))
def sh_value_Order (a0 a1 : AV) (σ : Hp) (n : Nat) (R : AEnd → Hp → Nat → Prop) : Prop :=
 bindS (hBox n a0) σ n fun v1 σ n =>
 bindS (hBox n a1) σ n fun v2 σ n =>
 bindP (aFad 0 v1) fun v3 =>
 bindP (aLd σ none v3) fun v4 =>
 bindP (aFad 0 v2) fun v5 =>
 bindP (aLd σ none v5) fun v6 =>
 CALL Try.prog (.fn 125 []) [v4, v6] σ n (kc_value_Order4 R v1 v2)
theorem se_value_Order (a0 a1 : AV) (σ : Hp) (n : Nat) (R : AEnd → Hp → Nat → Prop) : sh_value_Order a0 a1 σ n R = swp Try.prog sc_value_Order (retQ [(.t 4)] R) (entry [a0, a1]) σ n := by kernel_rfl
theorem by_value_Order {a0 a1 : AV} {σ : Hp} {n : Nat} {R : AEnd → Hp → Nat → Prop} (h : sh_value_Order a0 a1 σ n R) : ConH Try.prog 77 [a0, a1] σ n R := by
  rw [se_value_Order] at h
  exact conH_of [(.t 4)] (fn := Try.f77) rfl [0, 1, 12, 5, 16, 15, 24, 2, 3, 4] (by kernel_rfl) (by kernel_rfl) (by kernel_rfl) (by kernel_rfl) h
/-- switchback/rows.place -/
def kc_rows_place1 (R : AEnd → Hp → Nat → Prop) (r : AEnd) (σ : Hp) (n : Nat) : Prop :=
 onEnd r (fun v4 =>
 bindP (aExt v4 0) fun v6 =>
 bindP (aExt v4 1) fun v7 =>
 R (.ret (.tp [v6, v7])) σ n) (fun v5 => R (.pan v5) σ n)
attribute [go_sem] kc_rows_place1
def sc_rows_place : SCode := (.seq (.reg [
   ⟨(some 3), none, (.box (.t 0))⟩,
    ⟨(some 5), none, (.box (.t 2))⟩,
    ⟨(some 6), none, (.mv (.c (.sc (.int .i64 0))))⟩,
    ⟨(some 7), none, (.mv (.c (.sc (.bool false))))⟩]) (.seq (.reg [
   ⟨(some 8), none, (.mv (.t 1))⟩,
    ⟨(some 9), none, (.ld (some 3) (.t 5))⟩,
    ⟨(some 10), none, (.mkf 127 [(.t 3)])⟩,
    ⟨(some 11), none, (.call (.c (.fn 126 [])) [(.t 8), (.t 9), (.t 10)])⟩,
    ⟨(some 12), none, (.ext (.t 11) 0)⟩,
    ⟨(some 13), none, (.ext (.t 11) 1)⟩,
    ⟨(some 6), none, (.mv (.t 12))⟩,
    ⟨(some 7), none, (.mv (.t 13))⟩]) .ret))
def sh_rows_place (a0 a1 a2 : AV) (σ : Hp) (n : Nat) (R : AEnd → Hp → Nat → Prop) : Prop :=
 bindS (hBox n a0) σ n fun v1 σ n =>
 bindS (hBox n a2) σ n fun v2 σ n =>
 bindP (aLd σ (some 3) v2) fun v3 =>
 CALL Try.prog (.fn 126 []) [a1, v3, (.fn 127 [v1])] σ n (kc_rows_place1 R)
theorem se_rows_place (a0 a1 a2 : AV) (σ : Hp) (n : Nat) (R : AEnd → Hp → Nat → Prop) : sh_rows_place a0 a1 a2 σ n R = swp Try.prog sc_rows_place (retQ [(.t 6), (.t 7)] R) (entry [a0, a1, a2]) σ n := by kernel_rfl
theorem by_rows_place {a0 a1 a2 : AV} {σ : Hp} {n : Nat} {R : AEnd → Hp → Nat → Prop} (h : sh_rows_place a0 a1 a2 σ n R) : ConH Try.prog 78 [a0, a1, a2] σ n R := by
  rw [se_rows_place] at h
  exact conH_of [(.t 6), (.t 7)] (fn := Try.f78) rfl [0, 2, 1, 5, 3, 6, 7] (by kernel_rfl) (by kernel_rfl) (by kernel_rfl) (by kernel_rfl) h
/-- switchback/rows.Delete$1 -/
def kc_rows_Delete_c11 (R : AEnd → Hp → Nat → Prop) (r : AEnd) (σ : Hp) (n : Nat) : Prop :=
 onEnd r (fun v2 =>
 R (.ret v2) σ n) (fun v3 => R (.pan v3) σ n)
attribute [go_sem] kc_rows_Delete_c11
def sc_rows_Delete_c1 : SCode := (.seq (.reg [
   ⟨(some 3), none, (.mv (.c (.sc (.int .i64 0))))⟩]) (.seq (.reg [
   ⟨(some 4), none, (.mv (.t 0))⟩,
    ⟨(some 5), none, (.ld none (.t 1))⟩,
    ⟨(some 6), none, (.call (.c (.fn 80 [])) [(.t 4), (.t 5)])⟩,
    ⟨(some 3), none, (.mv (.t 6))⟩]) .ret))
def sh_rows_Delete_c1 (a0 a1 : AV) (σ : Hp) (n : Nat) (R : AEnd → Hp → Nat → Prop) : Prop :=
 bindP (aLd σ none a1) fun v1 =>
 CALL Try.prog (.fn 80 []) [a0, v1] σ n (kc_rows_Delete_c11 R)
theorem se_rows_Delete_c1 (a0 a1 : AV) (σ : Hp) (n : Nat) (R : AEnd → Hp → Nat → Prop) : sh_rows_Delete_c1 a0 a1 σ n R = swp Try.prog sc_rows_Delete_c1 (retQ [(.t 3)] R) (entry [a0, a1]) σ n := by kernel_rfl
theorem by_rows_Delete_c1 {a0 a1 : AV} {σ : Hp} {n : Nat} {R : AEnd → Hp → Nat → Prop} (h : sh_rows_Delete_c1 a0 a1 σ n R) : ConH Try.prog 79 [a0, a1] σ n R := by
  rw [se_rows_Delete_c1] at h
  exact conH_of [(.t 3)] (fn := Try.f79) rfl [0, 1, 3] (by kernel_rfl) (by kernel_rfl) (by kernel_rfl) (by kernel_rfl) h
/-- (*switchback/rows.table).remove -/
def kc_prows_table_remove1 (a0 : AV) (s2 : List AV) (K2 : List AV → Hp → Nat → Prop) (v3 : AV) (v6 : AV) (v20 : AV) (v21 : AV) (v24 : AV) (R : AEnd → Hp → Nat → Prop) (r : AEnd) (σ : Hp) (n : Nat) : Prop :=
 onEnd r (fun v29 =>
 bindP (aNck a0) fun v31 =>
 bindP (aFad 4 v31) fun v32 =>
 bindS (hSt σ 1 v32 v29) σ n fun v33 σ n =>
 bindP (semBin .add (s2.getD 6 .any) (.sc (.int .i64 1))) fun v34 =>
 K2 [v3, v6, v20, v21, v24, (s2.getD 5 .any), v34] σ n) (fun v30 => R (.pan v30) σ n)
def kd_prows_table_remove2 (v10 : AV) (v14 : AV) (v6 : AV) (n : Nat) (σ : Hp) (R : AEnd → Hp → Nat → Prop) (a0 : AV) (s2 : List AV) (K2 : List AV → Hp → Nat → Prop) (v3 : AV) (r : AEnd) (w17 : Wr) (d17 : List Nat) : Prop :=
 onEnd r (fun v17 =>
 bindP (aExt v17 0) fun v20 =>
 bindP (aExt v17 1) fun v21 =>
 Apt (names []) (rdA v10) (names []) (rdA v14) ∧
 Apt (names []) (rdA v10) (names []) (rdA v6) ∧
 Apt (names []) (rdA v14) (names []) (rdA v6) ∧
 ∀ n_, n + 16 * 15 ≤ n_ → (fun n => (fun σ => bindP (aUn .not v21) fun v24 =>
 COND v24 (
 R (.ret (.sc (.int .i64 71))) σ n) (
 bindP (aNck a0) fun v25 =>
 bindP (aFad 4 v25) fun v26 =>
 bindP (aLd σ none v26) fun v27 =>
 bindP (semBin .add v20 (.sc (.int .i64 1))) fun v28 =>
 CALL Try.prog (.fn 128 []) [v27, v20, v28] σ n (kc_prows_table_remove1 a0 s2 K2 v3 v6 v20 v21 v24 R))) (applyW σ w17)) n_) (fun v18 => Apt (names []) (rdA v10) (names []) (rdA v14) ∧
 Apt (names []) (rdA v10) (names []) (rdA v6) ∧
 Apt (names []) (rdA v14) (names []) (rdA v6) ∧
 ∀ (fr_ : Regs) σ n, R (.pan v18) σ n)
def lb_prows_table_remove3 (v1 : AV) (a1 : AV) (a0 : AV) (R : AEnd → Hp → Nat → Prop) (K2 : List AV → Hp → Nat → Prop) (s2 : List AV) (σ : Hp) (n : Nat) : Prop :=
 bindP (semBin .lss (s2.getD 6 .any) v1) fun v3 =>
 COND v3 (
 bindP (aIad 3 a1 (s2.getD 6 .any)) fun v4 =>
 bindP (aLd σ (some 3) v4) fun v5 =>
 bindS (hAlloc n [(.int .i64 0), (.int .i64 0), (.string ⟨#[]⟩)]) σ n fun v6 σ n =>
 bindS (hSt σ 3 v6 v5) σ n fun v7 σ n =>
 bindP (aNck a0) fun v9 =>
 bindP (aFad 0 v9) fun v10 =>
 bindP (aLd σ (some 4) v10) fun v11 =>
 bindP (aNck a0) fun v13 =>
 bindP (aFad 4 v13) fun v14 =>
 bindP (aLd σ none v14) fun v15 =>
 bindP (aLd σ (some 3) v6) fun v16 =>
 callD Try.prog (.fn 78 []) [v11, v15, v16] σ (n + 16 * 9) (kd_prows_table_remove2 v10 v14 v6 n σ R a0 s2 K2 v3)) (
 R (.ret (.sc (.int .i64 0))) σ n)
attribute [go_sem] kc_prows_table_remove1 kd_prows_table_remove2 lb_prows_table_remove3
def sc_prows_table_remove : SCode := (.seq (.reg [
   ⟨(some 4), none, (.mv (.c (.sc (.int .i64 0))))⟩]) (.seq (.seq (.reg [
   ⟨(some 9), none, (.mv (.t 1))⟩,
    ⟨(some 10), none, (.len false (.t 9))⟩,
    ⟨(some 11), none, (.mv (.c (.sc (.int .i64 0))))⟩]) (.block 0 (.loop [12, 6, 7, 8, 29, 4, 11] [12, 13, 14, 6, 16, 17, 18, 19, 20, 21, 22, 23, 24, 25, 15, 26, 27, 7, 8, 28, 29, 4, 30, 31, 32, 33, 34, 35, 36, 37, 38, 39, 40, 41, 11] (.seq (.reg [
   ⟨(some 12), none, (.bin .lss (.t 11) (.t 10))⟩]) (.seq (.cond (.t 12) .skip (.exit 0)) (.seq (.block 1 (.seq (.reg [
   ⟨(some 13), none, (.iad 3 (.t 9) (.t 11))⟩,
    ⟨(some 14), none, (.ld (some 3) (.t 13))⟩,
    ⟨(some 6), none, (.alloc [(.int .i64 0), (.int .i64 0), (.string ⟨#[]⟩)])⟩,
    ⟨none, none, (.st 3 (.t 6) (.t 14))⟩]) (.seq (.regD [(⟨(some 16), none, (.mv (.t 0))⟩, []), (⟨(some 17), none, (.nck (.t 16))⟩, [0]), (⟨(some 18), none, (.fad 0 (.t 17))⟩, [1, 0]), (⟨(some 19), none, (.ld (some 4) (.t 18))⟩, [2, 1, 0]), (⟨(some 20), none, (.mv (.t 0))⟩, []), (⟨(some 21), none, (.nck (.t 20))⟩, [4]), (⟨(some 22), none, (.fad 4 (.t 21))⟩, [5, 4]), (⟨(some 23), none, (.ld none (.t 22))⟩, [6, 5, 4]), (⟨(some 24), none, (.ld (some 3) (.t 6))⟩, []), (⟨(some 25), none, (.call (.c (.fn 78 [])) [(.t 19), (.t 23), (.t 24)])⟩, [3, 2, 1, 0, 7, 6, 5, 4, 8]), (⟨(some 15), none, (.mv (.t 25))⟩, [9, 3, 2, 1, 0, 7, 6, 5, 4, 8]), (⟨(some 26), none, (.ext (.t 15) 0)⟩, [10, 9, 3, 2, 1, 0, 7, 6, 5, 4, 8]), (⟨(some 27), none, (.ext (.t 15) 1)⟩, [10, 9, 3, 2, 1, 0, 7, 6, 5, 4, 8]), (⟨(some 7), none, (.mv (.t 26))⟩, [11, 10, 9, 3, 2, 1, 0, 7, 6, 5, 4, 8]), (⟨(some 8), none, (.mv (.t 27))⟩, [12, 10, 9, 3, 2, 1, 0, 7, 6, 5, 4, 8, 13, 11])]) (.seq (.seq (.reg [
   ⟨(some 28), none, (.mv (.t 8))⟩,
    ⟨(some 29), none, (.un .not (.t 28))⟩]) (.cond (.t 29) (.seq (.reg [
   ⟨(some 4), none, (.mv (.c (.sc (.int .i64 71))))⟩]) .ret) .skip)) (.reg [
   ⟨(some 30), none, (.mv (.t 0))⟩,
    ⟨(some 31), none, (.mv (.t 0))⟩,
    ⟨(some 32), none, (.nck (.t 31))⟩,
    ⟨(some 33), none, (.fad 4 (.t 32))⟩,
    ⟨(some 34), none, (.ld none (.t 33))⟩,
    ⟨(some 35), none, (.mv (.t 7))⟩,
    ⟨(some 36), none, (.mv (.t 7))⟩,
    ⟨(some 37), none, (.bin .add (.t 36) (.c (.sc (.int .i64 1))))⟩,
    ⟨(some 38), none, (.call (.c (.fn 128 [])) [(.t 34), (.t 35), (.t 37)])⟩,
    ⟨(some 39), none, (.nck (.t 30))⟩,
    ⟨(some 40), none, (.fad 4 (.t 39))⟩,
    ⟨none, none, (.st 1 (.t 40) (.t 38))⟩]))))) (.reg [
   ⟨(some 41), none, (.bin .add (.t 11) (.c (.sc (.int .i64 1))))⟩,
    ⟨(some 11), none, (.mv (.t 41))⟩]))))))) (.seq (.reg [
   ⟨(some 4), none, (.mv (.c (.sc (.int .i64 0))))⟩]) .ret)))
def sh_prows_table_remove (a0 a1 : AV) (σ : Hp) (n : Nat) (R : AEnd → Hp → Nat → Prop) : Prop :=
 bindP (aLen false a1) fun v1 => bnd σ a1 →
 LOOP (lb_prows_table_remove3 v1 a1 a0 R) [(.tp []), (.tp []), (.tp []), (.tp []), (.tp []), (.sc (.int .i64 0)), (.sc (.int .i64 0))] σ n
theorem se_prows_table_remove (a0 a1 : AV) (σ : Hp) (n : Nat) (R : AEnd → Hp → Nat → Prop) : sh_prows_table_remove a0 a1 σ n R = swp Try.prog sc_prows_table_remove (retQ [(.t 4)] R) (entry [a0, a1]) σ n := by kernel_rfl
theorem by_prows_table_remove {a0 a1 : AV} {σ : Hp} {n : Nat} {R : AEnd → Hp → Nat → Prop} (h : sh_prows_table_remove a0 a1 σ n R) : ConH Try.prog 80 [a0, a1] σ n R := by
  rw [se_prows_table_remove] at h
  exact conH_of [(.t 4)] (fn := Try.f80) rfl [1, 10, 12, 9, 6, 8, 29, 0, 7, 11, 4] (by kernel_rfl) (by kernel_rfl) (by kernel_rfl) (by kernel_rfl) h
/-- cmp.Compare[string] -/
def kc_cmp_Compare_string1 (v1 : AV) (R : AEnd → Hp → Nat → Prop) (a0 : AV) (a1 : AV) (r : AEnd) (σ : Hp) (n : Nat) : Prop :=
 onEnd r (fun v3 =>
 COND v1 (
 COND v3 (
 R (.ret (.sc (.int .i64 0))) σ n) (
 R (.ret (.sc (.int .i64 (-1)))) σ n)) (
 COND v3 (
 R (.ret (.sc (.int .i64 1))) σ n) (
 bindP (semBin .lss a0 a1) fun v5 =>
 COND v5 (
 R (.ret (.sc (.int .i64 (-1)))) σ n) (
 bindP (semBin .gtr a0 a1) fun v6 =>
 COND v6 (
 R (.ret (.sc (.int .i64 1))) σ n) (
 R (.ret (.sc (.int .i64 0))) σ n))))) (fun v4 => R (.pan v4) σ n)
def kc_cmp_Compare_string2 (a1 : AV) (R : AEnd → Hp → Nat → Prop) (a0 : AV) (r : AEnd) (σ : Hp) (n : Nat) : Prop :=
 onEnd r (fun v1 =>
 CALL Try.prog (.fn 154 []) [a1] σ n (kc_cmp_Compare_string1 v1 R a0 a1)) (fun v2 => R (.pan v2) σ n)
attribute [go_sem] kc_cmp_Compare_string1 kc_cmp_Compare_string2
def sc_cmp_Compare_string : SCode := (.seq (.reg [
   ⟨(some 4), none, (.mv (.c (.sc (.int .i64 0))))⟩]) (.seq (.reg [
   ⟨(some 7), none, (.mv (.t 0))⟩,
    ⟨(some 8), none, (.call (.c (.fn 154 [])) [(.t 7)])⟩,
    ⟨(some 5), none, (.mv (.t 8))⟩]) (.seq (.reg [
   ⟨(some 9), none, (.mv (.t 1))⟩,
    ⟨(some 10), none, (.call (.c (.fn 154 [])) [(.t 9)])⟩,
    ⟨(some 6), none, (.mv (.t 10))⟩]) (.seq (.seq (.reg [
   ⟨(some 11), none, (.mv (.t 5))⟩]) (.cond (.t 11) (.seq (.seq (.reg [
   ⟨(some 12), none, (.mv (.t 6))⟩]) (.cond (.t 12) (.seq (.reg [
   ⟨(some 4), none, (.mv (.c (.sc (.int .i64 0))))⟩]) .ret) .skip)) (.seq (.reg [
   ⟨(some 4), none, (.mv (.c (.sc (.int .i64 (-1)))))⟩]) .ret)) .skip)) (.seq (.seq (.reg [
   ⟨(some 13), none, (.mv (.t 6))⟩]) (.cond (.t 13) (.seq (.reg [
   ⟨(some 4), none, (.mv (.c (.sc (.int .i64 1))))⟩]) .ret) .skip)) (.seq (.seq (.reg [
   ⟨(some 14), none, (.mv (.t 0))⟩,
    ⟨(some 15), none, (.mv (.t 1))⟩,
    ⟨(some 16), none, (.bin .lss (.t 14) (.t 15))⟩]) (.cond (.t 16) (.seq (.reg [
   ⟨(some 4), none, (.mv (.c (.sc (.int .i64 (-1)))))⟩]) .ret) .skip)) (.seq (.seq (.reg [
   ⟨(some 17), none, (.mv (.t 0))⟩,
    ⟨(some 18), none, (.mv (.t 1))⟩,
    ⟨(some 19), none, (.bin .gtr (.t 17) (.t 18))⟩]) (.cond (.t 19) (.seq (.reg [
   ⟨(some 4), none, (.mv (.c (.sc (.int .i64 1))))⟩]) .ret) .skip)) (.seq (.reg [
   ⟨(some 4), none, (.mv (.c (.sc (.int .i64 0))))⟩]) .ret))))))))
def sh_cmp_Compare_string (a0 a1 : AV) (σ : Hp) (n : Nat) (R : AEnd → Hp → Nat → Prop) : Prop :=
 CALL Try.prog (.fn 154 []) [a0] σ n (kc_cmp_Compare_string2 a1 R a0)
theorem se_cmp_Compare_string (a0 a1 : AV) (σ : Hp) (n : Nat) (R : AEnd → Hp → Nat → Prop) : sh_cmp_Compare_string a0 a1 σ n R = swp Try.prog sc_cmp_Compare_string (retQ [(.t 4)] R) (entry [a0, a1]) σ n := by kernel_rfl
theorem by_cmp_Compare_string {a0 a1 : AV} {σ : Hp} {n : Nat} {R : AEnd → Hp → Nat → Prop} (h : sh_cmp_Compare_string a0 a1 σ n R) : ConH Try.prog 112 [a0, a1] σ n R := by
  rw [se_cmp_Compare_string] at h
  exact conH_of [(.t 4)] (fn := Try.f112) rfl [5, 11, 12, 6, 13, 16, 0, 1, 19, 4] (by kernel_rfl) (by kernel_rfl) (by kernel_rfl) (by kernel_rfl) h
/-- switchback/rows.Update$1 -/
def kc_rows_Update_c11 (R : AEnd → Hp → Nat → Prop) (r : AEnd) (σ : Hp) (n : Nat) : Prop :=
 onEnd r (fun v11 =>
 R (.ret v11) σ n) (fun v12 => R (.pan v12) σ n)
def kc_rows_Update_c12 (R : AEnd → Hp → Nat → Prop) (a2 : AV) (a0 : AV) (r : AEnd) (σ : Hp) (n : Nat) : Prop :=
 onEnd r (fun v7 =>
 bindP (semBin .neq v7 (.sc (.int .i64 0))) fun v9 =>
 COND v9 (
 R (.ret v7) σ n) (
 bindP (aLd σ none a2) fun v10 =>
 CALL Try.prog (.fn 74 []) [a0, v10] σ n (kc_rows_Update_c11 R))) (fun v8 => R (.pan v8) σ n)
attribute [go_sem] kc_rows_Update_c11 kc_rows_Update_c12
def sc_rows_Update_c1 : SCode := (.seq (.reg [
   ⟨(some 4), none, (.mv (.c (.sc (.int .i64 0))))⟩]) (.seq (.seq (.reg [
   ⟨(some 6), none, (.ld none (.t 1))⟩,
    ⟨(some 7), none, (.len false (.t 6))⟩,
    ⟨(some 8), none, (.ld none (.t 2))⟩,
    ⟨(some 9), none, (.len false (.t 8))⟩,
    ⟨(some 10), none, (.bin .neq (.t 7) (.t 9))⟩]) (.cond (.t 10) (.seq (.reg [
   ⟨(some 4), none, (.mv (.c (.sc (.int .i64 3))))⟩]) .ret) .skip)) (.seq (.seq (.reg [
   ⟨(some 11), none, (.mv (.t 0))⟩,
    ⟨(some 12), none, (.ld none (.t 1))⟩,
    ⟨(some 13), none, (.call (.c (.fn 80 [])) [(.t 11), (.t 12)])⟩,
    ⟨(some 5), none, (.mv (.t 13))⟩]) (.seq (.reg [
   ⟨(some 14), none, (.mv (.t 5))⟩,
    ⟨(some 15), none, (.bin .neq (.t 14) (.c (.sc (.int .i64 0))))⟩]) (.cond (.t 15) (.seq (.reg [
   ⟨(some 16), none, (.mv (.t 5))⟩,
    ⟨(some 4), none, (.mv (.t 16))⟩]) .ret) .skip))) (.seq (.reg [
   ⟨(some 17), none, (.mv (.t 0))⟩,
    ⟨(some 18), none, (.ld none (.t 2))⟩,
    ⟨(some 19), none, (.call (.c (.fn 74 [])) [(.t 17), (.t 18)])⟩,
    ⟨(some 4), none, (.mv (.t 19))⟩]) .ret))))
def sh_rows_Update_c1 (a0 a1 a2 : AV) (σ : Hp) (n : Nat) (R : AEnd → Hp → Nat → Prop) : Prop :=
 bindP (aLd σ none a1) fun v1 =>
 bindP (aLen false v1) fun v2 => bnd σ v1 →
 bindP (aLd σ none a2) fun v3 =>
 bindP (aLen false v3) fun v4 => bnd σ v3 →
 bindP (semBin .neq v2 v4) fun v5 =>
 COND v5 (
 R (.ret (.sc (.int .i64 3))) σ n) (
 bindP (aLd σ none a1) fun v6 =>
 CALL Try.prog (.fn 80 []) [a0, v6] σ n (kc_rows_Update_c12 R a2 a0))
theorem se_rows_Update_c1 (a0 a1 a2 : AV) (σ : Hp) (n : Nat) (R : AEnd → Hp → Nat → Prop) : sh_rows_Update_c1 a0 a1 a2 σ n R = swp Try.prog sc_rows_Update_c1 (retQ [(.t 4)] R) (entry [a0, a1, a2]) σ n := by kernel_rfl
theorem by_rows_Update_c1 {a0 a1 a2 : AV} {σ : Hp} {n : Nat} {R : AEnd → Hp → Nat → Prop} (h : sh_rows_Update_c1 a0 a1 a2 σ n R) : ConH Try.prog 119 [a0, a1, a2] σ n R := by
  rw [se_rows_Update_c1] at h
  exact conH_of [(.t 4)] (fn := Try.f119) rfl [10, 1, 15, 5, 0, 2, 4] (by kernel_rfl) (by kernel_rfl) (by kernel_rfl) (by kernel_rfl) h
/-- switchback/rows.Clone -/
def kc_rows_Clone1 (v1 : AV) (s4 : List AV) (K4 : List AV → Hp → Nat → Prop) (v5 : AV) (v7 : AV) (R : AEnd → Hp → Nat → Prop) (r : AEnd) (σ : Hp) (n : Nat) : Prop :=
 onEnd r (fun v8 =>
 bindP (aIad 1 v1 (s4.getD 3 .any)) fun v10 =>
 bindS (hSt σ 1 v10 v8) σ n fun v11 σ n =>
 bindP (semBin .add (s4.getD 3 .any) (.sc (.int .i64 1))) fun v12 =>
 K4 [v5, (s4.getD 3 .any), v7, v12] σ n) (fun v9 => R (.pan v9) σ n)
def lb_rows_Clone2 (v3 : AV) (v1 : AV) (R : AEnd → Hp → Nat → Prop) (K4 : List AV → Hp → Nat → Prop) (s4 : List AV) (σ : Hp) (n : Nat) : Prop :=
 bindP (semBin .lss (s4.getD 3 .any) v3) fun v5 =>
 COND v5 (
 bindP (aIad 1 v1 (s4.getD 3 .any)) fun v6 =>
 bindP (aLd σ none v6) fun v7 =>
 CALL Try.prog (.fn 122 []) [v7] σ n (kc_rows_Clone1 v1 s4 K4 v5 v7 R)) (
 R (.ret v1) σ n)
def kc_rows_Clone3 (R : AEnd → Hp → Nat → Prop) (r : AEnd) (σ : Hp) (n : Nat) : Prop :=
 onEnd r (fun v1 =>
 bindP (aLen false v1) fun v3 => bnd σ v1 →
 LOOP (lb_rows_Clone2 v3 v1 R) [(.tp []), (.tp []), (.tp []), (.sc (.int .i64 0))] σ n) (fun v2 => R (.pan v2) σ n)
attribute [go_sem] kc_rows_Clone1 lb_rows_Clone2 kc_rows_Clone3
def sc_rows_Clone : SCode := (.seq (.reg [
   ⟨(some 2), none, (.mv (.c .em))⟩]) (.seq (.reg [
   ⟨(some 5), none, (.mv (.t 0))⟩,
    ⟨(some 6), none, (.call (.c (.fn 157 [])) [(.t 5)])⟩,
    ⟨(some 0), none, (.mv (.t 6))⟩]) (.seq (.seq (.reg [
   ⟨(some 7), none, (.mv (.t 0))⟩,
    ⟨(some 8), none, (.len false (.t 7))⟩,
    ⟨(some 9), none, (.mv (.c (.sc (.int .i64 0))))⟩]) (.block 0 (.loop [10, 3, 4, 9] [10, 11, 12, 13, 3, 4, 14, 15, 16, 17, 18, 19, 9] (.seq (.reg [
   ⟨(some 10), none, (.bin .lss (.t 9) (.t 8))⟩]) (.seq (.cond (.t 10) .skip (.exit 0)) (.seq (.block 1 (.seq (.reg [
   ⟨(some 11), none, (.mv (.t 9))⟩,
    ⟨(some 12), none, (.iad 1 (.t 7) (.t 9))⟩,
    ⟨(some 13), none, (.ld none (.t 12))⟩,
    ⟨(some 3), none, (.mv (.t 11))⟩,
    ⟨(some 4), none, (.mv (.t 13))⟩]) (.reg [
   ⟨(some 14), none, (.mv (.t 0))⟩,
    ⟨(some 15), none, (.mv (.t 3))⟩,
    ⟨(some 16), none, (.mv (.t 4))⟩,
    ⟨(some 17), none, (.call (.c (.fn 122 [])) [(.t 16)])⟩,
    ⟨(some 18), none, (.iad 1 (.t 14) (.t 15))⟩,
    ⟨none, none, (.st 1 (.t 18) (.t 17))⟩]))) (.reg [
   ⟨(some 19), none, (.bin .add (.t 9) (.c (.sc (.int .i64 1))))⟩,
    ⟨(some 9), none, (.mv (.t 19))⟩]))))))) (.seq (.reg [
   ⟨(some 20), none, (.mv (.t 0))⟩,
    ⟨(some 2), none, (.mv (.t 20))⟩]) .ret))))
def sh_rows_Clone (a0 : AV) (σ : Hp) (n : Nat) (R : AEnd → Hp → Nat → Prop) : Prop :=
 CALL Try.prog (.fn 157 []) [a0] σ n (kc_rows_Clone3 R)
theorem se_rows_Clone (a0 : AV) (σ : Hp) (n : Nat) (R : AEnd → Hp → Nat → Prop) : sh_rows_Clone a0 σ n R = swp Try.prog sc_rows_Clone (retQ [(.t 2)] R) (entry [a0]) σ n := by kernel_rfl
theorem by_rows_Clone {a0 : AV} {σ : Hp} {n : Nat} {R : AEnd → Hp → Nat → Prop} (h : sh_rows_Clone a0 σ n R) : ConH Try.prog 120 [a0] σ n R := by
  rw [se_rows_Clone] at h
  exact conH_of [(.t 2)] (fn := Try.f120) rfl [8, 10, 7, 3, 4, 9, 0, 2] (by kernel_rfl) (by kernel_rfl) (by kernel_rfl) (by kernel_rfl) h
/-- slices.Clone[[]switchback/api.Value,switchback/api.Value] -/
def sc_slices_Clone_lapi_Value_api_Value : SCode := (.seq (.reg [
   ⟨(some 2), none, (.mv (.c .em))⟩]) (.seq (.seq (.reg [
   ⟨(some 3), none, (.mv (.t 0))⟩,
    ⟨(some 4), none, (.eqn false (.t 3))⟩]) (.cond (.t 4) (.seq (.reg [
   ⟨(some 2), none, (.mv (.c .em))⟩]) .ret) .skip)) (.seq (.reg [
   ⟨(some 5), none, (.bsl 3 [(.int .i64 0), (.int .i64 0), (.string ⟨#[]⟩)] 0 [])⟩,
    ⟨(some 6), none, (.mv (.t 0))⟩,
    ⟨(some 7), none, (.app 3 32 (.t 5) (.t 6))⟩,
    ⟨(some 2), none, (.mv (.t 7))⟩]) .ret)))
def sh_slices_Clone_lapi_Value_api_Value (a0 : AV) (σ : Hp) (n : Nat) (R : AEnd → Hp → Nat → Prop) : Prop :=
 bindP (aEqn false a0) fun v1 =>
 COND v1 (
 R (.ret .em) σ n) (
 bindS (hBsl σ n 3 [(.int .i64 0), (.int .i64 0), (.string ⟨#[]⟩)] 0 []) σ n fun v2 σ n =>
 bindS (hApp σ n 3 32 v2 a0) σ n fun v3 σ n =>
 R (.ret v3) σ n)
theorem se_slices_Clone_lapi_Value_api_Value (a0 : AV) (σ : Hp) (n : Nat) (R : AEnd → Hp → Nat → Prop) : sh_slices_Clone_lapi_Value_api_Value a0 σ n R = swp Try.prog sc_slices_Clone_lapi_Value_api_Value (retQ [(.t 2)] R) (entry [a0]) σ n := by kernel_rfl
theorem by_slices_Clone_lapi_Value_api_Value {a0 : AV} {σ : Hp} {n : Nat} {R : AEnd → Hp → Nat → Prop} (h : sh_slices_Clone_lapi_Value_api_Value a0 σ n R) : ConH Try.prog 122 [a0] σ n R := by
  rw [se_slices_Clone_lapi_Value_api_Value] at h
  exact conH_of [(.t 2)] (fn := Try.f122) rfl [4, 0, 2] (by kernel_rfl) (by kernel_rfl) (by kernel_rfl) (by kernel_rfl) h
/-- cmp.Compare[int] -/
def kc_cmp_Compare_int1 (v1 : AV) (R : AEnd → Hp → Nat → Prop) (a0 : AV) (a1 : AV) (r : AEnd) (σ : Hp) (n : Nat) : Prop :=
 onEnd r (fun v3 =>
 COND v1 (
 COND v3 (
 R (.ret (.sc (.int .i64 0))) σ n) (
 R (.ret (.sc (.int .i64 (-1)))) σ n)) (
 COND v3 (
 R (.ret (.sc (.int .i64 1))) σ n) (
 bindP (semBin .lss a0 a1) fun v5 =>
 COND v5 (
 R (.ret (.sc (.int .i64 (-1)))) σ n) (
 bindP (semBin .gtr a0 a1) fun v6 =>
 COND v6 (
 R (.ret (.sc (.int .i64 1))) σ n) (
 R (.ret (.sc (.int .i64 0))) σ n))))) (fun v4 => R (.pan v4) σ n)
def kc_cmp_Compare_int2 (a1 : AV) (R : AEnd → Hp → Nat → Prop) (a0 : AV) (r : AEnd) (σ : Hp) (n : Nat) : Prop :=
 onEnd r (fun v1 =>
 CALL Try.prog (.fn 163 []) [a1] σ n (kc_cmp_Compare_int1 v1 R a0 a1)) (fun v2 => R (.pan v2) σ n)
attribute [go_sem] kc_cmp_Compare_int1 kc_cmp_Compare_int2
def sc_cmp_Compare_int : SCode := (.seq (.reg [
   ⟨(some 4), none, (.mv (.c (.sc (.int .i64 0))))⟩]) (.seq (.reg [
   ⟨(some 7), none, (.mv (.t 0))⟩,
    ⟨(some 8), none, (.call (.c (.fn 163 [])) [(.t 7)])⟩,
    ⟨(some 5), none, (.mv (.t 8))⟩]) (.seq (.reg [
   ⟨(some 9), none, (.mv (.t 1))⟩,
    ⟨(some 10), none, (.call (.c (.fn 163 [])) [(.t 9)])⟩,
    ⟨(some 6), none, (.mv (.t 10))⟩]) (.seq (.seq (.reg [
   ⟨(some 11), none, (.mv (.t 5))⟩]) (.cond (.t 11) (.seq (.seq (.reg [
   ⟨(some 12), none, (.mv (.t 6))⟩]) (.cond (.t 12) (.seq (.reg [
   ⟨(some 4), none, (.mv (.c (.sc (.int .i64 0))))⟩]) .ret) .skip)) (.seq (.reg [
   ⟨(some 4), none, (.mv (.c (.sc (.int .i64 (-1)))))⟩]) .ret)) .skip)) (.seq (.seq (.reg [
   ⟨(some 13), none, (.mv (.t 6))⟩]) (.cond (.t 13) (.seq (.reg [
   ⟨(some 4), none, (.mv (.c (.sc (.int .i64 1))))⟩]) .ret) .skip)) (.seq (.seq (.reg [
   ⟨(some 14), none, (.mv (.t 0))⟩,
    ⟨(some 15), none, (.mv (.t 1))⟩,
    ⟨(some 16), none, (.bin .lss (.t 14) (.t 15))⟩]) (.cond (.t 16) (.seq (.reg [
   ⟨(some 4), none, (.mv (.c (.sc (.int .i64 (-1)))))⟩]) .ret) .skip)) (.seq (.seq (.reg [
   ⟨(some 17), none, (.mv (.t 0))⟩,
    ⟨(some 18), none, (.mv (.t 1))⟩,
    ⟨(some 19), none, (.bin .gtr (.t 17) (.t 18))⟩]) (.cond (.t 19) (.seq (.reg [
   ⟨(some 4), none, (.mv (.c (.sc (.int .i64 1))))⟩]) .ret) .skip)) (.seq (.reg [
   ⟨(some 4), none, (.mv (.c (.sc (.int .i64 0))))⟩]) .ret))))))))
def sh_cmp_Compare_int (a0 a1 : AV) (σ : Hp) (n : Nat) (R : AEnd → Hp → Nat → Prop) : Prop :=
 CALL Try.prog (.fn 163 []) [a0] σ n (kc_cmp_Compare_int2 a1 R a0)
theorem se_cmp_Compare_int (a0 a1 : AV) (σ : Hp) (n : Nat) (R : AEnd → Hp → Nat → Prop) : sh_cmp_Compare_int a0 a1 σ n R = swp Try.prog sc_cmp_Compare_int (retQ [(.t 4)] R) (entry [a0, a1]) σ n := by kernel_rfl
theorem by_cmp_Compare_int {a0 a1 : AV} {σ : Hp} {n : Nat} {R : AEnd → Hp → Nat → Prop} (h : sh_cmp_Compare_int a0 a1 σ n R) : ConH Try.prog 125 [a0, a1] σ n R := by
  rw [se_cmp_Compare_int] at h
  exact conH_of [(.t 4)] (fn := Try.f125) rfl [5, 11, 12, 6, 13, 16, 0, 1, 19, 4] (by kernel_rfl) (by kernel_rfl) (by kernel_rfl) (by kernel_rfl) h
/-- slices.BinarySearchFunc[[][]switchback/api.Value,[]switchback/api.Value,switchback/api.Value] -/
def kd_slices_BinarySearchFunc_llapi_Value_lapi_Value_api_Value1 (v12 : AV) (v1 : AV) (n : Nat) (σ : Hp) (v8 : AV) (K3 : List AV → Hp → Nat → Prop) (v4 : AV) (s3 : List AV) (R : AEnd → Hp → Nat → Prop) (r : AEnd) (w15 : Wr) (d15 : List Nat) : Prop :=
 onEnd r (fun v15 =>
 bindP (semBin .lss v15 (.sc (.int .i64 0))) fun v17 =>
 Apt (names []) (rdA v12) (names []) (rdA v1) ∧
 ∀ n_, n + 16 * 8 ≤ n_ → (fun n => (fun σ => COND v17 (
 bindP (semBin .add v8 (.sc (.int .i64 1))) fun v18 =>
 K3 [v4, v8, v17, v18, (s3.getD 4 .any)] σ n) (
 K3 [v4, v8, v17, (s3.getD 3 .any), v8] σ n)) (applyW σ w15)) n_) (fun v16 => Apt (names []) (rdA v12) (names []) (rdA v1) ∧
 ∀ (fr_ : Regs) σ n, R (.pan v16) σ n)
def kd_slices_BinarySearchFunc_llapi_Value_lapi_Value_api_Value2 (Kd : AV → Wr → List Nat → Prop) (v27 : AV) (v1 : AV) (σ : Hp) (n : Nat) (R : AEnd → Hp → Nat → Prop) (r : AEnd) (w31 : Wr) (d31 : List Nat) : Prop :=
 onEnd r (fun v31 =>
 Kd v31 w31 d31) (fun v32 => Apt (names []) (rdA v27) (names []) (rdA v1) ∧
 ∀ (fr_ : Regs) σ n, R (.pan v32) σ n)
def lb_slices_BinarySearchFunc_llapi_Value_lapi_Value_api_Value3 (a0 : AV) (v1 : AV) (a2 : AV) (R : AEnd → Hp → Nat → Prop) (v2 : AV) (K3 : List AV → Hp → Nat → Prop) (s3 : List AV) (σ : Hp) (n : Nat) : Prop :=
 bindP (semBin .lss (s3.getD 3 .any) (s3.getD 4 .any)) fun v4 =>
 COND v4 (
 bindP (semBin .add (s3.getD 3 .any) (s3.getD 4 .any)) fun v5 =>
 bindP (aCvi .u64 v5) fun v6 =>
 bindP (semBin .shr v6 (.sc (.int .u64 1))) fun v7 =>
 bindP (aCvi .i64 v7) fun v8 =>
 bindP (aIad 1 a0 v8) fun v12 =>
 bindP (aLd σ none v12) fun v13 =>
 bindP (aLd σ (some 3) v1) fun v14 =>
 callD Try.prog a2 [v13, v14] σ (n + 16 * 6) (kd_slices_BinarySearchFunc_llapi_Value_lapi_Value_api_Value1 v12 v1 n σ v8 K3 v4 s3 R)) (
 bindP (semBin .lss (s3.getD 3 .any) v2) fun v22 =>
 guardP v22 true (some a2) fun v24 =>
 guardP v22 true (some a0) fun v25 =>
 guardP v22 true (some (s3.getD 3 .any)) fun v26 =>
 guardP v22 true (aIad 1 v25 v26) fun v27 =>
 guardP v22 true (aLd σ none v27) fun v28 =>
 guardP v22 true (aLd σ (some 3) v1) fun v29 =>
 guardD v22 true (fun Kd => callD Try.prog v24 [v28, v29] σ (n + 16 * 11) (kd_slices_BinarySearchFunc_llapi_Value_lapi_Value_api_Value2 Kd v27 v1 σ n R)) fun v30 w30 d30 =>
 guardP v22 true (semBin .eql v30 (.sc (.int .i64 0))) fun v33 =>
 bindP (aPick v22 v33 (.sc (.bool false))) fun v34 =>
 Apt (names []) (rdA v27) (names []) (rdA v1) ∧
 ∀ n_, n + 16 * 16 ≤ n_ → (fun n => (fun σ => R (.ret (.tp [(s3.getD 3 .any), v34])) σ n) (applyW σ w30)) n_)
attribute [go_sem] kd_slices_BinarySearchFunc_llapi_Value_lapi_Value_api_Value1 kd_slices_BinarySearchFunc_llapi_Value_lapi_Value_api_Value2 lb_slices_BinarySearchFunc_llapi_Value_lapi_Value_api_Value3
def sc_slices_BinarySearchFunc_llapi_Value_lapi_Value_api_Value : SCode := (.seq (.reg [
   ⟨(some 4), none, (.box (.t 1))⟩,
    ⟨(some 6), none, (.mv (.c (.sc (.int .i64 0))))⟩,
    ⟨(some 7), none, (.mv (.c (.sc (.bool false))))⟩]) (.seq (.reg [
   ⟨(some 12), none, (.mv (.t 0))⟩,
    ⟨(some 13), none, (.len false (.t 12))⟩,
    ⟨(some 8), none, (.mv (.t 13))⟩]) (.seq (.reg [
   ⟨(some 14), none, (.mv (.t 8))⟩,
    ⟨(some 9), none, (.mv (.c (.sc (.int .i64 0))))⟩,
    ⟨(some 10), none, (.mv (.t 14))⟩]) (.seq (.block 0 (.loop [17, 11, 31, 9, 10] [15, 16, 17, 18, 19, 20, 21, 22, 23, 11, 24, 25, 26, 27, 28, 29, 30, 31, 32, 33, 9, 34, 10] (.seq (.seq (.reg [
   ⟨(some 15), none, (.mv (.t 9))⟩,
    ⟨(some 16), none, (.mv (.t 10))⟩,
    ⟨(some 17), none, (.bin .lss (.t 15) (.t 16))⟩]) (.cond (.t 17) .skip (.exit 0))) (.block 1 (.seq (.reg [
   ⟨(some 18), none, (.mv (.t 9))⟩,
    ⟨(some 19), none, (.mv (.t 10))⟩,
    ⟨(some 20), none, (.bin .add (.t 18) (.t 19))⟩,
    ⟨(some 21), none, (.cvi .u64 (.t 20))⟩,
    ⟨(some 22), none, (.bin .shr (.t 21) (.c (.sc (.int .u64 1))))⟩,
    ⟨(some 23), none, (.cvi .i64 (.t 22))⟩,
    ⟨(some 11), none, (.mv (.t 23))⟩]) (.seq (.regD [(⟨(some 24), none, (.mv (.t 2))⟩, []), (⟨(some 25), none, (.mv (.t 0))⟩, []), (⟨(some 26), none, (.mv (.t 11))⟩, []), (⟨(some 27), none, (.iad 1 (.t 25) (.t 26))⟩, [1, 2]), (⟨(some 28), none, (.ld none (.t 27))⟩, [3, 1, 2]), (⟨(some 29), none, (.ld (some 3) (.t 4))⟩, []), (⟨(some 30), none, (.call (.t 24) [(.t 28), (.t 29)])⟩, [0, 4, 3, 1, 2, 5]), (⟨(some 31), none, (.bin .lss (.t 30) (.c (.sc (.int .i64 0))))⟩, [6, 0, 4, 3, 1, 2, 5])]) (.cond (.t 31) (.reg [
   ⟨(some 32), none, (.mv (.t 11))⟩,
    ⟨(some 33), none, (.bin .add (.t 32) (.c (.sc (.int .i64 1))))⟩,
    ⟨(some 9), none, (.mv (.t 33))⟩]) (.reg [
   ⟨(some 34), none, (.mv (.t 11))⟩,
    ⟨(some 10), none, (.mv (.t 34))⟩])))))))) (.seq (.regD [(⟨(some 35), none, (.mv (.t 9))⟩, []), (⟨(some 36), none, (.mv (.t 9))⟩, []), (⟨(some 37), none, (.mv (.t 8))⟩, []), (⟨(some 38), none, (.bin .lss (.t 36) (.t 37))⟩, [1, 2]), (⟨(some 39), none, (.mv (.t 38))⟩, [3, 1, 2]), (⟨(some 40), (some (39, true)), (.mv (.t 2))⟩, [4, 3, 1, 2]), (⟨(some 41), (some (39, true)), (.mv (.t 0))⟩, [4, 3, 1, 2]), (⟨(some 42), (some (39, true)), (.mv (.t 9))⟩, [4, 3, 1, 2]), (⟨(some 43), (some (39, true)), (.iad 1 (.t 41) (.t 42))⟩, [6, 4, 3, 1, 2, 7]), (⟨(some 44), (some (39, true)), (.ld none (.t 43))⟩, [8, 6, 4, 3, 1, 2, 7]), (⟨(some 45), (some (39, true)), (.ld (some 3) (.t 4))⟩, [4, 3, 1, 2]), (⟨(some 46), (some (39, true)), (.call (.t 40) [(.t 44), (.t 45)])⟩, [5, 4, 3, 1, 2, 9, 8, 6, 7, 10]), (⟨(some 47), (some (39, true)), (.bin .eql (.t 46) (.c (.sc (.int .i64 0))))⟩, [11, 5, 4, 3, 1, 2, 9, 8, 6, 7, 10]), (⟨(some 48), none, (.pick (.t 39) (.t 47) (.c (.sc (.bool false))))⟩, [4, 3, 1, 2, 12, 11, 5, 9, 8, 6, 7, 10]), (⟨(some 6), none, (.mv (.t 35))⟩, [0, 11, 5, 4, 3, 1, 2, 9, 8, 6, 7, 10]), (⟨(some 7), none, (.mv (.t 48))⟩, [13, 4, 3, 1, 2, 12, 11, 5, 9, 8, 6, 7, 10, 14, 0])]) .ret)))))
def sh_slices_BinarySearchFunc_llapi_Value_lapi_Value_api_Value (a0 a1 a2 : AV) (σ : Hp) (n : Nat) (R : AEnd → Hp → Nat → Prop) : Prop :=
 bindS (hBox n a1) σ n fun v1 σ n =>
 bindP (aLen false a0) fun v2 => bnd σ a0 →
 LOOP (lb_slices_BinarySearchFunc_llapi_Value_lapi_Value_api_Value3 a0 v1 a2 R v2) [(.tp []), (.tp []), (.tp []), (.sc (.int .i64 0)), v2] σ n
theorem se_slices_BinarySearchFunc_llapi_Value_lapi_Value_api_Value (a0 a1 a2 : AV) (σ : Hp) (n : Nat) (R : AEnd → Hp → Nat → Prop) : sh_slices_BinarySearchFunc_llapi_Value_lapi_Value_api_Value a0 a1 a2 σ n R = swp Try.prog sc_slices_BinarySearchFunc_llapi_Value_lapi_Value_api_Value (retQ [(.t 6), (.t 7)] R) (entry [a0, a1, a2]) σ n := by kernel_rfl
theorem by_slices_BinarySearchFunc_llapi_Value_lapi_Value_api_Value {a0 a1 a2 : AV} {σ : Hp} {n : Nat} {R : AEnd → Hp → Nat → Prop} (h : sh_slices_BinarySearchFunc_llapi_Value_lapi_Value_api_Value a0 a1 a2 σ n R) : ConH Try.prog 126 [a0, a1, a2] σ n R := by
  rw [se_slices_BinarySearchFunc_llapi_Value_lapi_Value_api_Value] at h
  exact conH_of [(.t 6), (.t 7)] (fn := Try.f126) rfl [1, 17, 10, 31, 11, 8, 2, 0, 9, 4, 6, 7] (by kernel_rfl) (by kernel_rfl) (by kernel_rfl) (by kernel_rfl) h
/-- switchback/rows.place$1 -/
def kd_rows_place_c11 (v3 : AV) (v1 : AV) (v5 : AV) (n : Nat) (σ : Hp) (R : AEnd → Hp → Nat → Prop) (r : AEnd) (w8 : Wr) (d8 : List Nat) : Prop :=
 onEnd r (fun v8 =>
 Apt (names []) (rdA v3) (names []) (rdA v1) ∧
 Apt (names []) (rdA v5) (names []) (rdA v1) ∧
 ∀ n_, n + 16 * 8 ≤ n_ → (fun n => (fun σ => R (.ret v8) σ n) (applyW σ w8)) n_) (fun v9 => Apt (names []) (rdA v3) (names []) (rdA v1) ∧
 Apt (names []) (rdA v5) (names []) (rdA v1) ∧
 ∀ (fr_ : Regs) σ n, R (.pan v9) σ n)
attribute [go_sem] kd_rows_place_c11
def sc_rows_place_c1 : SCode := (.seq (.reg [
   ⟨(some 4), none, (.box (.t 1))⟩,
    ⟨(some 5), none, (.mv (.c (.sc (.int .i64 0))))⟩]) (.seq (.regD [(⟨(some 6), none, (.mv (.t 0))⟩, []), (⟨(some 7), none, (.fad 2 (.t 2))⟩, []), (⟨(some 8), none, (.ld none (.t 7))⟩, [1]), (⟨(some 9), none, (.iad 3 (.t 6) (.t 8))⟩, [0, 2, 1]), (⟨(some 10), none, (.ld (some 3) (.t 9))⟩, [3, 0, 2, 1]), (⟨(some 11), none, (.ld (some 3) (.t 4))⟩, []), (⟨(some 12), none, (.call (.c (.fn 77 [])) [(.t 10), (.t 11)])⟩, [4, 3, 0, 2, 1, 5]), (⟨(some 5), none, (.mv (.t 12))⟩, [6, 4, 3, 0, 2, 1, 5])]) .ret))
def sh_rows_place_c1 (a0 a1 a2 : AV) (σ : Hp) (n : Nat) (R : AEnd → Hp → Nat → Prop) : Prop :=
 bindS (hBox n a1) σ n fun v1 σ n =>
 bindP (aFad 2 a2) fun v3 =>
 bindP (aLd σ none v3) fun v4 =>
 bindP (aIad 3 a0 v4) fun v5 =>
 bindP (aLd σ (some 3) v5) fun v6 =>
 bindP (aLd σ (some 3) v1) fun v7 =>
 callD Try.prog (.fn 77 []) [v6, v7] σ (n + 16 * 6) (kd_rows_place_c11 v3 v1 v5 n σ R)
theorem se_rows_place_c1 (a0 a1 a2 : AV) (σ : Hp) (n : Nat) (R : AEnd → Hp → Nat → Prop) : sh_rows_place_c1 a0 a1 a2 σ n R = swp Try.prog sc_rows_place_c1 (retQ [(.t 5)] R) (entry [a0, a1, a2]) σ n := by kernel_rfl
theorem by_rows_place_c1 {a0 a1 a2 : AV} {σ : Hp} {n : Nat} {R : AEnd → Hp → Nat → Prop} (h : sh_rows_place_c1 a0 a1 a2 σ n R) : ConH Try.prog 127 [a0, a1, a2] σ n R := by
  rw [se_rows_place_c1] at h
  exact conH_of [(.t 5)] (fn := Try.f127) rfl [1, 0, 2, 4, 5] (by kernel_rfl) (by kernel_rfl) (by kernel_rfl) (by kernel_rfl) h
/-- cmp.isNaN[string] -/
def sc_cmp_isNaN_string : SCode := (.seq (.reg [
   ⟨(some 2), none, (.mv (.c (.sc (.bool false))))⟩]) (.seq (.reg [
   ⟨(some 3), none, (.mv (.t 0))⟩,
    ⟨(some 4), none, (.mv (.t 0))⟩,
    ⟨(some 5), none, (.bin .neq (.t 3) (.t 4))⟩,
    ⟨(some 2), none, (.mv (.t 5))⟩]) .ret))
def sh_cmp_isNaN_string (a0 : AV) (σ : Hp) (n : Nat) (R : AEnd → Hp → Nat → Prop) : Prop :=
 bindP (semBin .neq a0 a0) fun v1 =>
 R (.ret v1) σ n
theorem se_cmp_isNaN_string (a0 : AV) (σ : Hp) (n : Nat) (R : AEnd → Hp → Nat → Prop) : sh_cmp_isNaN_string a0 σ n R = swp Try.prog sc_cmp_isNaN_string (retQ [(.t 2)] R) (entry [a0]) σ n := by kernel_rfl
theorem by_cmp_isNaN_string {a0 : AV} {σ : Hp} {n : Nat} {R : AEnd → Hp → Nat → Prop} (h : sh_cmp_isNaN_string a0 σ n R) : ConH Try.prog 154 [a0] σ n R := by
  rw [se_cmp_isNaN_string] at h
  exact conH_of [(.t 2)] (fn := Try.f154) rfl [0, 2] (by kernel_rfl) (by kernel_rfl) (by kernel_rfl) (by kernel_rfl) h
/-- slices.Clone[[][]switchback/api.Value,[]switchback/api.Value] -/
def sc_slices_Clone_llapi_Value_lapi_Value : SCode := (.seq (.reg [
   ⟨(some 2), none, (.mv (.c .em))⟩]) (.seq (.seq (.reg [
   ⟨(some 3), none, (.mv (.t 0))⟩,
    ⟨(some 4), none, (.eqn false (.t 3))⟩]) (.cond (.t 4) (.seq (.reg [
   ⟨(some 2), none, (.mv (.c .em))⟩]) .ret) .skip)) (.seq (.reg [
   ⟨(some 5), none, (.bsl 1 [(.slice none 0 0)] 0 [])⟩,
    ⟨(some 6), none, (.mv (.t 0))⟩,
    ⟨(some 7), none, (.app 1 24 (.t 5) (.t 6))⟩,
    ⟨(some 2), none, (.mv (.t 7))⟩]) .ret)))
def sh_slices_Clone_llapi_Value_lapi_Value (a0 : AV) (σ : Hp) (n : Nat) (R : AEnd → Hp → Nat → Prop) : Prop :=
 bindP (aEqn false a0) fun v1 =>
 COND v1 (
 R (.ret .em) σ n) (
 bindS (hBsl σ n 1 [(.slice none 0 0)] 0 []) σ n fun v2 σ n =>
 bindS (hApp σ n 1 24 v2 a0) σ n fun v3 σ n =>
 R (.ret v3) σ n)
theorem se_slices_Clone_llapi_Value_lapi_Value (a0 : AV) (σ : Hp) (n : Nat) (R : AEnd → Hp → Nat → Prop) : sh_slices_Clone_llapi_Value_lapi_Value a0 σ n R = swp Try.prog sc_slices_Clone_llapi_Value_lapi_Value (retQ [(.t 2)] R) (entry [a0]) σ n := by kernel_rfl
theorem by_slices_Clone_llapi_Value_lapi_Value {a0 : AV} {σ : Hp} {n : Nat} {R : AEnd → Hp → Nat → Prop} (h : sh_slices_Clone_llapi_Value_lapi_Value a0 σ n R) : ConH Try.prog 157 [a0] σ n R := by
  rw [se_slices_Clone_llapi_Value_lapi_Value] at h
  exact conH_of [(.t 2)] (fn := Try.f157) rfl [4, 0, 2] (by kernel_rfl) (by kernel_rfl) (by kernel_rfl) (by kernel_rfl) h
/-- cmp.isNaN[int] -/
def sc_cmp_isNaN_int : SCode := (.seq (.reg [
   ⟨(some 2), none, (.mv (.c (.sc (.bool false))))⟩]) (.seq (.reg [
   ⟨(some 3), none, (.mv (.t 0))⟩,
    ⟨(some 4), none, (.mv (.t 0))⟩,
    ⟨(some 5), none, (.bin .neq (.t 3) (.t 4))⟩,
    ⟨(some 2), none, (.mv (.t 5))⟩]) .ret))
def sh_cmp_isNaN_int (a0 : AV) (σ : Hp) (n : Nat) (R : AEnd → Hp → Nat → Prop) : Prop :=
 bindP (semBin .neq a0 a0) fun v1 =>
 R (.ret v1) σ n
theorem se_cmp_isNaN_int (a0 : AV) (σ : Hp) (n : Nat) (R : AEnd → Hp → Nat → Prop) : sh_cmp_isNaN_int a0 σ n R = swp Try.prog sc_cmp_isNaN_int (retQ [(.t 2)] R) (entry [a0]) σ n := by kernel_rfl
theorem by_cmp_isNaN_int {a0 : AV} {σ : Hp} {n : Nat} {R : AEnd → Hp → Nat → Prop} (h : sh_cmp_isNaN_int a0 σ n R) : ConH Try.prog 163 [a0] σ n R := by
  rw [se_cmp_isNaN_int] at h
  exact conH_of [(.t 2)] (fn := Try.f163) rfl [0, 2] (by kernel_rfl) (by kernel_rfl) (by kernel_rfl) (by kernel_rfl) h
end Go.Proofs.Ytlhnncmflnjinaa
