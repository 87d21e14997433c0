/- Packed by a program of this repo: Sh4b. -/
import Derived.Test.YtodoejfkjimeaaaGreatDoorKTMs
import Derived.Test.YtodoejfkjimeaaaGreatDoorProg
set_option linter.unusedVariables false
set_option maxRecDepth 8000
namespace Go.Proofs.YtodoejfkjimeaaaGreatDoor
open Go Am
def kd_law04_SyntaxTells1 (Kd : AV → Wr → List Nat → Prop) (v30 : AV) (v16 : AV) (v5 : AV) (v1 : AV) (w18 : Wr) (d18 : List Nat) (w20 : Wr) (d20 : List Nat) (σ : Hp) (n : Nat) (R : AEnd → Hp → Nat → Prop) (r : AEnd) (w34 : Wr) (d34 : List Nat) : Prop :=
 onEnd r (fun v34 =>
 Kd v34 w34 d34) (fun v35 => guardP v30 true (some v16) fun v36 =>
 Apt (names []) (rdA v5) (names []) (rdA v1) ∧
 Apt (names w18) d18 (names []) (rdA v1) ∧
 Apt (names w20) d20 (names []) (rdA v1) ∧
 Apt (names []) [] (names []) [] ∧
 ∀ (fr_ : Regs) σ n, R (.pan v35) σ n)
def kd_law04_SyntaxTells2 (Kd : AV → Wr → List Nat → Prop) (v39 : AV) (a1 : AV) (v5 : AV) (v1 : AV) (w18 : Wr) (d18 : List Nat) (w20 : Wr) (d20 : List Nat) (σ : Hp) (n : Nat) (R : AEnd → Hp → Nat → Prop) (r : AEnd) (w43 : Wr) (d43 : List Nat) : Prop :=
 onEnd r (fun v43 =>
 Kd v43 w43 d43) (fun v44 => guardP v39 true (some a1) fun v45 =>
 Apt (names []) (rdA v5) (names []) (rdA v1) ∧
 Apt (names w18) d18 (names []) (rdA v1) ∧
 Apt (names w20) d20 (names []) (rdA v1) ∧
 Apt (names []) [] (names []) [] ∧
 ∀ (fr_ : Regs) σ n, R (.pan v44) σ n)
def kd_law04_SyntaxTells3 (Kd : AV → Wr → List Nat → Prop) (v5 : AV) (v1 : AV) (w18 : Wr) (d18 : List Nat) (w20 : Wr) (d20 : List Nat) (σ : Hp) (n : Nat) (R : AEnd → Hp → Nat → Prop) (r : AEnd) (w48 : Wr) (d48 : List Nat) : Prop :=
 onEnd r (fun v48 =>
 Kd v48 w48 d48) (fun v49 => Apt (names []) (rdA v5) (names []) (rdA v1) ∧
 Apt (names w18) d18 (names []) (rdA v1) ∧
 Apt (names w20) d20 (names []) (rdA v1) ∧
 Apt (names []) [] (names []) [] ∧
 ∀ (fr_ : Regs) σ n, R (.pan v49) σ n)
def kd_law04_SyntaxTells4 (Kd : AV → Wr → List Nat → Prop) (v5 : AV) (v1 : AV) (w18 : Wr) (d18 : List Nat) (w20 : Wr) (d20 : List Nat) (σ : Hp) (n : Nat) (R : AEnd → Hp → Nat → Prop) (r : AEnd) (w56 : Wr) (d56 : List Nat) : Prop :=
 onEnd r (fun v56 =>
 Kd v56 w56 d56) (fun v57 => Apt (names []) (rdA v5) (names []) (rdA v1) ∧
 Apt (names w18) d18 (names []) (rdA v1) ∧
 Apt (names w20) d20 (names []) (rdA v1) ∧
 Apt (names []) (rdA v5) (names []) (rdA v1) ∧
 ∀ (fr_ : Regs) σ n, R (.pan v57) σ n)
def kd_law04_SyntaxTells5 (Kd : AV → Wr → List Nat → Prop) (v5 : AV) (v1 : AV) (w18 : Wr) (d18 : List Nat) (w20 : Wr) (d20 : List Nat) (σ : Hp) (n : Nat) (R : AEnd → Hp → Nat → Prop) (r : AEnd) (w61 : Wr) (d61 : List Nat) : Prop :=
 onEnd r (fun v61 =>
 Kd v61 w61 d61) (fun v62 => Apt (names []) (rdA v5) (names []) (rdA v1) ∧
 Apt (names w18) d18 (names []) (rdA v1) ∧
 Apt (names w20) d20 (names []) (rdA v1) ∧
 Apt (names []) (rdA v5) (names []) (rdA v1) ∧
 ∀ (fr_ : Regs) σ n, R (.pan v62) σ n)
def kd_law04_SyntaxTells6 (v20 : AV) (v10 : AV) (v15 : AV) (v11 : AV) (σ : Hp) (w18 : Wr) (w20 : Wr) (n : Nat) (v16 : AV) (v5 : AV) (v1 : AV) (d18 : List Nat) (d20 : List Nat) (R : AEnd → Hp → Nat → Prop) (a1 : AV) (r : AEnd) (w23 : Wr) (d23 : List Nat) : Prop :=
 onEnd r (fun v23 =>
 bindP (semBin .eql v20 v23) fun v25 =>
 guardP v25 true (some v10) fun v27 =>
 guardP v25 true (some v15) fun v28 =>
 guardP v25 true (semBin .eql v27 v28) fun v29 =>
 bindP (aPick v25 v29 (.sc (.bool false))) fun v30 =>
 guardP v30 true (some v11) fun v32 =>
 guardD v30 true (fun Kd => callD Tryz.prog (.fn 7 []) [v32] (applyW (applyW (applyW σ w18) w20) w23) (n + 16 * 13) (kd_law04_SyntaxTells1 Kd v30 v16 v5 v1 w18 d18 w20 d20 σ n R)) fun v33 w33 d33 =>
 guardP v30 true (some v16) fun v37 =>
 guardP v30 true (semBin .eql v33 v37) fun v38 =>
 bindP (aPick v30 v38 (.sc (.bool false))) fun v39 =>
 guardP v39 true (some a1) fun v41 =>
 guardD v39 true (fun Kd => callD Tryz.prog (.fn 10 []) [v41] (applyW (applyW (applyW (applyW σ w18) w20) w23) w33) (n + 16 * 19) (kd_law04_SyntaxTells2 Kd v39 a1 v5 v1 w18 d18 w20 d20 σ n R)) fun v42 w42 d42 =>
 guardP v39 true (some a1) fun v46 =>
 guardD v39 true (fun Kd => callD Tryz.prog (.fn 11 []) [v46] (applyW (applyW (applyW (applyW (applyW σ w18) w20) w23) w33) w42) (n + 16 * 21) (kd_law04_SyntaxTells3 Kd v5 v1 w18 d18 w20 d20 σ n R)) fun v47 w47 d47 =>
 guardP v39 true (aEqb false v42 v47) fun v50 =>
 bindP (aPick v39 v50 (.sc (.bool false))) fun v51 =>
 guardP v51 true (aLd (applyW (applyW (applyW (applyW (applyW (applyW σ w18) w20) w23) w33) w42) w47) (some 14) v5) fun v53 =>
 guardP v51 true (aLd (applyW (applyW (applyW (applyW (applyW (applyW σ w18) w20) w23) w33) w42) w47) (some 14) v1) fun v54 =>
 guardD v51 true (fun Kd => callD Tryz.prog (.fn 12 []) [v53, v54] (applyW (applyW (applyW (applyW (applyW (applyW σ w18) w20) w23) w33) w42) w47) (n + 16 * 27) (kd_law04_SyntaxTells4 Kd v5 v1 w18 d18 w20 d20 σ n R)) fun v55 w55 d55 =>
 bindP (aPick v51 v55 (.sc (.bool false))) fun v58 =>
 guardD v58 true (fun Kd => callD Tryz.prog (.fn 13 []) [] (applyW (applyW (applyW (applyW (applyW (applyW (applyW σ w18) w20) w23) w33) w42) w47) w55) (n + 16 * 30) (kd_law04_SyntaxTells5 Kd v5 v1 w18 d18 w20 d20 σ n R)) fun v60 w60 d60 =>
 bindP (aPick v58 v60 (.sc (.bool false))) fun v63 =>
 Apt (names []) (rdA v5) (names []) (rdA v1) ∧
 Apt (names w18) d18 (names []) (rdA v1) ∧
 Apt (names w20) d20 (names []) (rdA v1) ∧
 Apt (names []) (rdA v5) (names []) (rdA v1) ∧
 ∀ n_, n + 16 * 33 ≤ n_ → (fun n => (fun σ => R (.ret v63) σ n) (applyW (applyW (applyW (applyW (applyW (applyW (applyW (applyW σ w18) w20) w23) w33) w42) w47) w55) w60)) n_) (fun v24 => Apt (names []) (rdA v5) (names []) (rdA v1) ∧
 Apt (names w18) d18 (names []) (rdA v1) ∧
 Apt (names w20) d20 (names []) (rdA v1) ∧
 Apt (names []) [] (names []) [] ∧
 ∀ (fr_ : Regs) σ n, R (.pan v24) σ n)
def kd_law04_SyntaxTells7 (σ : Hp) (v1 : AV) (w18 : Wr) (n : Nat) (v10 : AV) (v15 : AV) (v11 : AV) (v16 : AV) (v5 : AV) (d18 : List Nat) (R : AEnd → Hp → Nat → Prop) (a1 : AV) (r : AEnd) (w20 : Wr) (d20 : List Nat) : Prop :=
 onEnd r (fun v20 =>
 bindP (aLd σ (some 14) v1) fun v22 =>
 callD Tryz.prog (.fn 9 []) [v22] (applyW (applyW σ w18) w20) (n + 16 * 4) (kd_law04_SyntaxTells6 v20 v10 v15 v11 σ w18 w20 n v16 v5 v1 d18 d20 R a1)) (fun v21 => bindP (aLd σ (some 14) v1) fun v65 =>
 Apt (names []) (rdA v5) (names []) (rdA v1) ∧
 Apt (names w18) d18 (names []) (rdA v1) ∧
 Apt (names []) d20 (names []) (rdA v1) ∧
 Apt (names []) [] (names []) [] ∧
 ∀ (fr_ : Regs) σ n, R (.pan v21) σ n)
def kd_law04_SyntaxTells8 (σ : Hp) (n : Nat) (v1 : AV) (v10 : AV) (v15 : AV) (v11 : AV) (v16 : AV) (v5 : AV) (R : AEnd → Hp → Nat → Prop) (a1 : AV) (r : AEnd) (w18 : Wr) (d18 : List Nat) : Prop :=
 onEnd r (fun v18 =>
 callD Tryz.prog (.fn 7 []) [v18] (applyW σ w18) (n + 16 * 2) (kd_law04_SyntaxTells7 σ v1 w18 n v10 v15 v11 v16 v5 d18 R a1)) (fun v19 => bindP (aLd σ (some 14) v1) fun v66 =>
 Apt (names []) (rdA v5) (names []) (rdA v1) ∧
 Apt (names []) d18 (names []) (rdA v1) ∧
 Apt (names []) [] (names []) (rdA v1) ∧
 Apt (names []) [] (names []) [] ∧
 ∀ (fr_ : Regs) σ n, R (.pan v19) σ n)
def kc_law04_SyntaxTells9 (v5 : AV) (v1 : AV) (v10 : AV) (v11 : AV) (R : AEnd → Hp → Nat → Prop) (a1 : AV) (r : AEnd) (σ : Hp) (n : Nat) : Prop :=
 onEnd r (fun v13 =>
 bindP (aExt v13 0) fun v15 =>
 bindP (aExt v13 1) fun v16 =>
 bindP (aLd σ (some 14) v5) fun v17 =>
 callD Tryz.prog (.fn 8 []) [v17] σ (n + 16 * 1) (kd_law04_SyntaxTells8 σ n v1 v10 v15 v11 v16 v5 R a1)) (fun v14 => R (.pan v14) σ n)
def kc_law04_SyntaxTells10 (v1 : AV) (v5 : AV) (R : AEnd → Hp → Nat → Prop) (a1 : AV) (r : AEnd) (σ : Hp) (n : Nat) : Prop :=
 onEnd r (fun v8 =>
 bindP (aExt v8 0) fun v10 =>
 bindP (aExt v8 1) fun v11 =>
 bindP (aLd σ (some 14) v1) fun v12 =>
 CALL Tryz.prog (.fn 6 []) [v12] σ n (kc_law04_SyntaxTells9 v5 v1 v10 v11 R a1)) (fun v9 => R (.pan v9) σ n)
def kc_law04_SyntaxTells11 (v1 : AV) (R : AEnd → Hp → Nat → Prop) (a1 : AV) (r : AEnd) (σ : Hp) (n : Nat) : Prop :=
 onEnd r (fun v3 =>
 bindS (hAlloc n [(.int .i64 0), (.string ⟨#[]⟩), (.slice none 0 0), (.string ⟨#[]⟩), (.string ⟨#[]⟩), (.slice none 0 0), (.slice none 0 0), (.slice none 0 0), (.string ⟨#[]⟩), (.slice none 0 0), (.slice none 0 0), (.slice none 0 0), (.slice none 0 0), (.int .i64 0)]) σ n fun v5 σ n =>
 bindS (hSt σ 14 v5 v3) σ n fun v6 σ n =>
 bindP (aLd σ (some 14) v5) fun v7 =>
 CALL Tryz.prog (.fn 5 []) [v7] σ n (kc_law04_SyntaxTells10 v1 v5 R a1)) (fun v4 => R (.pan v4) σ n)
attribute [go_sem] kd_law04_SyntaxTells1 kd_law04_SyntaxTells2 kd_law04_SyntaxTells3 kd_law04_SyntaxTells4 kd_law04_SyntaxTells5 kd_law04_SyntaxTells6 kd_law04_SyntaxTells7 kd_law04_SyntaxTells8 kc_law04_SyntaxTells9 kc_law04_SyntaxTells10 kc_law04_SyntaxTells11
noncomputable def sc_law04_SyntaxTells : SCode := (Tryz.f3.body.bind (cmpC Tryz.prog Tryz.f3.ntmps [0, 6, 8, 7, 9, 1, 5, 2, 4])).getD .skip
def sh_law04_SyntaxTells (a0 a1 : AV) (σ : Hp) (n : Nat) (R : AEnd → Hp → Nat → Prop) : Prop :=
 bindS (hBox n a0) σ n fun v1 σ n =>
 bindP (aLd σ (some 14) v1) fun v2 =>
 CALL Tryz.prog (.fn 4 []) [v2] σ n (kc_law04_SyntaxTells11 v1 R a1)
theorem se_law04_SyntaxTells (a0 a1 : AV) (σ : Hp) (n : Nat) (R : AEnd → Hp → Nat → Prop) : sh_law04_SyntaxTells a0 a1 σ n R = swp Tryz.prog sc_law04_SyntaxTells (retQ [(.t 4)] R) (entry [a0, a1]) σ n := by kernel_rfl
theorem by_law04_SyntaxTells {a0 a1 : AV} {σ : Hp} {n : Nat} {R : AEnd → Hp → Nat → Prop} (h : sh_law04_SyntaxTells a0 a1 σ n R) : ConH Tryz.prog 3 [a0, a1] σ n R := by
  rw [se_law04_SyntaxTells] at h
  exact conH_of [(.t 4)] (fn := Tryz.f3) rfl [0, 6, 8, 7, 9, 1, 5, 2, 4] (by kernel_rfl) (by kernel_rfl) (by kernel_rfl) (by kernel_rfl) h
end Go.Proofs.YtodoejfkjimeaaaGreatDoor
