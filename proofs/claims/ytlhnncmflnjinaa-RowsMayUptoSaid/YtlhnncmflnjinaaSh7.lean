/- Go functions for the abstract machine, written by a program of this repo (gen_shallow.py); Lean checks each. -/
import Derived.Test.YtlhnncmflnjinaaMs
import Derived.Test.YtlhnncmflnjinaaProg
set_option linter.unusedVariables false
set_option maxRecDepth 8000
namespace Go.Proofs.Ytlhnncmflnjinaa
open Go Am
/-- switchback/switchbacklaw07.CheckExprs -/
def kc_law07_CheckExprs1 (Kg : AV → Hp → Nat → Prop) (R : AEnd → Hp → Nat → Prop) (r : AEnd) (σ : Hp) (n : Nat) : Prop :=
 onEnd r (fun v40 =>
 Kg v40 σ n) (fun v41 => R (.pan v41) σ n)
def kc_law07_CheckExprs2 (Kg : AV → Hp → Nat → Prop) (R : AEnd → Hp → Nat → Prop) (r : AEnd) (σ : Hp) (n : Nat) : Prop :=
 onEnd r (fun v48 =>
 Kg v48 σ n) (fun v49 => R (.pan v49) σ n)
def kc_law07_CheckExprs3 (Kg : AV → Hp → Nat → Prop) (R : AEnd → Hp → Nat → Prop) (r : AEnd) (σ : Hp) (n : Nat) : Prop :=
 onEnd r (fun v52 =>
 Kg v52 σ n) (fun v53 => R (.pan v53) σ n)
def kc_law07_CheckExprs4 (v16 : AV) (v26 : AV) (v17 : AV) (R : AEnd → Hp → Nat → Prop) (v27 : AV) (v5 : AV) (v1 : AV) (r : AEnd) (σ : Hp) (n : Nat) : Prop :=
 onEnd r (fun v32 =>
 guardP v32 true (some v16) fun v34 =>
 guardP v32 true (some v26) fun v35 =>
 guardP v32 true (semBin .eql v34 v35) fun v36 =>
 bindP (aPick v32 v36 (.sc (.bool false))) fun v37 =>
 guardP v37 true (some v17) fun v38 =>
 guardK v37 true (fun Kg => CALL Try.prog (.fn 18 []) [v38] σ n (kc_law07_CheckExprs1 Kg R)) σ n fun v39 σ n =>
 guardP v37 true (some v27) fun v42 =>
 guardP v37 true (semBin .eql v39 v42) fun v43 =>
 bindP (aPick v37 v43 (.sc (.bool false))) fun v44 =>
 guardP v44 true (aLd σ (some 7) v5) fun v45 =>
 guardP v44 true (aLd σ (some 7) v1) fun v46 =>
 guardK v44 true (fun Kg => CALL Try.prog (.fn 17 []) [v45, v46] σ n (kc_law07_CheckExprs2 Kg R)) σ n fun v47 σ n =>
 bindP (aPick v44 v47 (.sc (.bool false))) fun v50 =>
 guardK v50 true (fun Kg => CALL Try.prog (.fn 19 []) [] σ n (kc_law07_CheckExprs3 Kg R)) σ n fun v51 σ n =>
 bindP (aPick v50 v51 (.sc (.bool false))) fun v54 =>
 R (.ret v54) σ n) (fun v33 => R (.pan v33) σ n)
def kc_law07_CheckExprs5 (v18 : AV) (v16 : AV) (v17 : AV) (R : AEnd → Hp → Nat → Prop) (v5 : AV) (v1 : AV) (r : AEnd) (σ : Hp) (n : Nat) : Prop :=
 onEnd r (fun v23 =>
 bindP (aExt v23 0) fun v25 =>
 bindP (aExt v23 1) fun v26 =>
 bindP (aExt v23 2) fun v27 =>
 bindS (hAlloc n [(.int .i64 0), (.int .i64 0), (.int .i64 0), (.string ⟨#[]⟩), (.string ⟨#[]⟩), (.string ⟨#[]⟩), (.slice none 0 0)]) σ n fun v28 σ n =>
 bindS (hSt σ 7 v28 v25) σ n fun v29 σ n =>
 bindP (aLd σ (some 7) v18) fun v30 =>
 bindP (aLd σ (some 7) v28) fun v31 =>
 CALL Try.prog (.fn 17 []) [v30, v31] σ n (kc_law07_CheckExprs4 v16 v26 v17 R v27 v5 v1)) (fun v24 => R (.pan v24) σ n)
def kd_law07_CheckExprs6 (n : Nat) (σ : Hp) (w8 : Wr) (d8 : List Nat) (v5 : AV) (v1 : AV) (a0 : AV) (a2 : AV) (R : AEnd → Hp → Nat → Prop) (r : AEnd) (w12 : Wr) (d12 : List Nat) : Prop :=
 onEnd r (fun v12 =>
 bindP (aExt v12 0) fun v15 =>
 bindP (aExt v12 1) fun v16 =>
 bindP (aExt v12 2) fun v17 =>
 bindH (hAlloc (n + 16 * 9) [(.int .i64 0), (.int .i64 0), (.int .i64 0), (.string ⟨#[]⟩), (.string ⟨#[]⟩), (.string ⟨#[]⟩), (.slice none 0 0)]) fun v18 w18 =>
 bindH (hSt (applyW (applyW (applyW σ w8) w12) w18) 7 v18 v15) fun v19 w19 =>
 Apt (names w8) d8 (names []) (rdA v5) ∧
 Apt (names w8) d8 (names w18) (names w18) ∧
 Apt (names []) (rdA v5) (names w18) (names w18) ∧
 Apt (names w12) d12 (names w18) (names w18) ∧
 ∀ n_, n + 16 * 13 ≤ n_ → (fun n => (fun σ => bindP (aLd σ (some 7) v1) fun v22 =>
 CALL Try.prog (.fn 16 []) [a0, v22, a2] σ n (kc_law07_CheckExprs5 v18 v16 v17 R v5 v1)) (applyW (applyW (applyW (applyW σ w8) w12) w18) w19)) n_) (fun v13 => bindH (hAlloc (n + 16 * 9) [(.int .i64 0), (.int .i64 0), (.int .i64 0), (.string ⟨#[]⟩), (.string ⟨#[]⟩), (.string ⟨#[]⟩), (.slice none 0 0)]) fun v55 w55 =>
 Apt (names w8) d8 (names []) (rdA v5) ∧
 Apt (names w8) d8 (names w55) (names w55) ∧
 Apt (names []) (rdA v5) (names w55) (names w55) ∧
 Apt (names []) d12 (names w55) (names w55) ∧
 ∀ (fr_ : Regs) σ n, R (.pan v13) σ n)
def kd_law07_CheckExprs7 (σ : Hp) (v5 : AV) (a2 : AV) (n : Nat) (v1 : AV) (a0 : AV) (R : AEnd → Hp → Nat → Prop) (r : AEnd) (w8 : Wr) (d8 : List Nat) : Prop :=
 onEnd r (fun v8 =>
 bindP (aLd σ (some 7) v5) fun v10 =>
 callD Try.prog (.fn 14 []) [v8, v10, a2] (applyW σ w8) (n + 16 * 4) (kd_law07_CheckExprs6 n σ w8 d8 v5 v1 a0 a2 R)) (fun v9 => bindP (aLd σ (some 7) v5) fun v56 =>
 bindH (hAlloc (n + 16 * 9) [(.int .i64 0), (.int .i64 0), (.int .i64 0), (.string ⟨#[]⟩), (.string ⟨#[]⟩), (.string ⟨#[]⟩), (.slice none 0 0)]) fun v58 w58 =>
 Apt (names []) d8 (names []) (rdA v5) ∧
 Apt (names []) d8 (names w58) (names w58) ∧
 Apt (names []) (rdA v5) (names w58) (names w58) ∧
 Apt (names []) [] (names w58) (names w58) ∧
 ∀ (fr_ : Regs) σ n, R (.pan v9) σ n)
def kc_law07_CheckExprs8 (a0 : AV) (a2 : AV) (v1 : AV) (R : AEnd → Hp → Nat → Prop) (r : AEnd) (σ : Hp) (n : Nat) : Prop :=
 onEnd r (fun v3 =>
 bindS (hAlloc n [(.int .i64 0), (.int .i64 0), (.int .i64 0), (.string ⟨#[]⟩), (.string ⟨#[]⟩), (.string ⟨#[]⟩), (.slice none 0 0)]) σ n fun v5 σ n =>
 bindS (hSt σ 7 v5 v3) σ n fun v6 σ n =>
 callD Try.prog (.fn 15 []) [a0] σ (n + 16 * 1) (kd_law07_CheckExprs7 σ v5 a2 n v1 a0 R)) (fun v4 => R (.pan v4) σ n)
attribute [go_sem] kc_law07_CheckExprs1 kc_law07_CheckExprs2 kc_law07_CheckExprs3 kc_law07_CheckExprs4 kc_law07_CheckExprs5 kd_law07_CheckExprs6 kd_law07_CheckExprs7 kc_law07_CheckExprs8
def sc_law07_CheckExprs : SCode := (.seq (.reg [
   ⟨(some 4), none, (.box (.t 1))⟩,
    ⟨(some 6), none, (.mv (.c (.sc (.bool false))))⟩]) (.seq (.reg [
   ⟨(some 14), none, (.ld (some 7) (.t 4))⟩,
    ⟨(some 15), none, (.call (.c (.fn 13 [])) [(.t 14)])⟩,
    ⟨(some 7), none, (.alloc [(.int .i64 0), (.int .i64 0), (.int .i64 0), (.string ⟨#[]⟩), (.string ⟨#[]⟩), (.string ⟨#[]⟩), (.slice none 0 0)])⟩,
    ⟨none, none, (.st 7 (.t 7) (.t 15))⟩]) (.seq (.regD [(⟨(some 17), none, (.mv (.t 0))⟩, []), (⟨(some 18), none, (.call (.c (.fn 15 [])) [(.t 17)])⟩, [0]), (⟨(some 19), none, (.ld (some 7) (.t 7))⟩, []), (⟨(some 20), none, (.mv (.t 2))⟩, []), (⟨(some 21), none, (.call (.c (.fn 14 [])) [(.t 18), (.t 19), (.t 20)])⟩, [1, 0, 2, 3]), (⟨(some 16), none, (.mv (.t 21))⟩, [4, 1, 0, 2, 3]), (⟨(some 22), none, (.ext (.t 16) 0)⟩, [5, 4, 1, 0, 2, 3]), (⟨(some 23), none, (.ext (.t 16) 1)⟩, [5, 4, 1, 0, 2, 3]), (⟨(some 24), none, (.ext (.t 16) 2)⟩, [5, 4, 1, 0, 2, 3]), (⟨(some 8), none, (.alloc [(.int .i64 0), (.int .i64 0), (.int .i64 0), (.string ⟨#[]⟩), (.string ⟨#[]⟩), (.string ⟨#[]⟩), (.slice none 0 0)])⟩, []), (⟨none, none, (.st 7 (.t 8) (.t 22))⟩, [9, 6, 5, 4, 1, 0, 2, 3]), (⟨(some 9), none, (.mv (.t 23))⟩, [7, 5, 4, 1, 0, 2, 3, 10, 9, 6]), (⟨(some 10), none, (.mv (.t 24))⟩, [8, 5, 4, 1, 0, 2, 3, 11, 7, 10, 9, 6])]) (.seq (.reg [
   ⟨(some 26), none, (.mv (.t 0))⟩,
    ⟨(some 27), none, (.ld (some 7) (.t 4))⟩,
    ⟨(some 28), none, (.mv (.t 2))⟩,
    ⟨(some 29), none, (.call (.c (.fn 16 [])) [(.t 26), (.t 27), (.t 28)])⟩,
    ⟨(some 25), none, (.mv (.t 29))⟩,
    ⟨(some 30), none, (.ext (.t 25) 0)⟩,
    ⟨(some 31), none, (.ext (.t 25) 1)⟩,
    ⟨(some 32), none, (.ext (.t 25) 2)⟩,
    ⟨(some 11), none, (.alloc [(.int .i64 0), (.int .i64 0), (.int .i64 0), (.string ⟨#[]⟩), (.string ⟨#[]⟩), (.string ⟨#[]⟩), (.slice none 0 0)])⟩,
    ⟨none, none, (.st 7 (.t 11) (.t 30))⟩,
    ⟨(some 12), none, (.mv (.t 31))⟩,
    ⟨(some 13), none, (.mv (.t 32))⟩]) (.seq (.reg [
   ⟨(some 33), none, (.ld (some 7) (.t 8))⟩,
    ⟨(some 34), none, (.ld (some 7) (.t 11))⟩,
    ⟨(some 35), none, (.call (.c (.fn 17 [])) [(.t 33), (.t 34)])⟩,
    ⟨(some 36), none, (.mv (.t 35))⟩,
    ⟨(some 37), (some (36, true)), (.mv (.t 9))⟩,
    ⟨(some 38), (some (36, true)), (.mv (.t 12))⟩,
    ⟨(some 39), (some (36, true)), (.bin .eql (.t 37) (.t 38))⟩,
    ⟨(some 40), none, (.pick (.t 36) (.t 39) (.c (.sc (.bool false))))⟩,
    ⟨(some 41), none, (.mv (.t 40))⟩,
    ⟨(some 42), (some (41, true)), (.mv (.t 10))⟩,
    ⟨(some 43), (some (41, true)), (.call (.c (.fn 18 [])) [(.t 42)])⟩,
    ⟨(some 44), (some (41, true)), (.mv (.t 13))⟩,
    ⟨(some 45), (some (41, true)), (.bin .eql (.t 43) (.t 44))⟩,
    ⟨(some 46), none, (.pick (.t 41) (.t 45) (.c (.sc (.bool false))))⟩,
    ⟨(some 47), none, (.mv (.t 46))⟩,
    ⟨(some 48), (some (47, true)), (.ld (some 7) (.t 7))⟩,
    ⟨(some 49), (some (47, true)), (.ld (some 7) (.t 4))⟩,
    ⟨(some 50), (some (47, true)), (.call (.c (.fn 17 [])) [(.t 48), (.t 49)])⟩,
    ⟨(some 51), none, (.pick (.t 47) (.t 50) (.c (.sc (.bool false))))⟩,
    ⟨(some 52), none, (.mv (.t 51))⟩,
    ⟨(some 53), (some (52, true)), (.call (.c (.fn 19 [])) [])⟩,
    ⟨(some 54), none, (.pick (.t 52) (.t 53) (.c (.sc (.bool false))))⟩,
    ⟨(some 6), none, (.mv (.t 54))⟩]) .ret)))))
def sh_law07_CheckExprs (a0 a1 a2 : AV) (σ : Hp) (n : Nat) (R : AEnd → Hp → Nat → Prop) : Prop :=
 bindS (hBox n a1) σ n fun v1 σ n =>
 bindP (aLd σ (some 7) v1) fun v2 =>
 CALL Try.prog (.fn 13 []) [v2] σ n (kc_law07_CheckExprs8 a0 a2 v1 R)
theorem se_law07_CheckExprs (a0 a1 a2 : AV) (σ : Hp) (n : Nat) (R : AEnd → Hp → Nat → Prop) : sh_law07_CheckExprs a0 a1 a2 σ n R = swp Try.prog sc_law07_CheckExprs (retQ [(.t 6)] R) (entry [a0, a1, a2]) σ n := by kernel_rfl
theorem by_law07_CheckExprs {a0 a1 a2 : AV} {σ : Hp} {n : Nat} {R : AEnd → Hp → Nat → Prop} (h : sh_law07_CheckExprs a0 a1 a2 σ n R) : ConH Try.prog 3 [a0, a1, a2] σ n R := by
  rw [se_law07_CheckExprs] at h
  exact conH_of [(.t 6)] (fn := Try.f3) rfl [1, 0, 2, 8, 11, 9, 12, 10, 13, 7, 4, 6] (by kernel_rfl) (by kernel_rfl) (by kernel_rfl) (by kernel_rfl) h
/-- switchback/switchbacklaw07.CheckBare -/
def kc_law07_CheckBare1 (R : AEnd → Hp → Nat → Prop) (r : AEnd) (σ : Hp) (n : Nat) : Prop :=
 onEnd r (fun v25 =>
 R (.ret v25) σ n) (fun v26 => R (.pan v26) σ n)
def kc_law07_CheckBare2 (R : AEnd → Hp → Nat → Prop) (r : AEnd) (σ : Hp) (n : Nat) : Prop :=
 onEnd r (fun v37 =>
 R (.ret v37) σ n) (fun v38 => R (.pan v38) σ n)
def lb_law07_CheckBare3 (a0 : AV) (v16 : AV) (R : AEnd → Hp → Nat → Prop) (K27 : List AV → Hp → Nat → Prop) (s27 : List AV) (σ : Hp) (n : Nat) : Prop :=
 bindP (aLen false a0) fun v28 => bnd σ a0 →
 bindP (semBin .lss (s27.getD 2 .any) v28) fun v29 =>
 COND v29 (
 bindP (aIad 4 a0 (s27.getD 2 .any)) fun v30 =>
 bindP (aFad 1 v30) fun v31 =>
 bindP (aLd σ none v31) fun v32 =>
 bindP (aLen false v32) fun v33 => bnd σ v32 →
 bindP (semBin .add (s27.getD 1 .any) v33) fun v34 =>
 bindP (semBin .add (s27.getD 2 .any) (.sc (.int .i64 1))) fun v35 =>
 K27 [v29, v34, v35] σ n) (
 bindP (aLd σ (some 7) v16) fun v36 =>
 CALL Try.prog (.fn 20 []) [v36, (s27.getD 1 .any)] σ n (kc_law07_CheckBare2 R))
def kc_law07_CheckBare4 (v16 : AV) (R : AEnd → Hp → Nat → Prop) (a0 : AV) (r : AEnd) (σ : Hp) (n : Nat) : Prop :=
 onEnd r (fun v20 =>
 bindP (semBin .neq v20 (.sc (.int .i64 0))) fun v22 =>
 COND v22 (
 bindP (aLd σ (some 7) v16) fun v23 =>
 bindP (aBuild [(.int .i64 0), (.int .i64 0), (.int .i64 0), (.string ⟨#[]⟩), (.string ⟨#[]⟩), (.string ⟨#[]⟩), (.slice none 0 0)] []) fun v24 =>
 CALL Try.prog (.fn 17 []) [v23, v24] σ n (kc_law07_CheckBare1 R)) (
 LOOP (lb_law07_CheckBare3 a0 v16 R) [(.tp []), (.sc (.int .i64 0)), (.sc (.int .i64 0))] σ n)) (fun v21 => R (.pan v21) σ n)
def kd_law07_CheckBare5 (n : Nat) (σ : Hp) (w6 : Wr) (d6 : List Nat) (v1 : AV) (R : AEnd → Hp → Nat → Prop) (a0 : AV) (r : AEnd) (w10 : Wr) (d10 : List Nat) : Prop :=
 onEnd r (fun v10 =>
 bindP (aExt v10 0) fun v13 =>
 bindP (aExt v10 1) fun v14 =>
 bindP (aExt v10 2) fun v15 =>
 bindH (hAlloc (n + 16 * 9) [(.int .i64 0), (.int .i64 0), (.int .i64 0), (.string ⟨#[]⟩), (.string ⟨#[]⟩), (.string ⟨#[]⟩), (.slice none 0 0)]) fun v16 w16 =>
 bindH (hSt (applyW (applyW (applyW σ w6) w10) w16) 7 v16 v13) fun v17 w17 =>
 Apt (names w6) d6 (names []) (rdA v1) ∧
 Apt (names w6) d6 (names w16) (names w16) ∧
 Apt (names []) (rdA v1) (names w16) (names w16) ∧
 Apt (names w10) d10 (names w16) (names w16) ∧
 ∀ n_, n + 16 * 13 ≤ n_ → (fun n => (fun σ => CALL Try.prog (.fn 18 []) [v15] σ n (kc_law07_CheckBare4 v16 R a0)) (applyW (applyW (applyW (applyW σ w6) w10) w16) w17)) n_) (fun v11 => bindH (hAlloc (n + 16 * 9) [(.int .i64 0), (.int .i64 0), (.int .i64 0), (.string ⟨#[]⟩), (.string ⟨#[]⟩), (.string ⟨#[]⟩), (.slice none 0 0)]) fun v39 w39 =>
 Apt (names w6) d6 (names []) (rdA v1) ∧
 Apt (names w6) d6 (names w39) (names w39) ∧
 Apt (names []) (rdA v1) (names w39) (names w39) ∧
 Apt (names []) d10 (names w39) (names w39) ∧
 ∀ (fr_ : Regs) σ n, R (.pan v11) σ n)
def kd_law07_CheckBare6 (σ : Hp) (v1 : AV) (a2 : AV) (n : Nat) (R : AEnd → Hp → Nat → Prop) (a0 : AV) (r : AEnd) (w6 : Wr) (d6 : List Nat) : Prop :=
 onEnd r (fun v6 =>
 bindP (aLd σ (some 7) v1) fun v8 =>
 callD Try.prog (.fn 14 []) [v6, v8, a2] (applyW σ w6) (n + 16 * 4) (kd_law07_CheckBare5 n σ w6 d6 v1 R a0)) (fun v7 => bindP (aLd σ (some 7) v1) fun v40 =>
 bindH (hAlloc (n + 16 * 9) [(.int .i64 0), (.int .i64 0), (.int .i64 0), (.string ⟨#[]⟩), (.string ⟨#[]⟩), (.string ⟨#[]⟩), (.slice none 0 0)]) fun v42 w42 =>
 Apt (names []) d6 (names []) (rdA v1) ∧
 Apt (names []) d6 (names w42) (names w42) ∧
 Apt (names []) (rdA v1) (names w42) (names w42) ∧
 Apt (names []) [] (names w42) (names w42) ∧
 ∀ (fr_ : Regs) σ n, R (.pan v7) σ n)
def kc_law07_CheckBare7 (R : AEnd → Hp → Nat → Prop) (a0 : AV) (v1 : AV) (a2 : AV) (r : AEnd) (σ : Hp) (n : Nat) : Prop :=
 onEnd r (fun v2 =>
 bindP (aUn .not v2) fun v4 =>
 COND v4 (
 R (.ret (.sc (.bool false))) σ n) (
 callD Try.prog (.fn 15 []) [a0] σ (n + 16 * 1) (kd_law07_CheckBare6 σ v1 a2 n R a0))) (fun v3 => R (.pan v3) σ n)
attribute [go_sem] kc_law07_CheckBare1 kc_law07_CheckBare2 lb_law07_CheckBare3 kc_law07_CheckBare4 kd_law07_CheckBare5 kd_law07_CheckBare6 kc_law07_CheckBare7
def sc_law07_CheckBare : SCode := (.seq (.reg [
   ⟨(some 4), none, (.box (.t 1))⟩,
    ⟨(some 6), none, (.mv (.c (.sc (.bool false))))⟩]) (.seq (.seq (.reg [
   ⟨(some 12), none, (.call (.c (.fn 19 [])) [])⟩,
    ⟨(some 13), none, (.un .not (.t 12))⟩]) (.cond (.t 13) (.seq (.reg [
   ⟨(some 6), none, (.mv (.c (.sc (.bool false))))⟩]) .ret) .skip)) (.seq (.regD [(⟨(some 15), none, (.mv (.t 0))⟩, []), (⟨(some 16), none, (.call (.c (.fn 15 [])) [(.t 15)])⟩, [0]), (⟨(some 17), none, (.ld (some 7) (.t 4))⟩, []), (⟨(some 18), none, (.mv (.t 2))⟩, []), (⟨(some 19), none, (.call (.c (.fn 14 [])) [(.t 16), (.t 17), (.t 18)])⟩, [1, 0, 2, 3]), (⟨(some 14), none, (.mv (.t 19))⟩, [4, 1, 0, 2, 3]), (⟨(some 20), none, (.ext (.t 14) 0)⟩, [5, 4, 1, 0, 2, 3]), (⟨(some 21), none, (.ext (.t 14) 1)⟩, [5, 4, 1, 0, 2, 3]), (⟨(some 22), none, (.ext (.t 14) 2)⟩, [5, 4, 1, 0, 2, 3]), (⟨(some 7), none, (.alloc [(.int .i64 0), (.int .i64 0), (.int .i64 0), (.string ⟨#[]⟩), (.string ⟨#[]⟩), (.string ⟨#[]⟩), (.slice none 0 0)])⟩, []), (⟨none, none, (.st 7 (.t 7) (.t 20))⟩, [9, 6, 5, 4, 1, 0, 2, 3]), (⟨(some 8), none, (.mv (.t 21))⟩, [7, 5, 4, 1, 0, 2, 3, 10, 9, 6]), (⟨(some 9), none, (.mv (.t 22))⟩, [8, 5, 4, 1, 0, 2, 3, 11, 7, 10, 9, 6])]) (.seq (.seq (.reg [
   ⟨(some 23), none, (.mv (.t 9))⟩,
    ⟨(some 24), none, (.call (.c (.fn 18 [])) [(.t 23)])⟩,
    ⟨(some 25), none, (.bin .neq (.t 24) (.c (.sc (.int .i64 0))))⟩]) (.cond (.t 25) (.seq (.reg [
   ⟨(some 26), none, (.ld (some 7) (.t 7))⟩,
    ⟨(some 27), none, (.build [(.int .i64 0), (.int .i64 0), (.int .i64 0), (.string ⟨#[]⟩), (.string ⟨#[]⟩), (.string ⟨#[]⟩), (.slice none 0 0)] [])⟩,
    ⟨(some 28), none, (.call (.c (.fn 17 [])) [(.t 26), (.t 27)])⟩,
    ⟨(some 6), none, (.mv (.t 28))⟩]) .ret) .skip)) (.seq (.reg [
   ⟨(some 10), none, (.mv (.c (.sc (.int .i64 0))))⟩]) (.seq (.seq (.reg [
   ⟨(some 11), none, (.mv (.c (.sc (.int .i64 0))))⟩]) (.block 0 (.loop [32, 10, 11] [29, 30, 31, 32, 35, 36, 37, 38, 39, 40, 41, 42, 10, 33, 34, 11] (.seq (.seq (.reg [
   ⟨(some 29), none, (.mv (.t 11))⟩,
    ⟨(some 30), none, (.mv (.t 0))⟩,
    ⟨(some 31), none, (.len false (.t 30))⟩,
    ⟨(some 32), none, (.bin .lss (.t 29) (.t 31))⟩]) (.cond (.t 32) .skip (.exit 0))) (.seq (.block 1 (.reg [
   ⟨(some 35), none, (.mv (.t 10))⟩,
    ⟨(some 36), none, (.mv (.t 0))⟩,
    ⟨(some 37), none, (.mv (.t 11))⟩,
    ⟨(some 38), none, (.iad 4 (.t 36) (.t 37))⟩,
    ⟨(some 39), none, (.fad 1 (.t 38))⟩,
    ⟨(some 40), none, (.ld none (.t 39))⟩,
    ⟨(some 41), none, (.len false (.t 40))⟩,
    ⟨(some 42), none, (.bin .add (.t 35) (.t 41))⟩,
    ⟨(some 10), none, (.mv (.t 42))⟩])) (.reg [
   ⟨(some 33), none, (.mv (.t 11))⟩,
    ⟨(some 34), none, (.bin .add (.t 33) (.c (.sc (.int .i64 1))))⟩,
    ⟨(some 11), none, (.mv (.t 34))⟩])))))) (.seq (.reg [
   ⟨(some 43), none, (.ld (some 7) (.t 7))⟩,
    ⟨(some 44), none, (.mv (.t 10))⟩,
    ⟨(some 45), none, (.call (.c (.fn 20 [])) [(.t 43), (.t 44)])⟩,
    ⟨(some 6), none, (.mv (.t 45))⟩]) .ret)))))))
def sh_law07_CheckBare (a0 a1 a2 : AV) (σ : Hp) (n : Nat) (R : AEnd → Hp → Nat → Prop) : Prop :=
 bindS (hBox n a1) σ n fun v1 σ n =>
 CALL Try.prog (.fn 19 []) [] σ n (kc_law07_CheckBare7 R a0 v1 a2)
theorem se_law07_CheckBare (a0 a1 a2 : AV) (σ : Hp) (n : Nat) (R : AEnd → Hp → Nat → Prop) : sh_law07_CheckBare a0 a1 a2 σ n R = swp Try.prog sc_law07_CheckBare (retQ [(.t 6)] R) (entry [a0, a1, a2]) σ n := by kernel_rfl
theorem by_law07_CheckBare {a0 a1 a2 : AV} {σ : Hp} {n : Nat} {R : AEnd → Hp → Nat → Prop} (h : sh_law07_CheckBare a0 a1 a2 σ n R) : ConH Try.prog 4 [a0, a1, a2] σ n R := by
  rw [se_law07_CheckBare] at h
  exact conH_of [(.t 6)] (fn := Try.f4) rfl [1, 13, 4, 2, 9, 25, 32, 0, 11, 7, 10, 6] (by kernel_rfl) (by kernel_rfl) (by kernel_rfl) (by kernel_rfl) h
/-- switchback/switchbacklaw07.CheckKinds -/
def kc_law07_CheckKinds1 (Kg : AV → Hp → Nat → Prop) (R : AEnd → Hp → Nat → Prop) (r : AEnd) (σ : Hp) (n : Nat) : Prop :=
 onEnd r (fun v59 =>
 Kg v59 σ n) (fun v60 => R (.pan v60) σ n)
def kc_law07_CheckKinds2 (v46 : AV) (R : AEnd → Hp → Nat → Prop) (r : AEnd) (σ : Hp) (n : Nat) : Prop :=
 onEnd r (fun v54 =>
 bindP (semBin .neq v54 (.sc (.int .i64 0))) fun v56 =>
 guardP v56 true (some v46) fun v57 =>
 guardK v56 true (fun Kg => CALL Try.prog (.fn 18 []) [v57] σ n (kc_law07_CheckKinds1 Kg R)) σ n fun v58 σ n =>
 guardP v56 true (semBin .neq v58 (.sc (.int .i64 0))) fun v61 =>
 bindP (aPick v56 v61 (.sc (.bool false))) fun v62 =>
 R (.ret v62) σ n) (fun v55 => R (.pan v55) σ n)
def kc_law07_CheckKinds3 (Kg : AV → Hp → Nat → Prop) (R : AEnd → Hp → Nat → Prop) (r : AEnd) (σ : Hp) (n : Nat) : Prop :=
 onEnd r (fun v71 =>
 Kg v71 σ n) (fun v72 => R (.pan v72) σ n)
def kc_law07_CheckKinds4 (Kg : AV → Hp → Nat → Prop) (R : AEnd → Hp → Nat → Prop) (r : AEnd) (σ : Hp) (n : Nat) : Prop :=
 onEnd r (fun v97 =>
 Kg v97 σ n) (fun v98 => R (.pan v98) σ n)
def kc_law07_CheckKinds5 (Kg : AV → Hp → Nat → Prop) (R : AEnd → Hp → Nat → Prop) (r : AEnd) (σ : Hp) (n : Nat) : Prop :=
 onEnd r (fun v119 =>
 Kg v119 σ n) (fun v120 => R (.pan v120) σ n)
def kc_law07_CheckKinds6 (v13 : AV) (v46 : AV) (R : AEnd → Hp → Nat → Prop) (v29 : AV) (v31 : AV) (v45 : AV) (v47 : AV) (r : AEnd) (σ : Hp) (n : Nat) : Prop :=
 onEnd r (fun v87 =>
 bindP (semBin .eql v87 (.sc (.int .i64 0))) fun v89 =>
 bindP (semBin .eql v13 (.sc (.int .i64 0))) fun v90 =>
 guardP v90 false (some v13) fun v91 =>
 guardP v90 false (semBin .eql v91 (.sc (.int .i64 2))) fun v92 =>
 bindP (aPick v90 (.sc (.bool true)) v92) fun v93 =>
 bindP (aEqb true v89 v93) fun v94 =>
 guardP v94 false (some v46) fun v95 =>
 guardK v94 false (fun Kg => CALL Try.prog (.fn 18 []) [v95] σ n (kc_law07_CheckKinds4 Kg R)) σ n fun v96 σ n =>
 guardP v94 false (semBin .eql v96 (.sc (.int .i64 0))) fun v99 =>
 guardP v94 false (some v13) fun v100 =>
 guardP v94 false (semBin .eql v100 (.sc (.int .i64 0))) fun v101 =>
 guardP v94 false (some v101) fun v102 =>
 guardP v102 false (some v13) fun v103 =>
 guardP v102 false (semBin .eql v103 (.sc (.int .i64 1))) fun v104 =>
 guardP v94 false (aPick v102 (.sc (.bool true)) v104) fun v105 =>
 guardP v94 false (aEqb true v99 v105) fun v106 =>
 bindP (aPick v94 (.sc (.bool true)) v106) fun v107 =>
 COND v107 (
 R (.ret (.sc (.bool false))) σ n) (
 bindP (aUn .not v89) fun v108 =>
 guardP v108 false (some v29) fun v109 =>
 guardP v108 false (semBin .eql v109 (.sc (.int .i64 2))) fun v110 =>
 guardP v108 false (some v110) fun v111 =>
 guardP v111 true (aFad 0 v31) fun v112 =>
 guardP v111 true (aLd σ none v112) fun v113 =>
 guardP v111 true (semBin .eql v113 (.sc (.int .i64 3))) fun v114 =>
 guardP v108 false (aPick v111 v114 (.sc (.bool false))) fun v115 =>
 bindP (aPick v108 (.sc (.bool true)) v115) fun v116 =>
 guardP v116 true (some v46) fun v117 =>
 guardK v116 true (fun Kg => CALL Try.prog (.fn 18 []) [v117] σ n (kc_law07_CheckKinds5 Kg R)) σ n fun v118 σ n =>
 guardP v116 true (semBin .neq v118 (.sc (.int .i64 0))) fun v121 =>
 guardP v116 true (some v121) fun v122 =>
 guardP v122 false (some v45) fun v123 =>
 guardP v122 false (semBin .eql v123 (.sc (.int .i64 1))) fun v124 =>
 guardP v122 false (some v124) fun v125 =>
 guardP v125 true (aFad 0 v47) fun v126 =>
 guardP v125 true (aLd σ none v126) fun v127 =>
 guardP v125 true (semBin .eql v127 (.sc (.int .i64 2))) fun v128 =>
 guardP v122 false (aPick v125 v128 (.sc (.bool false))) fun v129 =>
 guardP v116 true (aPick v122 (.sc (.bool true)) v129) fun v130 =>
 bindP (aPick v116 v130 (.sc (.bool false))) fun v131 =>
 R (.ret v131) σ n)) (fun v88 => R (.pan v88) σ n)
def kc_law07_CheckKinds7 (v30 : AV) (v46 : AV) (R : AEnd → Hp → Nat → Prop) (v13 : AV) (v29 : AV) (v31 : AV) (v45 : AV) (v47 : AV) (r : AEnd) (σ : Hp) (n : Nat) : Prop :=
 onEnd r (fun v63 =>
 bindP (semBin .neq v63 (.sc (.int .i64 0))) fun v65 =>
 guardP v65 true (some v30) fun v66 =>
 guardP v65 true (semBin .neq v66 (.sc (.int .i64 81))) fun v67 =>
 bindP (aPick v65 v67 (.sc (.bool false))) fun v68 =>
 guardP v68 false (some v46) fun v69 =>
 guardK v68 false (fun Kg => CALL Try.prog (.fn 18 []) [v69] σ n (kc_law07_CheckKinds3 Kg R)) σ n fun v70 σ n =>
 guardP v68 false (semBin .neq v70 (.sc (.int .i64 0))) fun v73 =>
 guardP v68 false (some v73) fun v74 =>
 guardP v74 true (some v46) fun v75 =>
 guardP v74 true (semBin .neq v75 (.sc (.int .i64 81))) fun v76 =>
 guardP v68 false (aPick v74 v76 (.sc (.bool false))) fun v77 =>
 bindP (aPick v68 (.sc (.bool true)) v77) fun v78 =>
 COND v78 (
 bindP (semBin .eql v30 v46) fun v79 =>
 guardP v79 true (some v30) fun v80 =>
 guardP v79 true (semBin .eql v80 (.sc (.int .i64 10))) fun v81 =>
 guardP v79 true (some v81) fun v82 =>
 guardP v82 false (some v30) fun v83 =>
 guardP v82 false (semBin .eql v83 (.sc (.int .i64 3))) fun v84 =>
 guardP v79 true (aPick v82 (.sc (.bool true)) v84) fun v85 =>
 bindP (aPick v79 v85 (.sc (.bool false))) fun v86 =>
 R (.ret v86) σ n) (
 CALL Try.prog (.fn 18 []) [v30] σ n (kc_law07_CheckKinds6 v13 v46 R v29 v31 v45 v47))) (fun v64 => R (.pan v64) σ n)
def kc_law07_CheckKinds8 (v30 : AV) (v46 : AV) (R : AEnd → Hp → Nat → Prop) (v13 : AV) (v29 : AV) (v31 : AV) (v45 : AV) (v47 : AV) (r : AEnd) (σ : Hp) (n : Nat) : Prop :=
 onEnd r (fun v51 =>
 bindP (semBin .neq v51 (.sc (.int .i64 0))) fun v53 =>
 COND v53 (
 CALL Try.prog (.fn 18 []) [v30] σ n (kc_law07_CheckKinds2 v46 R)) (
 CALL Try.prog (.fn 18 []) [v30] σ n (kc_law07_CheckKinds7 v30 v46 R v13 v29 v31 v45 v47))) (fun v52 => R (.pan v52) σ n)
def kd_law07_CheckKinds9 (n : Nat) (σ : Hp) (w36 : Wr) (w39 : Wr) (d36 : List Nat) (v1 : AV) (v14 : AV) (v30 : AV) (R : AEnd → Hp → Nat → Prop) (v13 : AV) (v29 : AV) (v31 : AV) (r : AEnd) (w41 : Wr) (d41 : List Nat) : Prop :=
 onEnd r (fun v41 =>
 bindP (aExt v41 0) fun v44 =>
 bindP (aExt v41 1) fun v45 =>
 bindP (aExt v41 2) fun v46 =>
 bindH (hAlloc (n + 16 * 10) [(.int .i64 0), (.int .i64 0), (.int .i64 0), (.string ⟨#[]⟩), (.string ⟨#[]⟩), (.string ⟨#[]⟩), (.slice none 0 0)]) fun v47 w47 =>
 bindH (hSt (applyW (applyW (applyW (applyW σ w36) w39) w41) w47) 7 v47 v44) fun v48 w48 =>
 Apt (names w36) d36 (names []) (rdA v1) ∧
 Apt (names w36) d36 (names w39) (names w39) ∧
 Apt (names w36) d36 (names w47) (names w47) ∧
 Apt (names []) (rdA v1) (names w47) (names w47) ∧
 Apt (names w39) (names w39) (names w47) (names w47) ∧
 Apt (names w41) d41 (names w47) (names w47) ∧
 ∀ n_, n + 16 * 14 ≤ n_ → (fun n => (fun σ => CALL Try.prog (.fn 18 []) [v14] σ n (kc_law07_CheckKinds8 v30 v46 R v13 v29 v31 v45 v47)) (applyW (applyW (applyW (applyW (applyW σ w36) w39) w41) w47) w48)) n_) (fun v42 => bindH (hAlloc (n + 16 * 10) [(.int .i64 0), (.int .i64 0), (.int .i64 0), (.string ⟨#[]⟩), (.string ⟨#[]⟩), (.string ⟨#[]⟩), (.slice none 0 0)]) fun v132 w132 =>
 Apt (names w36) d36 (names []) (rdA v1) ∧
 Apt (names w36) d36 (names w39) (names w39) ∧
 Apt (names w36) d36 (names w132) (names w132) ∧
 Apt (names []) (rdA v1) (names w132) (names w132) ∧
 Apt (names w39) (names w39) (names w132) (names w132) ∧
 Apt (names []) d41 (names w132) (names w132) ∧
 ∀ (fr_ : Regs) σ n, R (.pan v42) σ n)
def kd_law07_CheckKinds10 (σ : Hp) (v1 : AV) (n : Nat) (v14 : AV) (v30 : AV) (R : AEnd → Hp → Nat → Prop) (v13 : AV) (v29 : AV) (v31 : AV) (r : AEnd) (w36 : Wr) (d36 : List Nat) : Prop :=
 onEnd r (fun v36 =>
 bindP (aLd σ (some 7) v1) fun v38 =>
 bindH (hBsl σ (n + 16 * 3) 7 [(.int .i64 0), (.int .i64 0), (.int .i64 0), (.string ⟨#[]⟩), (.string ⟨#[]⟩), (.string ⟨#[]⟩), (.slice none 0 0)] 1 [(0, v38)]) fun v39 w39 =>
 bindP (aBuild [(.int .i64 0), (.int .i64 0), (.int .i64 0), (.string ⟨#[]⟩), (.string ⟨#[]⟩), (.string ⟨#[]⟩), (.slice none 0 0)] [(0, 1, (.sc (.int .i64 2))), (6, 1, v39)]) fun v40 =>
 callD Try.prog (.fn 14 []) [v36, v40, (.sc (.bool false))] (applyW (applyW σ w36) w39) (n + 16 * 5) (kd_law07_CheckKinds9 n σ w36 w39 d36 v1 v14 v30 R v13 v29 v31)) (fun v37 => bindP (aLd σ (some 7) v1) fun v133 =>
 bindH (hBsl σ (n + 16 * 3) 7 [(.int .i64 0), (.int .i64 0), (.int .i64 0), (.string ⟨#[]⟩), (.string ⟨#[]⟩), (.string ⟨#[]⟩), (.slice none 0 0)] 1 [(0, v133)]) fun v134 w134 =>
 bindP (aBuild [(.int .i64 0), (.int .i64 0), (.int .i64 0), (.string ⟨#[]⟩), (.string ⟨#[]⟩), (.string ⟨#[]⟩), (.slice none 0 0)] [(0, 1, (.sc (.int .i64 2))), (6, 1, v134)]) fun v135 =>
 bindH (hAlloc (n + 16 * 10) [(.int .i64 0), (.int .i64 0), (.int .i64 0), (.string ⟨#[]⟩), (.string ⟨#[]⟩), (.string ⟨#[]⟩), (.slice none 0 0)]) fun v136 w136 =>
 Apt (names []) d36 (names []) (rdA v1) ∧
 Apt (names []) d36 (names w134) (names w134) ∧
 Apt (names []) d36 (names w136) (names w136) ∧
 Apt (names []) (rdA v1) (names w136) (names w136) ∧
 Apt (names w134) (names w134) (names w136) (names w136) ∧
 Apt (names []) [] (names w136) (names w136) ∧
 ∀ (fr_ : Regs) σ n, R (.pan v37) σ n)
def kd_law07_CheckKinds11 (n : Nat) (σ : Hp) (w20 : Wr) (w23 : Wr) (d20 : List Nat) (v1 : AV) (a0 : AV) (v14 : AV) (R : AEnd → Hp → Nat → Prop) (v13 : AV) (r : AEnd) (w25 : Wr) (d25 : List Nat) : Prop :=
 onEnd r (fun v25 =>
 bindP (aExt v25 0) fun v28 =>
 bindP (aExt v25 1) fun v29 =>
 bindP (aExt v25 2) fun v30 =>
 bindH (hAlloc (n + 16 * 10) [(.int .i64 0), (.int .i64 0), (.int .i64 0), (.string ⟨#[]⟩), (.string ⟨#[]⟩), (.string ⟨#[]⟩), (.slice none 0 0)]) fun v31 w31 =>
 bindH (hSt (applyW (applyW (applyW (applyW σ w20) w23) w25) w31) 7 v31 v28) fun v32 w32 =>
 Apt (names w20) d20 (names []) (rdA v1) ∧
 Apt (names w20) d20 (names w23) (names w23) ∧
 Apt (names w20) d20 (names w31) (names w31) ∧
 Apt (names []) (rdA v1) (names w31) (names w31) ∧
 Apt (names w23) (names w23) (names w31) (names w31) ∧
 Apt (names w25) d25 (names w31) (names w31) ∧
 ∀ n_, n + 16 * 14 ≤ n_ → (fun n => (fun σ => callD Try.prog (.fn 15 []) [a0] σ (n + 16 * 1) (kd_law07_CheckKinds10 σ v1 n v14 v30 R v13 v29 v31)) (applyW (applyW (applyW (applyW (applyW σ w20) w23) w25) w31) w32)) n_) (fun v26 => bindH (hAlloc (n + 16 * 10) [(.int .i64 0), (.int .i64 0), (.int .i64 0), (.string ⟨#[]⟩), (.string ⟨#[]⟩), (.string ⟨#[]⟩), (.slice none 0 0)]) fun v137 w137 =>
 Apt (names w20) d20 (names []) (rdA v1) ∧
 Apt (names w20) d20 (names w23) (names w23) ∧
 Apt (names w20) d20 (names w137) (names w137) ∧
 Apt (names []) (rdA v1) (names w137) (names w137) ∧
 Apt (names w23) (names w23) (names w137) (names w137) ∧
 Apt (names []) d25 (names w137) (names w137) ∧
 ∀ (fr_ : Regs) σ n, R (.pan v26) σ n)
def kd_law07_CheckKinds12 (σ : Hp) (v1 : AV) (n : Nat) (a0 : AV) (v14 : AV) (R : AEnd → Hp → Nat → Prop) (v13 : AV) (r : AEnd) (w20 : Wr) (d20 : List Nat) : Prop :=
 onEnd r (fun v20 =>
 bindP (aLd σ (some 7) v1) fun v22 =>
 bindH (hBsl σ (n + 16 * 3) 7 [(.int .i64 0), (.int .i64 0), (.int .i64 0), (.string ⟨#[]⟩), (.string ⟨#[]⟩), (.string ⟨#[]⟩), (.slice none 0 0)] 1 [(0, v22)]) fun v23 w23 =>
 bindP (aBuild [(.int .i64 0), (.int .i64 0), (.int .i64 0), (.string ⟨#[]⟩), (.string ⟨#[]⟩), (.string ⟨#[]⟩), (.slice none 0 0)] [(0, 1, (.sc (.int .i64 3))), (6, 1, v23)]) fun v24 =>
 callD Try.prog (.fn 14 []) [v20, v24, (.sc (.bool false))] (applyW (applyW σ w20) w23) (n + 16 * 5) (kd_law07_CheckKinds11 n σ w20 w23 d20 v1 a0 v14 R v13)) (fun v21 => bindP (aLd σ (some 7) v1) fun v138 =>
 bindH (hBsl σ (n + 16 * 3) 7 [(.int .i64 0), (.int .i64 0), (.int .i64 0), (.string ⟨#[]⟩), (.string ⟨#[]⟩), (.string ⟨#[]⟩), (.slice none 0 0)] 1 [(0, v138)]) fun v139 w139 =>
 bindP (aBuild [(.int .i64 0), (.int .i64 0), (.int .i64 0), (.string ⟨#[]⟩), (.string ⟨#[]⟩), (.string ⟨#[]⟩), (.slice none 0 0)] [(0, 1, (.sc (.int .i64 3))), (6, 1, v139)]) fun v140 =>
 bindH (hAlloc (n + 16 * 10) [(.int .i64 0), (.int .i64 0), (.int .i64 0), (.string ⟨#[]⟩), (.string ⟨#[]⟩), (.string ⟨#[]⟩), (.slice none 0 0)]) fun v141 w141 =>
 Apt (names []) d20 (names []) (rdA v1) ∧
 Apt (names []) d20 (names w139) (names w139) ∧
 Apt (names []) d20 (names w141) (names w141) ∧
 Apt (names []) (rdA v1) (names w141) (names w141) ∧
 Apt (names w139) (names w139) (names w141) (names w141) ∧
 Apt (names []) [] (names w141) (names w141) ∧
 ∀ (fr_ : Regs) σ n, R (.pan v21) σ n)
def kd_law07_CheckKinds13 (n : Nat) (σ : Hp) (w6 : Wr) (d6 : List Nat) (v1 : AV) (a0 : AV) (R : AEnd → Hp → Nat → Prop) (r : AEnd) (w9 : Wr) (d9 : List Nat) : Prop :=
 onEnd r (fun v9 =>
 bindP (aExt v9 0) fun v12 =>
 bindP (aExt v9 1) fun v13 =>
 bindP (aExt v9 2) fun v14 =>
 bindH (hAlloc (n + 16 * 8) [(.int .i64 0), (.int .i64 0), (.int .i64 0), (.string ⟨#[]⟩), (.string ⟨#[]⟩), (.string ⟨#[]⟩), (.slice none 0 0)]) fun v15 w15 =>
 bindH (hSt (applyW (applyW (applyW σ w6) w9) w15) 7 v15 v12) fun v16 w16 =>
 Apt (names w6) d6 (names []) (rdA v1) ∧
 Apt (names w6) d6 (names w15) (names w15) ∧
 Apt (names []) (rdA v1) (names w15) (names w15) ∧
 Apt (names w9) d9 (names w15) (names w15) ∧
 ∀ n_, n + 16 * 12 ≤ n_ → (fun n => (fun σ => callD Try.prog (.fn 15 []) [a0] σ (n + 16 * 1) (kd_law07_CheckKinds12 σ v1 n a0 v14 R v13)) (applyW (applyW (applyW (applyW σ w6) w9) w15) w16)) n_) (fun v10 => bindH (hAlloc (n + 16 * 8) [(.int .i64 0), (.int .i64 0), (.int .i64 0), (.string ⟨#[]⟩), (.string ⟨#[]⟩), (.string ⟨#[]⟩), (.slice none 0 0)]) fun v142 w142 =>
 Apt (names w6) d6 (names []) (rdA v1) ∧
 Apt (names w6) d6 (names w142) (names w142) ∧
 Apt (names []) (rdA v1) (names w142) (names w142) ∧
 Apt (names []) d9 (names w142) (names w142) ∧
 ∀ (fr_ : Regs) σ n, R (.pan v10) σ n)
def kd_law07_CheckKinds14 (σ : Hp) (v1 : AV) (n : Nat) (a0 : AV) (R : AEnd → Hp → Nat → Prop) (r : AEnd) (w6 : Wr) (d6 : List Nat) : Prop :=
 onEnd r (fun v6 =>
 bindP (aLd σ (some 7) v1) fun v8 =>
 callD Try.prog (.fn 14 []) [v6, v8, (.sc (.bool false))] (applyW σ w6) (n + 16 * 3) (kd_law07_CheckKinds13 n σ w6 d6 v1 a0 R)) (fun v7 => bindP (aLd σ (some 7) v1) fun v143 =>
 bindH (hAlloc (n + 16 * 8) [(.int .i64 0), (.int .i64 0), (.int .i64 0), (.string ⟨#[]⟩), (.string ⟨#[]⟩), (.string ⟨#[]⟩), (.slice none 0 0)]) fun v144 w144 =>
 Apt (names []) d6 (names []) (rdA v1) ∧
 Apt (names []) d6 (names w144) (names w144) ∧
 Apt (names []) (rdA v1) (names w144) (names w144) ∧
 Apt (names []) [] (names w144) (names w144) ∧
 ∀ (fr_ : Regs) σ n, R (.pan v7) σ n)
def kc_law07_CheckKinds15 (R : AEnd → Hp → Nat → Prop) (a0 : AV) (v1 : AV) (r : AEnd) (σ : Hp) (n : Nat) : Prop :=
 onEnd r (fun v2 =>
 bindP (aUn .not v2) fun v4 =>
 COND v4 (
 R (.ret (.sc (.bool false))) σ n) (
 callD Try.prog (.fn 15 []) [a0] σ (n + 16 * 1) (kd_law07_CheckKinds14 σ v1 n a0 R))) (fun v3 => R (.pan v3) σ n)
attribute [go_sem] kc_law07_CheckKinds1 kc_law07_CheckKinds2 kc_law07_CheckKinds3 kc_law07_CheckKinds4 kc_law07_CheckKinds5 kc_law07_CheckKinds6 kc_law07_CheckKinds7 kc_law07_CheckKinds8 kd_law07_CheckKinds9 kd_law07_CheckKinds10 kd_law07_CheckKinds11 kd_law07_CheckKinds12 kd_law07_CheckKinds13 kd_law07_CheckKinds14 kc_law07_CheckKinds15
def sc_law07_CheckKinds : SCode := (.seq (.reg [
   ⟨(some 3), none, (.box (.t 1))⟩,
    ⟨(some 4), none, (.mv (.c (.sc (.bool false))))⟩]) (.seq (.seq (.reg [
   ⟨(some 15), none, (.call (.c (.fn 19 [])) [])⟩,
    ⟨(some 16), none, (.un .not (.t 15))⟩]) (.cond (.t 16) (.seq (.reg [
   ⟨(some 4), none, (.mv (.c (.sc (.bool false))))⟩]) .ret) .skip)) (.seq (.regD [(⟨(some 18), none, (.mv (.t 0))⟩, []), (⟨(some 19), none, (.call (.c (.fn 15 [])) [(.t 18)])⟩, [0]), (⟨(some 20), none, (.ld (some 7) (.t 3))⟩, []), (⟨(some 21), none, (.call (.c (.fn 14 [])) [(.t 19), (.t 20), (.c (.sc (.bool false)))])⟩, [1, 0, 2]), (⟨(some 17), none, (.mv (.t 21))⟩, [3, 1, 0, 2]), (⟨(some 22), none, (.ext (.t 17) 0)⟩, [4, 3, 1, 0, 2]), (⟨(some 23), none, (.ext (.t 17) 1)⟩, [4, 3, 1, 0, 2]), (⟨(some 24), none, (.ext (.t 17) 2)⟩, [4, 3, 1, 0, 2]), (⟨(some 5), none, (.alloc [(.int .i64 0), (.int .i64 0), (.int .i64 0), (.string ⟨#[]⟩), (.string ⟨#[]⟩), (.string ⟨#[]⟩), (.slice none 0 0)])⟩, []), (⟨none, none, (.st 7 (.t 5) (.t 22))⟩, [8, 5, 4, 3, 1, 0, 2]), (⟨(some 6), none, (.mv (.t 23))⟩, [6, 4, 3, 1, 0, 2, 9, 8, 5]), (⟨(some 7), none, (.mv (.t 24))⟩, [7, 4, 3, 1, 0, 2, 10, 6, 9, 8, 5])]) (.seq (.regD [(⟨(some 26), none, (.mv (.t 0))⟩, []), (⟨(some 27), none, (.call (.c (.fn 15 [])) [(.t 26)])⟩, [0]), (⟨(some 28), none, (.ld (some 7) (.t 3))⟩, []), (⟨(some 29), none, (.bsl 7 [(.int .i64 0), (.int .i64 0), (.int .i64 0), (.string ⟨#[]⟩), (.string ⟨#[]⟩), (.string ⟨#[]⟩), (.slice none 0 0)] 1 [(0, (.t 28))])⟩, [2]), (⟨(some 30), none, (.build [(.int .i64 0), (.int .i64 0), (.int .i64 0), (.string ⟨#[]⟩), (.string ⟨#[]⟩), (.string ⟨#[]⟩), (.slice none 0 0)] [(0, (1, (.c (.sc (.int .i64 3))))), (6, (1, (.t 29)))])⟩, [3, 2]), (⟨(some 31), none, (.call (.c (.fn 14 [])) [(.t 27), (.t 30), (.c (.sc (.bool false)))])⟩, [1, 0, 4, 3, 2]), (⟨(some 25), none, (.mv (.t 31))⟩, [5, 1, 0, 4, 3, 2]), (⟨(some 32), none, (.ext (.t 25) 0)⟩, [6, 5, 1, 0, 4, 3, 2]), (⟨(some 33), none, (.ext (.t 25) 1)⟩, [6, 5, 1, 0, 4, 3, 2]), (⟨(some 34), none, (.ext (.t 25) 2)⟩, [6, 5, 1, 0, 4, 3, 2]), (⟨(some 8), none, (.alloc [(.int .i64 0), (.int .i64 0), (.int .i64 0), (.string ⟨#[]⟩), (.string ⟨#[]⟩), (.string ⟨#[]⟩), (.slice none 0 0)])⟩, []), (⟨none, none, (.st 7 (.t 8) (.t 32))⟩, [10, 7, 6, 5, 1, 0, 4, 3, 2]), (⟨(some 9), none, (.mv (.t 33))⟩, [8, 6, 5, 1, 0, 4, 3, 2, 11, 10, 7]), (⟨(some 10), none, (.mv (.t 34))⟩, [9, 6, 5, 1, 0, 4, 3, 2, 12, 8, 11, 10, 7])]) (.seq (.regD [(⟨(some 36), none, (.mv (.t 0))⟩, []), (⟨(some 37), none, (.call (.c (.fn 15 [])) [(.t 36)])⟩, [0]), (⟨(some 38), none, (.ld (some 7) (.t 3))⟩, []), (⟨(some 39), none, (.bsl 7 [(.int .i64 0), (.int .i64 0), (.int .i64 0), (.string ⟨#[]⟩), (.string ⟨#[]⟩), (.string ⟨#[]⟩), (.slice none 0 0)] 1 [(0, (.t 38))])⟩, [2]), (⟨(some 40), none, (.build [(.int .i64 0), (.int .i64 0), (.int .i64 0), (.string ⟨#[]⟩), (.string ⟨#[]⟩), (.string ⟨#[]⟩), (.slice none 0 0)] [(0, (1, (.c (.sc (.int .i64 2))))), (6, (1, (.t 39)))])⟩, [3, 2]), (⟨(some 41), none, (.call (.c (.fn 14 [])) [(.t 37), (.t 40), (.c (.sc (.bool false)))])⟩, [1, 0, 4, 3, 2]), (⟨(some 35), none, (.mv (.t 41))⟩, [5, 1, 0, 4, 3, 2]), (⟨(some 42), none, (.ext (.t 35) 0)⟩, [6, 5, 1, 0, 4, 3, 2]), (⟨(some 43), none, (.ext (.t 35) 1)⟩, [6, 5, 1, 0, 4, 3, 2]), (⟨(some 44), none, (.ext (.t 35) 2)⟩, [6, 5, 1, 0, 4, 3, 2]), (⟨(some 11), none, (.alloc [(.int .i64 0), (.int .i64 0), (.int .i64 0), (.string ⟨#[]⟩), (.string ⟨#[]⟩), (.string ⟨#[]⟩), (.slice none 0 0)])⟩, []), (⟨none, none, (.st 7 (.t 11) (.t 42))⟩, [10, 7, 6, 5, 1, 0, 4, 3, 2]), (⟨(some 12), none, (.mv (.t 43))⟩, [8, 6, 5, 1, 0, 4, 3, 2, 11, 10, 7]), (⟨(some 13), none, (.mv (.t 44))⟩, [9, 6, 5, 1, 0, 4, 3, 2, 12, 8, 11, 10, 7])]) (.seq (.seq (.reg [
   ⟨(some 45), none, (.mv (.t 7))⟩,
    ⟨(some 46), none, (.call (.c (.fn 18 [])) [(.t 45)])⟩,
    ⟨(some 47), none, (.bin .neq (.t 46) (.c (.sc (.int .i64 0))))⟩]) (.cond (.t 47) (.seq (.reg [
   ⟨(some 48), none, (.mv (.t 10))⟩,
    ⟨(some 49), none, (.call (.c (.fn 18 [])) [(.t 48)])⟩,
    ⟨(some 50), none, (.bin .neq (.t 49) (.c (.sc (.int .i64 0))))⟩,
    ⟨(some 51), none, (.mv (.t 50))⟩,
    ⟨(some 52), (some (51, true)), (.mv (.t 13))⟩,
    ⟨(some 53), (some (51, true)), (.call (.c (.fn 18 [])) [(.t 52)])⟩,
    ⟨(some 54), (some (51, true)), (.bin .neq (.t 53) (.c (.sc (.int .i64 0))))⟩,
    ⟨(some 55), none, (.pick (.t 51) (.t 54) (.c (.sc (.bool false))))⟩,
    ⟨(some 4), none, (.mv (.t 55))⟩]) .ret) .skip)) (.seq (.seq (.reg [
   ⟨(some 56), none, (.mv (.t 10))⟩,
    ⟨(some 57), none, (.call (.c (.fn 18 [])) [(.t 56)])⟩,
    ⟨(some 58), none, (.bin .neq (.t 57) (.c (.sc (.int .i64 0))))⟩,
    ⟨(some 59), none, (.mv (.t 58))⟩,
    ⟨(some 60), (some (59, true)), (.mv (.t 10))⟩,
    ⟨(some 61), (some (59, true)), (.bin .neq (.t 60) (.c (.sc (.int .i64 81))))⟩,
    ⟨(some 62), none, (.pick (.t 59) (.t 61) (.c (.sc (.bool false))))⟩,
    ⟨(some 63), none, (.mv (.t 62))⟩,
    ⟨(some 64), (some (63, false)), (.mv (.t 13))⟩,
    ⟨(some 65), (some (63, false)), (.call (.c (.fn 18 [])) [(.t 64)])⟩,
    ⟨(some 66), (some (63, false)), (.bin .neq (.t 65) (.c (.sc (.int .i64 0))))⟩,
    ⟨(some 67), (some (63, false)), (.mv (.t 66))⟩,
    ⟨(some 68), (some (67, true)), (.mv (.t 13))⟩,
    ⟨(some 69), (some (67, true)), (.bin .neq (.t 68) (.c (.sc (.int .i64 81))))⟩,
    ⟨(some 70), (some (63, false)), (.pick (.t 67) (.t 69) (.c (.sc (.bool false))))⟩,
    ⟨(some 71), none, (.pick (.t 63) (.c (.sc (.bool true))) (.t 70))⟩]) (.cond (.t 71) (.seq (.reg [
   ⟨(some 72), none, (.mv (.t 10))⟩,
    ⟨(some 73), none, (.mv (.t 13))⟩,
    ⟨(some 74), none, (.bin .eql (.t 72) (.t 73))⟩,
    ⟨(some 75), none, (.mv (.t 74))⟩,
    ⟨(some 76), (some (75, true)), (.mv (.t 10))⟩,
    ⟨(some 77), (some (75, true)), (.bin .eql (.t 76) (.c (.sc (.int .i64 10))))⟩,
    ⟨(some 78), (some (75, true)), (.mv (.t 77))⟩,
    ⟨(some 79), (some (78, false)), (.mv (.t 10))⟩,
    ⟨(some 80), (some (78, false)), (.bin .eql (.t 79) (.c (.sc (.int .i64 3))))⟩,
    ⟨(some 81), (some (75, true)), (.pick (.t 78) (.c (.sc (.bool true))) (.t 80))⟩,
    ⟨(some 82), none, (.pick (.t 75) (.t 81) (.c (.sc (.bool false))))⟩,
    ⟨(some 4), none, (.mv (.t 82))⟩]) .ret) .skip)) (.seq (.reg [
   ⟨(some 83), none, (.mv (.t 10))⟩,
    ⟨(some 84), none, (.call (.c (.fn 18 [])) [(.t 83)])⟩,
    ⟨(some 85), none, (.bin .eql (.t 84) (.c (.sc (.int .i64 0))))⟩,
    ⟨(some 14), none, (.mv (.t 85))⟩]) (.seq (.seq (.reg [
   ⟨(some 86), none, (.mv (.t 14))⟩,
    ⟨(some 87), none, (.mv (.t 6))⟩,
    ⟨(some 88), none, (.bin .eql (.t 87) (.c (.sc (.int .i64 0))))⟩,
    ⟨(some 89), none, (.mv (.t 88))⟩,
    ⟨(some 90), (some (89, false)), (.mv (.t 6))⟩,
    ⟨(some 91), (some (89, false)), (.bin .eql (.t 90) (.c (.sc (.int .i64 2))))⟩,
    ⟨(some 92), none, (.pick (.t 89) (.c (.sc (.bool true))) (.t 91))⟩,
    ⟨(some 93), none, (.eqb true (.t 86) (.t 92))⟩,
    ⟨(some 94), none, (.mv (.t 93))⟩,
    ⟨(some 95), (some (94, false)), (.mv (.t 13))⟩,
    ⟨(some 96), (some (94, false)), (.call (.c (.fn 18 [])) [(.t 95)])⟩,
    ⟨(some 97), (some (94, false)), (.bin .eql (.t 96) (.c (.sc (.int .i64 0))))⟩,
    ⟨(some 98), (some (94, false)), (.mv (.t 6))⟩,
    ⟨(some 99), (some (94, false)), (.bin .eql (.t 98) (.c (.sc (.int .i64 0))))⟩,
    ⟨(some 100), (some (94, false)), (.mv (.t 99))⟩,
    ⟨(some 101), (some (100, false)), (.mv (.t 6))⟩,
    ⟨(some 102), (some (100, false)), (.bin .eql (.t 101) (.c (.sc (.int .i64 1))))⟩,
    ⟨(some 103), (some (94, false)), (.pick (.t 100) (.c (.sc (.bool true))) (.t 102))⟩,
    ⟨(some 104), (some (94, false)), (.eqb true (.t 97) (.t 103))⟩,
    ⟨(some 105), none, (.pick (.t 94) (.c (.sc (.bool true))) (.t 104))⟩]) (.cond (.t 105) (.seq (.reg [
   ⟨(some 4), none, (.mv (.c (.sc (.bool false))))⟩]) .ret) .skip)) (.seq (.reg [
   ⟨(some 106), none, (.mv (.t 14))⟩,
    ⟨(some 107), none, (.un .not (.t 106))⟩,
    ⟨(some 108), none, (.mv (.t 107))⟩,
    ⟨(some 109), (some (108, false)), (.mv (.t 9))⟩,
    ⟨(some 110), (some (108, false)), (.bin .eql (.t 109) (.c (.sc (.int .i64 2))))⟩,
    ⟨(some 111), (some (108, false)), (.mv (.t 110))⟩,
    ⟨(some 112), (some (111, true)), (.fad 0 (.t 8))⟩,
    ⟨(some 113), (some (111, true)), (.ld none (.t 112))⟩,
    ⟨(some 114), (some (111, true)), (.bin .eql (.t 113) (.c (.sc (.int .i64 3))))⟩,
    ⟨(some 115), (some (108, false)), (.pick (.t 111) (.t 114) (.c (.sc (.bool false))))⟩,
    ⟨(some 116), none, (.pick (.t 108) (.c (.sc (.bool true))) (.t 115))⟩,
    ⟨(some 117), none, (.mv (.t 116))⟩,
    ⟨(some 118), (some (117, true)), (.mv (.t 13))⟩,
    ⟨(some 119), (some (117, true)), (.call (.c (.fn 18 [])) [(.t 118)])⟩,
    ⟨(some 120), (some (117, true)), (.bin .neq (.t 119) (.c (.sc (.int .i64 0))))⟩,
    ⟨(some 121), (some (117, true)), (.mv (.t 120))⟩,
    ⟨(some 122), (some (121, false)), (.mv (.t 12))⟩,
    ⟨(some 123), (some (121, false)), (.bin .eql (.t 122) (.c (.sc (.int .i64 1))))⟩,
    ⟨(some 124), (some (121, false)), (.mv (.t 123))⟩,
    ⟨(some 125), (some (124, true)), (.fad 0 (.t 11))⟩,
    ⟨(some 126), (some (124, true)), (.ld none (.t 125))⟩,
    ⟨(some 127), (some (124, true)), (.bin .eql (.t 126) (.c (.sc (.int .i64 2))))⟩,
    ⟨(some 128), (some (121, false)), (.pick (.t 124) (.t 127) (.c (.sc (.bool false))))⟩,
    ⟨(some 129), (some (117, true)), (.pick (.t 121) (.c (.sc (.bool true))) (.t 128))⟩,
    ⟨(some 130), none, (.pick (.t 117) (.t 129) (.c (.sc (.bool false))))⟩,
    ⟨(some 4), none, (.mv (.t 130))⟩]) .ret))))))))))
def sh_law07_CheckKinds (a0 a1 : AV) (σ : Hp) (n : Nat) (R : AEnd → Hp → Nat → Prop) : Prop :=
 bindS (hBox n a1) σ n fun v1 σ n =>
 CALL Try.prog (.fn 19 []) [] σ n (kc_law07_CheckKinds15 R a0 v1)
theorem se_law07_CheckKinds (a0 a1 : AV) (σ : Hp) (n : Nat) (R : AEnd → Hp → Nat → Prop) : sh_law07_CheckKinds a0 a1 σ n R = swp Try.prog sc_law07_CheckKinds (retQ [(.t 4)] R) (entry [a0, a1]) σ n := by kernel_rfl
theorem by_law07_CheckKinds {a0 a1 : AV} {σ : Hp} {n : Nat} {R : AEnd → Hp → Nat → Prop} (h : sh_law07_CheckKinds a0 a1 σ n R) : ConH Try.prog 5 [a0, a1] σ n R := by
  rw [se_law07_CheckKinds] at h
  exact conH_of [(.t 4)] (fn := Try.f5) rfl [1, 16, 0, 3, 7, 47, 71, 10, 6, 105, 14, 9, 8, 13, 12, 11, 4] (by kernel_rfl) (by kernel_rfl) (by kernel_rfl) (by kernel_rfl) h
/-- switchback/switchbackplain.CopyExpr -/
def kc_plain_CopyExpr1 (v1 : AV) (v2 : AV) (R : AEnd → Hp → Nat → Prop) (r : AEnd) (σ : Hp) (n : Nat) : Prop :=
 onEnd r (fun v5 =>
 bindP (aFad 6 v1) fun v7 =>
 bindS (hSt σ 1 v7 v5) σ n fun v8 σ n =>
 bindP (aLd σ (some 7) v1) fun v9 =>
 bindS (hSt σ 7 v2 v9) σ n fun v10 σ n =>
 bindP (aLd σ (some 7) v2) fun v11 =>
 R (.ret v11) σ n) (fun v6 => R (.pan v6) σ n)
attribute [go_sem] kc_plain_CopyExpr1
def sc_plain_CopyExpr : SCode := (.seq (.reg [
   ⟨(some 1), none, (.box (.t 0))⟩,
    ⟨(some 2), none, (.alloc [(.int .i64 0), (.int .i64 0), (.int .i64 0), (.string ⟨#[]⟩), (.string ⟨#[]⟩), (.string ⟨#[]⟩), (.slice none 0 0)])⟩]) (.seq (.reg [
   ⟨(some 3), none, (.fad 6 (.t 1))⟩,
    ⟨(some 4), none, (.ld none (.t 3))⟩,
    ⟨(some 5), none, (.call (.c (.fn 48 [])) [(.t 4)])⟩,
    ⟨(some 6), none, (.fad 6 (.t 1))⟩,
    ⟨none, none, (.st 1 (.t 6) (.t 5))⟩]) (.seq (.reg [
   ⟨(some 7), none, (.ld (some 7) (.t 1))⟩,
    ⟨none, none, (.st 7 (.t 2) (.t 7))⟩]) .ret)))
def sh_plain_CopyExpr (a0 : AV) (σ : Hp) (n : Nat) (R : AEnd → Hp → Nat → Prop) : Prop :=
 bindS (hBox n a0) σ n fun v1 σ n =>
 bindS (hAlloc n [(.int .i64 0), (.int .i64 0), (.int .i64 0), (.string ⟨#[]⟩), (.string ⟨#[]⟩), (.string ⟨#[]⟩), (.slice none 0 0)]) σ n fun v2 σ n =>
 bindP (aFad 6 v1) fun v3 =>
 bindP (aLd σ none v3) fun v4 =>
 CALL Try.prog (.fn 48 []) [v4] σ n (kc_plain_CopyExpr1 v1 v2 R)
theorem se_plain_CopyExpr (a0 : AV) (σ : Hp) (n : Nat) (R : AEnd → Hp → Nat → Prop) : sh_plain_CopyExpr a0 σ n R = swp Try.prog sc_plain_CopyExpr (retQ [(.c 2 (some 7))] R) (entry [a0]) σ n := by kernel_rfl
theorem by_plain_CopyExpr {a0 : AV} {σ : Hp} {n : Nat} {R : AEnd → Hp → Nat → Prop} (h : sh_plain_CopyExpr a0 σ n R) : ConH Try.prog 13 [a0] σ n R := by
  rw [se_plain_CopyExpr] at h
  exact conH_of [(.c 2 (some 7))] (fn := Try.f13) rfl [0, 1, 2] (by kernel_rfl) (by kernel_rfl) (by kernel_rfl) (by kernel_rfl) h
/-- switchback/switchbackplain.CopyExprs -/
def kc_plain_CopyExprs1 (s1 : List AV) (K1 : List AV → Hp → Nat → Prop) (v3 : AV) (R : AEnd → Hp → Nat → Prop) (r : AEnd) (σ : Hp) (n : Nat) : Prop :=
 onEnd r (fun v6 =>
 bindS (hBsl σ n 7 [(.int .i64 0), (.int .i64 0), (.int .i64 0), (.string ⟨#[]⟩), (.string ⟨#[]⟩), (.string ⟨#[]⟩), (.slice none 0 0)] 1 [(0, v6)]) σ n fun v8 σ n =>
 bindS (hApp σ n 7 96 (s1.getD 1 .any) v8) σ n fun v9 σ n =>
 bindP (semBin .add (s1.getD 2 .any) (.sc (.int .i64 1))) fun v10 =>
 K1 [v3, v9, v10] σ n) (fun v7 => R (.pan v7) σ n)
def lb_plain_CopyExprs2 (a0 : AV) (R : AEnd → Hp → Nat → Prop) (K1 : List AV → Hp → Nat → Prop) (s1 : List AV) (σ : Hp) (n : Nat) : Prop :=
 bindP (aLen false a0) fun v2 => bnd σ a0 →
 bindP (semBin .lss (s1.getD 2 .any) v2) fun v3 =>
 COND v3 (
 bindP (aIad 7 a0 (s1.getD 2 .any)) fun v4 =>
 bindP (aLd σ (some 7) v4) fun v5 =>
 CALL Try.prog (.fn 13 []) [v5] σ n (kc_plain_CopyExprs1 s1 K1 v3 R)) (
 R (.ret (s1.getD 1 .any)) σ n)
attribute [go_sem] kc_plain_CopyExprs1 lb_plain_CopyExprs2
def sc_plain_CopyExprs : SCode := (.seq (.reg [
   ⟨(some 2), none, (.mv (.c .em))⟩]) (.seq (.reg [
   ⟨(some 3), none, (.mv (.c .em))⟩]) (.seq (.seq (.reg [
   ⟨(some 4), none, (.mv (.c (.sc (.int .i64 0))))⟩]) (.block 0 (.loop [8, 3, 4] [5, 6, 7, 8, 11, 12, 13, 14, 15, 16, 17, 18, 3, 9, 10, 4] (.seq (.seq (.reg [
   ⟨(some 5), none, (.mv (.t 4))⟩,
    ⟨(some 6), none, (.mv (.t 0))⟩,
    ⟨(some 7), none, (.len false (.t 6))⟩,
    ⟨(some 8), none, (.bin .lss (.t 5) (.t 7))⟩]) (.cond (.t 8) .skip (.exit 0))) (.seq (.block 1 (.reg [
   ⟨(some 11), none, (.mv (.t 3))⟩,
    ⟨(some 12), none, (.mv (.t 0))⟩,
    ⟨(some 13), none, (.mv (.t 4))⟩,
    ⟨(some 14), none, (.iad 7 (.t 12) (.t 13))⟩,
    ⟨(some 15), none, (.ld (some 7) (.t 14))⟩,
    ⟨(some 16), none, (.call (.c (.fn 13 [])) [(.t 15)])⟩,
    ⟨(some 17), none, (.bsl 7 [(.int .i64 0), (.int .i64 0), (.int .i64 0), (.string ⟨#[]⟩), (.string ⟨#[]⟩), (.string ⟨#[]⟩), (.slice none 0 0)] 1 [(0, (.t 16))])⟩,
    ⟨(some 18), none, (.app 7 96 (.t 11) (.t 17))⟩,
    ⟨(some 3), none, (.mv (.t 18))⟩])) (.reg [
   ⟨(some 9), none, (.mv (.t 4))⟩,
    ⟨(some 10), none, (.bin .add (.t 9) (.c (.sc (.int .i64 1))))⟩,
    ⟨(some 4), none, (.mv (.t 10))⟩])))))) (.seq (.reg [
   ⟨(some 19), none, (.mv (.t 3))⟩,
    ⟨(some 2), none, (.mv (.t 19))⟩]) .ret))))
def sh_plain_CopyExprs (a0 : AV) (σ : Hp) (n : Nat) (R : AEnd → Hp → Nat → Prop) : Prop :=
 LOOP (lb_plain_CopyExprs2 a0 R) [(.tp []), .em, (.sc (.int .i64 0))] σ n
theorem se_plain_CopyExprs (a0 : AV) (σ : Hp) (n : Nat) (R : AEnd → Hp → Nat → Prop) : sh_plain_CopyExprs a0 σ n R = swp Try.prog sc_plain_CopyExprs (retQ [(.t 2)] R) (entry [a0]) σ n := by kernel_rfl
theorem by_plain_CopyExprs {a0 : AV} {σ : Hp} {n : Nat} {R : AEnd → Hp → Nat → Prop} (h : sh_plain_CopyExprs a0 σ n R) : ConH Try.prog 48 [a0] σ n R := by
  rw [se_plain_CopyExprs] at h
  exact conH_of [(.t 2)] (fn := Try.f48) rfl [8, 0, 4, 3, 2] (by kernel_rfl) (by kernel_rfl) (by kernel_rfl) (by kernel_rfl) h
/-- switchback/switchbacklaw07.tables -/
def kc_law07_tables1 (s1 : List AV) (K1 : List AV → Hp → Nat → Prop) (v3 : AV) (R : AEnd → Hp → Nat → Prop) (r : AEnd) (σ : Hp) (n : Nat) : Prop :=
 onEnd r (fun v6 =>
 bindS (hBsl σ n 4 [(.string ⟨#[]⟩), (.slice none 0 0), (.int .i64 0), (.slice none 0 0)] 1 [(0, v6)]) σ n fun v8 σ n =>
 bindS (hApp σ n 4 72 (s1.getD 1 .any) v8) σ n fun v9 σ n =>
 bindP (semBin .add (s1.getD 2 .any) (.sc (.int .i64 1))) fun v10 =>
 K1 [v3, v9, v10] σ n) (fun v7 => R (.pan v7) σ n)
def lb_law07_tables2 (a0 : AV) (R : AEnd → Hp → Nat → Prop) (K1 : List AV → Hp → Nat → Prop) (s1 : List AV) (σ : Hp) (n : Nat) : Prop :=
 bindP (aLen false a0) fun v2 => bnd σ a0 →
 bindP (semBin .lss (s1.getD 2 .any) v2) fun v3 =>
 COND v3 (
 bindP (aIad 4 a0 (s1.getD 2 .any)) fun v4 =>
 bindP (aLd σ (some 4) v4) fun v5 =>
 CALL Try.prog (.fn 27 []) [v5] σ n (kc_law07_tables1 s1 K1 v3 R)) (
 R (.ret (s1.getD 1 .any)) σ n)
attribute [go_sem] kc_law07_tables1 lb_law07_tables2
def sc_law07_tables : SCode := (.seq (.reg [
   ⟨(some 2), none, (.mv (.c .em))⟩]) (.seq (.reg [
   ⟨(some 3), none, (.mv (.c .em))⟩]) (.seq (.seq (.reg [
   ⟨(some 4), none, (.mv (.c (.sc (.int .i64 0))))⟩]) (.block 0 (.loop [8, 3, 4] [5, 6, 7, 8, 11, 12, 13, 14, 15, 16, 17, 18, 3, 9, 10, 4] (.seq (.seq (.reg [
   ⟨(some 5), none, (.mv (.t 4))⟩,
    ⟨(some 6), none, (.mv (.t 0))⟩,
    ⟨(some 7), none, (.len false (.t 6))⟩,
    ⟨(some 8), none, (.bin .lss (.t 5) (.t 7))⟩]) (.cond (.t 8) .skip (.exit 0))) (.seq (.block 1 (.reg [
   ⟨(some 11), none, (.mv (.t 3))⟩,
    ⟨(some 12), none, (.mv (.t 0))⟩,
    ⟨(some 13), none, (.mv (.t 4))⟩,
    ⟨(some 14), none, (.iad 4 (.t 12) (.t 13))⟩,
    ⟨(some 15), none, (.ld (some 4) (.t 14))⟩,
    ⟨(some 16), none, (.call (.c (.fn 27 [])) [(.t 15)])⟩,
    ⟨(some 17), none, (.bsl 4 [(.string ⟨#[]⟩), (.slice none 0 0), (.int .i64 0), (.slice none 0 0)] 1 [(0, (.t 16))])⟩,
    ⟨(some 18), none, (.app 4 72 (.t 11) (.t 17))⟩,
    ⟨(some 3), none, (.mv (.t 18))⟩])) (.reg [
   ⟨(some 9), none, (.mv (.t 4))⟩,
    ⟨(some 10), none, (.bin .add (.t 9) (.c (.sc (.int .i64 1))))⟩,
    ⟨(some 4), none, (.mv (.t 10))⟩])))))) (.seq (.reg [
   ⟨(some 19), none, (.mv (.t 3))⟩,
    ⟨(some 2), none, (.mv (.t 19))⟩]) .ret))))
def sh_law07_tables (a0 : AV) (σ : Hp) (n : Nat) (R : AEnd → Hp → Nat → Prop) : Prop :=
 LOOP (lb_law07_tables2 a0 R) [(.tp []), .em, (.sc (.int .i64 0))] σ n
theorem se_law07_tables (a0 : AV) (σ : Hp) (n : Nat) (R : AEnd → Hp → Nat → Prop) : sh_law07_tables a0 σ n R = swp Try.prog sc_law07_tables (retQ [(.t 2)] R) (entry [a0]) σ n := by kernel_rfl
theorem by_law07_tables {a0 : AV} {σ : Hp} {n : Nat} {R : AEnd → Hp → Nat → Prop} (h : sh_law07_tables a0 σ n R) : ConH Try.prog 15 [a0] σ n R := by
  rw [se_law07_tables] at h
  exact conH_of [(.t 2)] (fn := Try.f15) rfl [8, 0, 4, 3, 2] (by kernel_rfl) (by kernel_rfl) (by kernel_rfl) (by kernel_rfl) h
/-- switchback/switchbackref07.Expr -/
def kc_ref07_Expr1 (v2 : AV) (R : AEnd → Hp → Nat → Prop) (r : AEnd) (σ : Hp) (n : Nat) : Prop :=
 onEnd r (fun v20 =>
 bindP (aExt v20 0) fun v22 =>
 bindP (aExt v20 1) fun v23 =>
 bindP (aExt v20 2) fun v24 =>
 bindS (hSt σ 7 v2 v22) σ n fun v25 σ n =>
 bindP (aLd σ (some 7) v2) fun v26 =>
 R (.ret (.tp [v26, v23, v24])) σ n) (fun v21 => R (.pan v21) σ n)
def kc_ref07_Expr2 (v2 : AV) (R : AEnd → Hp → Nat → Prop) (v1 : AV) (a0 : AV) (a2 : AV) (r : AEnd) (σ : Hp) (n : Nat) : Prop :=
 onEnd r (fun v13 =>
 bindP (semBin .neq v13 (.sc (.int .i64 0))) fun v15 =>
 COND v15 (
 bindP (aBuild [(.int .i64 0), (.int .i64 0), (.int .i64 0), (.string ⟨#[]⟩), (.string ⟨#[]⟩), (.string ⟨#[]⟩), (.slice none 0 0)] []) fun v16 =>
 bindS (hSt σ 7 v2 v16) σ n fun v17 σ n =>
 bindP (aLd σ (some 7) v2) fun v18 =>
 R (.ret (.tp [v18, (.sc (.int .i64 0)), v13])) σ n) (
 bindP (aLd σ (some 7) v1) fun v19 =>
 CALL Try.prog (.fn 54 []) [a0, v19, a2] σ n (kc_ref07_Expr1 v2 R))) (fun v14 => R (.pan v14) σ n)
attribute [go_sem] kc_ref07_Expr1 kc_ref07_Expr2
def sc_ref07_Expr : SCode := (.seq (.reg [
   ⟨(some 4), none, (.box (.t 1))⟩,
    ⟨(some 6), none, (.alloc [(.int .i64 0), (.int .i64 0), (.int .i64 0), (.string ⟨#[]⟩), (.string ⟨#[]⟩), (.string ⟨#[]⟩), (.slice none 0 0)])⟩,
    ⟨(some 7), none, (.mv (.c (.sc (.int .i64 0))))⟩,
    ⟨(some 8), none, (.mv (.c (.sc (.int .i64 0))))⟩]) (.seq (.seq (.reg [
   ⟨(some 10), none, (.mv (.t 0))⟩,
    ⟨(some 11), none, (.len false (.t 10))⟩,
    ⟨(some 12), none, (.bin .lss (.t 11) (.c (.sc (.int .i64 1))))⟩,
    ⟨(some 13), none, (.mv (.t 12))⟩,
    ⟨(some 14), (some (13, false)), (.mv (.t 0))⟩,
    ⟨(some 15), (some (13, false)), (.len false (.t 14))⟩,
    ⟨(some 16), (some (13, false)), (.bin .gtr (.t 15) (.c (.sc (.int .i64 2))))⟩,
    ⟨(some 17), none, (.pick (.t 13) (.c (.sc (.bool true))) (.t 16))⟩]) (.cond (.t 17) (.seq (.reg [
   ⟨(some 18), none, (.build [(.int .i64 0), (.int .i64 0), (.int .i64 0), (.string ⟨#[]⟩), (.string ⟨#[]⟩), (.string ⟨#[]⟩), (.slice none 0 0)] [])⟩,
    ⟨none, none, (.st 7 (.t 6) (.t 18))⟩,
    ⟨(some 7), none, (.mv (.c (.sc (.int .i64 0))))⟩,
    ⟨(some 8), none, (.mv (.c (.sc (.int .i64 3))))⟩]) .ret) .skip)) (.seq (.reg [
   ⟨(some 19), none, (.ld (some 7) (.t 4))⟩,
    ⟨(some 20), none, (.call (.c (.fn 53 [])) [(.t 19)])⟩,
    ⟨(some 9), none, (.mv (.t 20))⟩]) (.seq (.seq (.reg [
   ⟨(some 21), none, (.mv (.t 9))⟩,
    ⟨(some 22), none, (.bin .neq (.t 21) (.c (.sc (.int .i64 0))))⟩]) (.cond (.t 22) (.seq (.reg [
   ⟨(some 23), none, (.build [(.int .i64 0), (.int .i64 0), (.int .i64 0), (.string ⟨#[]⟩), (.string ⟨#[]⟩), (.string ⟨#[]⟩), (.slice none 0 0)] [])⟩,
    ⟨(some 24), none, (.mv (.t 9))⟩,
    ⟨none, none, (.st 7 (.t 6) (.t 23))⟩,
    ⟨(some 7), none, (.mv (.c (.sc (.int .i64 0))))⟩,
    ⟨(some 8), none, (.mv (.t 24))⟩]) .ret) .skip)) (.seq (.reg [
   ⟨(some 25), none, (.mv (.t 0))⟩,
    ⟨(some 26), none, (.ld (some 7) (.t 4))⟩,
    ⟨(some 27), none, (.mv (.t 2))⟩,
    ⟨(some 28), none, (.call (.c (.fn 54 [])) [(.t 25), (.t 26), (.t 27)])⟩,
    ⟨(some 29), none, (.ext (.t 28) 0)⟩,
    ⟨(some 30), none, (.ext (.t 28) 1)⟩,
    ⟨(some 31), none, (.ext (.t 28) 2)⟩,
    ⟨none, none, (.st 7 (.t 6) (.t 29))⟩,
    ⟨(some 7), none, (.mv (.t 30))⟩,
    ⟨(some 8), none, (.mv (.t 31))⟩]) .ret)))))
def sh_ref07_Expr (a0 a1 a2 : AV) (σ : Hp) (n : Nat) (R : AEnd → Hp → Nat → Prop) : Prop :=
 bindS (hBox n a1) σ n fun v1 σ n =>
 bindS (hAlloc n [(.int .i64 0), (.int .i64 0), (.int .i64 0), (.string ⟨#[]⟩), (.string ⟨#[]⟩), (.string ⟨#[]⟩), (.slice none 0 0)]) σ n fun v2 σ n =>
 bindP (aLen false a0) fun v3 => bnd σ a0 →
 bindP (semBin .lss v3 (.sc (.int .i64 1))) fun v4 =>
 guardP v4 false (some a0) fun v5 =>
 guardP v4 false (aLen false v5) fun v6 =>
 guardP v4 false (semBin .gtr v6 (.sc (.int .i64 2))) fun v7 =>
 bindP (aPick v4 (.sc (.bool true)) v7) fun v8 =>
 COND v8 (
 bindP (aBuild [(.int .i64 0), (.int .i64 0), (.int .i64 0), (.string ⟨#[]⟩), (.string ⟨#[]⟩), (.string ⟨#[]⟩), (.slice none 0 0)] []) fun v9 =>
 bindS (hSt σ 7 v2 v9) σ n fun v10 σ n =>
 bindP (aLd σ (some 7) v2) fun v11 =>
 R (.ret (.tp [v11, (.sc (.int .i64 0)), (.sc (.int .i64 3))])) σ n) (
 bindP (aLd σ (some 7) v1) fun v12 =>
 CALL Try.prog (.fn 53 []) [v12] σ n (kc_ref07_Expr2 v2 R v1 a0 a2))
theorem se_ref07_Expr (a0 a1 a2 : AV) (σ : Hp) (n : Nat) (R : AEnd → Hp → Nat → Prop) : sh_ref07_Expr a0 a1 a2 σ n R = swp Try.prog sc_ref07_Expr (retQ [(.c 6 (some 7)), (.t 7), (.t 8)] R) (entry [a0, a1, a2]) σ n := by kernel_rfl
theorem by_ref07_Expr {a0 a1 a2 : AV} {σ : Hp} {n : Nat} {R : AEnd → Hp → Nat → Prop} (h : sh_ref07_Expr a0 a1 a2 σ n R) : ConH Try.prog 16 [a0, a1, a2] σ n R := by
  rw [se_ref07_Expr] at h
  exact conH_of [(.c 6 (some 7)), (.t 7), (.t 8)] (fn := Try.f16) rfl [1, 17, 22, 9, 0, 4, 2, 6, 7, 8] (by kernel_rfl) (by kernel_rfl) (by kernel_rfl) (by kernel_rfl) h
/-- switchback/switchbackplain.SameExpr -/
def kc_plain_SameExpr1 (Kg : AV → Hp → Nat → Prop) (R : AEnd → Hp → Nat → Prop) (r : AEnd) (σ : Hp) (n : Nat) : Prop :=
 onEnd r (fun v31 =>
 Kg v31 σ n) (fun v32 => R (.pan v32) σ n)
attribute [go_sem] kc_plain_SameExpr1
def sc_plain_SameExpr : SCode := (.seq (.reg [
   ⟨(some 2), none, (.box (.t 0))⟩,
    ⟨(some 3), none, (.box (.t 1))⟩,
    ⟨(some 4), none, (.mv (.c (.sc (.bool false))))⟩]) (.seq (.reg [
   ⟨(some 5), none, (.fad 0 (.t 2))⟩,
    ⟨(some 6), none, (.ld none (.t 5))⟩,
    ⟨(some 7), none, (.fad 0 (.t 3))⟩,
    ⟨(some 8), none, (.ld none (.t 7))⟩,
    ⟨(some 9), none, (.bin .eql (.t 6) (.t 8))⟩,
    ⟨(some 10), none, (.mv (.t 9))⟩,
    ⟨(some 11), (some (10, true)), (.fad 1 (.t 2))⟩,
    ⟨(some 12), (some (10, true)), (.ld (some 3) (.t 11))⟩,
    ⟨(some 13), (some (10, true)), (.fad 1 (.t 3))⟩,
    ⟨(some 14), (some (10, true)), (.ld (some 3) (.t 13))⟩,
    ⟨(some 15), (some (10, true)), (.eqs [0, 0, 2] false (.t 12) (.t 14))⟩,
    ⟨(some 16), none, (.pick (.t 10) (.t 15) (.c (.sc (.bool false))))⟩,
    ⟨(some 17), none, (.mv (.t 16))⟩,
    ⟨(some 18), (some (17, true)), (.fad 4 (.t 2))⟩,
    ⟨(some 19), (some (17, true)), (.ld none (.t 18))⟩,
    ⟨(some 20), (some (17, true)), (.fad 4 (.t 3))⟩,
    ⟨(some 21), (some (17, true)), (.ld none (.t 20))⟩,
    ⟨(some 22), (some (17, true)), (.bin .eql (.t 19) (.t 21))⟩,
    ⟨(some 23), none, (.pick (.t 17) (.t 22) (.c (.sc (.bool false))))⟩,
    ⟨(some 24), none, (.mv (.t 23))⟩,
    ⟨(some 25), (some (24, true)), (.fad 5 (.t 2))⟩,
    ⟨(some 26), (some (24, true)), (.ld none (.t 25))⟩,
    ⟨(some 27), (some (24, true)), (.fad 5 (.t 3))⟩,
    ⟨(some 28), (some (24, true)), (.ld none (.t 27))⟩,
    ⟨(some 29), (some (24, true)), (.bin .eql (.t 26) (.t 28))⟩,
    ⟨(some 30), none, (.pick (.t 24) (.t 29) (.c (.sc (.bool false))))⟩,
    ⟨(some 31), none, (.mv (.t 30))⟩,
    ⟨(some 32), (some (31, true)), (.fad 6 (.t 2))⟩,
    ⟨(some 33), (some (31, true)), (.ld none (.t 32))⟩,
    ⟨(some 34), (some (31, true)), (.fad 6 (.t 3))⟩,
    ⟨(some 35), (some (31, true)), (.ld none (.t 34))⟩,
    ⟨(some 36), (some (31, true)), (.call (.c (.fn 55 [])) [(.t 33), (.t 35)])⟩,
    ⟨(some 37), none, (.pick (.t 31) (.t 36) (.c (.sc (.bool false))))⟩,
    ⟨(some 4), none, (.mv (.t 37))⟩]) .ret))
def sh_plain_SameExpr (a0 a1 : AV) (σ : Hp) (n : Nat) (R : AEnd → Hp → Nat → Prop) : Prop :=
 bindS (hBox n a0) σ n fun v1 σ n =>
 bindS (hBox n a1) σ n fun v2 σ n =>
 bindP (aFad 0 v1) fun v3 =>
 bindP (aLd σ none v3) fun v4 =>
 bindP (aFad 0 v2) fun v5 =>
 bindP (aLd σ none v5) fun v6 =>
 bindP (semBin .eql v4 v6) fun v7 =>
 guardP v7 true (aFad 1 v1) fun v8 =>
 guardP v7 true (aLd σ (some 3) v8) fun v9 =>
 guardP v7 true (aFad 1 v2) fun v10 =>
 guardP v7 true (aLd σ (some 3) v10) fun v11 =>
 guardP v7 true (aEqs [0, 0, 2] false v9 v11) fun v12 =>
 bindP (aPick v7 v12 (.sc (.bool false))) fun v13 =>
 guardP v13 true (aFad 4 v1) fun v14 =>
 guardP v13 true (aLd σ none v14) fun v15 =>
 guardP v13 true (aFad 4 v2) fun v16 =>
 guardP v13 true (aLd σ none v16) fun v17 =>
 guardP v13 true (semBin .eql v15 v17) fun v18 =>
 bindP (aPick v13 v18 (.sc (.bool false))) fun v19 =>
 guardP v19 true (aFad 5 v1) fun v20 =>
 guardP v19 true (aLd σ none v20) fun v21 =>
 guardP v19 true (aFad 5 v2) fun v22 =>
 guardP v19 true (aLd σ none v22) fun v23 =>
 guardP v19 true (semBin .eql v21 v23) fun v24 =>
 bindP (aPick v19 v24 (.sc (.bool false))) fun v25 =>
 guardP v25 true (aFad 6 v1) fun v26 =>
 guardP v25 true (aLd σ none v26) fun v27 =>
 guardP v25 true (aFad 6 v2) fun v28 =>
 guardP v25 true (aLd σ none v28) fun v29 =>
 guardK v25 true (fun Kg => CALL Try.prog (.fn 55 []) [v27, v29] σ n (kc_plain_SameExpr1 Kg R)) σ n fun v30 σ n =>
 bindP (aPick v25 v30 (.sc (.bool false))) fun v33 =>
 R (.ret v33) σ n
theorem se_plain_SameExpr (a0 a1 : AV) (σ : Hp) (n : Nat) (R : AEnd → Hp → Nat → Prop) : sh_plain_SameExpr a0 a1 σ n R = swp Try.prog sc_plain_SameExpr (retQ [(.t 4)] R) (entry [a0, a1]) σ n := by kernel_rfl
theorem by_plain_SameExpr {a0 a1 : AV} {σ : Hp} {n : Nat} {R : AEnd → Hp → Nat → Prop} (h : sh_plain_SameExpr a0 a1 σ n R) : ConH Try.prog 17 [a0, a1] σ n R := by
  rw [se_plain_SameExpr] at h
  exact conH_of [(.t 4)] (fn := Try.f17) rfl [0, 1, 2, 3, 4] (by kernel_rfl) (by kernel_rfl) (by kernel_rfl) (by kernel_rfl) h
/-- switchback/switchbackplain.SameExprs -/
def kd_plain_SameExprs1 (v9 : AV) (v13 : AV) (n : Nat) (σ : Hp) (R : AEnd → Hp → Nat → Prop) (s4 : List AV) (K4 : List AV → Hp → Nat → Prop) (v6 : AV) (r : AEnd) (w15 : Wr) (d15 : List Nat) : Prop :=
 onEnd r (fun v15 =>
 bindP (aUn .not v15) fun v17 =>
 Apt (names []) (rdA v9) (names []) (rdA v13) ∧
 ∀ n_, n + 16 * 10 ≤ n_ → (fun n => (fun σ => COND v17 (
 R (.ret (.sc (.bool false))) σ n) (
 bindP (semBin .add (s4.getD 3 .any) (.sc (.int .i64 1))) fun v18 =>
 K4 [v6, v17, (s4.getD 2 .any), v18] σ n)) (applyW σ w15)) n_) (fun v16 => Apt (names []) (rdA v9) (names []) (rdA v13) ∧
 ∀ (fr_ : Regs) σ n, R (.pan v16) σ n)
def lb_plain_SameExprs2 (a0 : AV) (a1 : AV) (R : AEnd → Hp → Nat → Prop) (K4 : List AV → Hp → Nat → Prop) (s4 : List AV) (σ : Hp) (n : Nat) : Prop :=
 bindP (aLen false a0) fun v5 => bnd σ a0 →
 bindP (semBin .lss (s4.getD 3 .any) v5) fun v6 =>
 COND v6 (
 bindP (aIad 7 a0 (s4.getD 3 .any)) fun v9 =>
 bindP (aLd σ (some 7) v9) fun v10 =>
 bindP (aIad 7 a1 (s4.getD 3 .any)) fun v13 =>
 bindP (aLd σ (some 7) v13) fun v14 =>
 callD Try.prog (.fn 17 []) [v10, v14] σ (n + 16 * 8) (kd_plain_SameExprs1 v9 v13 n σ R s4 K4 v6)) (
 R (.ret (.sc (.bool true))) σ n)
attribute [go_sem] kd_plain_SameExprs1 lb_plain_SameExprs2
def sc_plain_SameExprs : SCode := (.seq (.reg [
   ⟨(some 4), none, (.mv (.c (.sc (.bool false))))⟩]) (.seq (.seq (.reg [
   ⟨(some 6), none, (.mv (.t 0))⟩,
    ⟨(some 7), none, (.len false (.t 6))⟩,
    ⟨(some 8), none, (.mv (.t 1))⟩,
    ⟨(some 9), none, (.len false (.t 8))⟩,
    ⟨(some 10), none, (.bin .neq (.t 7) (.t 9))⟩]) (.cond (.t 10) (.seq (.reg [
   ⟨(some 4), none, (.mv (.c (.sc (.bool false))))⟩]) .ret) .skip)) (.seq (.seq (.reg [
   ⟨(some 5), none, (.mv (.c (.sc (.int .i64 0))))⟩]) (.block 0 (.loop [14, 26, 4, 5] [11, 12, 13, 14, 17, 18, 19, 20, 21, 22, 23, 24, 25, 26, 4, 15, 16, 5] (.seq (.seq (.reg [
   ⟨(some 11), none, (.mv (.t 5))⟩,
    ⟨(some 12), none, (.mv (.t 0))⟩,
    ⟨(some 13), none, (.len false (.t 12))⟩,
    ⟨(some 14), none, (.bin .lss (.t 11) (.t 13))⟩]) (.cond (.t 14) .skip (.exit 0))) (.seq (.block 1 (.seq (.regD [(⟨(some 17), none, (.mv (.t 0))⟩, []), (⟨(some 18), none, (.mv (.t 5))⟩, []), (⟨(some 19), none, (.iad 7 (.t 17) (.t 18))⟩, [0, 1]), (⟨(some 20), none, (.ld (some 7) (.t 19))⟩, [2, 0, 1]), (⟨(some 21), none, (.mv (.t 1))⟩, []), (⟨(some 22), none, (.mv (.t 5))⟩, []), (⟨(some 23), none, (.iad 7 (.t 21) (.t 22))⟩, [4, 5]), (⟨(some 24), none, (.ld (some 7) (.t 23))⟩, [6, 4, 5]), (⟨(some 25), none, (.call (.c (.fn 17 [])) [(.t 20), (.t 24)])⟩, [3, 2, 0, 1, 7, 6, 4, 5]), (⟨(some 26), none, (.un .not (.t 25))⟩, [8, 3, 2, 0, 1, 7, 6, 4, 5])]) (.cond (.t 26) (.seq (.reg [
   ⟨(some 4), none, (.mv (.c (.sc (.bool false))))⟩]) .ret) .skip))) (.reg [
   ⟨(some 15), none, (.mv (.t 5))⟩,
    ⟨(some 16), none, (.bin .add (.t 15) (.c (.sc (.int .i64 1))))⟩,
    ⟨(some 5), none, (.mv (.t 16))⟩])))))) (.seq (.reg [
   ⟨(some 4), none, (.mv (.c (.sc (.bool true))))⟩]) .ret))))
def sh_plain_SameExprs (a0 a1 : AV) (σ : Hp) (n : Nat) (R : AEnd → Hp → Nat → Prop) : Prop :=
 bindP (aLen false a0) fun v1 => bnd σ a0 →
 bindP (aLen false a1) fun v2 => bnd σ a1 →
 bindP (semBin .neq v1 v2) fun v3 =>
 COND v3 (
 R (.ret (.sc (.bool false))) σ n) (
 LOOP (lb_plain_SameExprs2 a0 a1 R) [(.tp []), (.tp []), (.sc (.bool false)), (.sc (.int .i64 0))] σ n)
theorem se_plain_SameExprs (a0 a1 : AV) (σ : Hp) (n : Nat) (R : AEnd → Hp → Nat → Prop) : sh_plain_SameExprs a0 a1 σ n R = swp Try.prog sc_plain_SameExprs (retQ [(.t 4)] R) (entry [a0, a1]) σ n := by kernel_rfl
theorem by_plain_SameExprs {a0 a1 : AV} {σ : Hp} {n : Nat} {R : AEnd → Hp → Nat → Prop} (h : sh_plain_SameExprs a0 a1 σ n R) : ConH Try.prog 55 [a0, a1] σ n R := by
  rw [se_plain_SameExprs] at h
  exact conH_of [(.t 4)] (fn := Try.f55) rfl [10, 14, 0, 1, 26, 5, 4] (by kernel_rfl) (by kernel_rfl) (by kernel_rfl) (by kernel_rfl) h
/-- switchback/switchbacklaw07.num -/
def sc_law07_num : SCode := (.seq (.reg [
   ⟨(some 2), none, (.mv (.c (.sc (.int .i64 0))))⟩]) (.seq (.reg [
   ⟨(some 3), none, (.mv (.t 0))⟩,
    ⟨(some 2), none, (.mv (.t 3))⟩]) .ret))
def sh_law07_num (a0 : AV) (σ : Hp) (n : Nat) (R : AEnd → Hp → Nat → Prop) : Prop :=
 R (.ret a0) σ n
theorem se_law07_num (a0 : AV) (σ : Hp) (n : Nat) (R : AEnd → Hp → Nat → Prop) : sh_law07_num a0 σ n R = swp Try.prog sc_law07_num (retQ [(.t 2)] R) (entry [a0]) σ n := by kernel_rfl
theorem by_law07_num {a0 : AV} {σ : Hp} {n : Nat} {R : AEnd → Hp → Nat → Prop} (h : sh_law07_num a0 σ n R) : ConH Try.prog 18 [a0] σ n R := by
  rw [se_law07_num] at h
  exact conH_of [(.t 2)] (fn := Try.f18) rfl [0, 2] (by kernel_rfl) (by kernel_rfl) (by kernel_rfl) (by kernel_rfl) h
/-- switchback/switchbacklaw07.alive -/
def kc_law07_alive1 (Kg : AV → Hp → Nat → Prop) (R : AEnd → Hp → Nat → Prop) (r : AEnd) (σ : Hp) (n : Nat) : Prop :=
 onEnd r (fun v42 =>
 Kg v42 σ n) (fun v43 => R (.pan v43) σ n)
def kc_law07_alive2 (v34 : AV) (R : AEnd → Hp → Nat → Prop) (v33 : AV) (v35 : AV) (r : AEnd) (σ : Hp) (n : Nat) : Prop :=
 onEnd r (fun v37 =>
 bindP (semBin .eql v37 (.sc (.int .i64 81))) fun v39 =>
 guardP v39 true (some v34) fun v40 =>
 guardK v39 true (fun Kg => CALL Try.prog (.fn 18 []) [v40] σ n (kc_law07_alive1 Kg R)) σ n fun v41 σ n =>
 guardP v39 true (semBin .eql v41 (.sc (.int .i64 0))) fun v44 =>
 bindP (aPick v39 v44 (.sc (.bool false))) fun v45 =>
 guardP v45 true (some v33) fun v46 =>
 guardP v45 true (semBin .eql v46 (.sc (.int .i64 1))) fun v47 =>
 bindP (aPick v45 v47 (.sc (.bool false))) fun v48 =>
 guardP v48 true (aFad 6 v35) fun v49 =>
 guardP v48 true (aLd σ none v49) fun v50 =>
 guardP v48 true (aLen false v50) fun v51 =>
 guardP v48 true (semBin .eql v51 (.sc (.int .i64 2))) fun v52 =>
 bindP (aPick v48 v52 (.sc (.bool false))) fun v53 =>
 guardP v53 true (aFad 6 v35) fun v54 =>
 guardP v53 true (aLd σ none v54) fun v55 =>
 guardP v53 true (aIad 7 v55 (.sc (.int .i64 0))) fun v56 =>
 guardP v53 true (aFad 1 v56) fun v57 =>
 guardP v53 true (aFad 1 v57) fun v58 =>
 guardP v53 true (aLd σ none v58) fun v59 =>
 guardP v53 true (semBin .eql v59 (.sc (.int .i64 1))) fun v60 =>
 bindP (aPick v53 v60 (.sc (.bool false))) fun v61 =>
 R (.ret v61) σ n) (fun v38 => R (.pan v38) σ n)
def kc_law07_alive3 (v21 : AV) (R : AEnd → Hp → Nat → Prop) (r : AEnd) (σ : Hp) (n : Nat) : Prop :=
 onEnd r (fun v30 =>
 bindP (aExt v30 0) fun v32 =>
 bindP (aExt v30 1) fun v33 =>
 bindP (aExt v30 2) fun v34 =>
 bindS (hAlloc n [(.int .i64 0), (.int .i64 0), (.int .i64 0), (.string ⟨#[]⟩), (.string ⟨#[]⟩), (.string ⟨#[]⟩), (.slice none 0 0)]) σ n fun v35 σ n =>
 bindS (hSt σ 7 v35 v32) σ n fun v36 σ n =>
 CALL Try.prog (.fn 18 []) [v21] σ n (kc_law07_alive2 v34 R v33 v35)) (fun v31 => R (.pan v31) σ n)
def kc_law07_alive4 (v5 : AV) (v9 : AV) (R : AEnd → Hp → Nat → Prop) (r : AEnd) (σ : Hp) (n : Nat) : Prop :=
 onEnd r (fun v17 =>
 bindP (aExt v17 0) fun v19 =>
 bindP (aExt v17 1) fun v20 =>
 bindP (aExt v17 2) fun v21 =>
 bindS (hAlloc n [(.int .i64 0), (.int .i64 0), (.int .i64 0), (.string ⟨#[]⟩), (.string ⟨#[]⟩), (.string ⟨#[]⟩), (.slice none 0 0)]) σ n fun v22 σ n =>
 bindS (hSt σ 7 v22 v19) σ n fun v23 σ n =>
 bindP (aLd σ (some 4) v5) fun v24 =>
 bindS (hBsl σ n 4 [(.string ⟨#[]⟩), (.slice none 0 0), (.int .i64 0), (.slice none 0 0)] 1 [(0, v24)]) σ n fun v25 σ n =>
 bindP (aBuild [(.int .i64 0), (.int .i64 0), (.int .i64 0), (.string ⟨#[]⟩), (.string ⟨#[]⟩), (.string ⟨#[]⟩), (.slice none 0 0)] [(0, 1, (.sc (.int .i64 1))), (5, 1, (.s [98]))]) fun v26 =>
 bindP (aLd σ (some 7) v9) fun v27 =>
 bindS (hBsl σ n 7 [(.int .i64 0), (.int .i64 0), (.int .i64 0), (.string ⟨#[]⟩), (.string ⟨#[]⟩), (.string ⟨#[]⟩), (.slice none 0 0)] 2 [(0, v26), (1, v27)]) σ n fun v28 σ n =>
 bindP (aBuild [(.int .i64 0), (.int .i64 0), (.int .i64 0), (.string ⟨#[]⟩), (.string ⟨#[]⟩), (.string ⟨#[]⟩), (.slice none 0 0)] [(0, 1, (.sc (.int .i64 4))), (6, 1, v28)]) fun v29 =>
 CALL Try.prog (.fn 14 []) [v25, v29, (.sc (.bool false))] σ n (kc_law07_alive3 v21 R)) (fun v18 => R (.pan v18) σ n)
attribute [go_sem] kc_law07_alive1 kc_law07_alive2 kc_law07_alive3 kc_law07_alive4
def sc_law07_alive : SCode := (.seq (.reg [
   ⟨(some 0), none, (.mv (.c (.sc (.bool false))))⟩]) (.seq (.reg [
   ⟨(some 9), none, (.build [(.string ⟨#[]⟩), (.int .i64 0), (.bool false)] [(0, (1, (.c (.s [97])))), (1, (1, (.c (.sc (.int .i64 2)))))])⟩,
    ⟨(some 10), none, (.build [(.string ⟨#[]⟩), (.int .i64 0), (.bool false)] [(0, (1, (.c (.s [98])))), (1, (1, (.c (.sc (.int .i64 1)))))])⟩,
    ⟨(some 11), none, (.bsl 3 [(.string ⟨#[]⟩), (.int .i64 0), (.bool false)] 2 [(0, (.t 9)), (1, (.t 10))])⟩,
    ⟨(some 12), none, (.build [(.string ⟨#[]⟩), (.slice none 0 0), (.int .i64 0), (.slice none 0 0)] [(0, (1, (.c (.s [116])))), (1, (1, (.t 11)))])⟩,
    ⟨(some 1), none, (.alloc [(.string ⟨#[]⟩), (.slice none 0 0), (.int .i64 0), (.slice none 0 0)])⟩,
    ⟨none, none, (.st 4 (.t 1) (.t 12))⟩]) (.seq (.reg [
   ⟨(some 13), none, (.build [(.int .i64 0), (.int .i64 0), (.string ⟨#[]⟩)] [(0, (1, (.c (.sc (.int .i64 1))))), (1, (1, (.c (.sc (.int .i64 1)))))])⟩,
    ⟨(some 14), none, (.build [(.int .i64 0), (.int .i64 0), (.int .i64 0), (.string ⟨#[]⟩), (.string ⟨#[]⟩), (.string ⟨#[]⟩), (.slice none 0 0)] [(1, (3, (.t 13)))])⟩,
    ⟨(some 2), none, (.alloc [(.int .i64 0), (.int .i64 0), (.int .i64 0), (.string ⟨#[]⟩), (.string ⟨#[]⟩), (.string ⟨#[]⟩), (.slice none 0 0)])⟩,
    ⟨none, none, (.st 7 (.t 2) (.t 14))⟩]) (.seq (.reg [
   ⟨(some 16), none, (.ld (some 4) (.t 1))⟩,
    ⟨(some 17), none, (.bsl 4 [(.string ⟨#[]⟩), (.slice none 0 0), (.int .i64 0), (.slice none 0 0)] 1 [(0, (.t 16))])⟩,
    ⟨(some 18), none, (.build [(.int .i64 0), (.int .i64 0), (.int .i64 0), (.string ⟨#[]⟩), (.string ⟨#[]⟩), (.string ⟨#[]⟩), (.slice none 0 0)] [(0, (1, (.c (.sc (.int .i64 1))))), (5, (1, (.c (.s [97]))))])⟩,
    ⟨(some 19), none, (.ld (some 7) (.t 2))⟩,
    ⟨(some 20), none, (.bsl 7 [(.int .i64 0), (.int .i64 0), (.int .i64 0), (.string ⟨#[]⟩), (.string ⟨#[]⟩), (.string ⟨#[]⟩), (.slice none 0 0)] 2 [(0, (.t 18)), (1, (.t 19))])⟩,
    ⟨(some 21), none, (.build [(.int .i64 0), (.int .i64 0), (.int .i64 0), (.string ⟨#[]⟩), (.string ⟨#[]⟩), (.string ⟨#[]⟩), (.slice none 0 0)] [(0, (1, (.c (.sc (.int .i64 4))))), (6, (1, (.t 20)))])⟩,
    ⟨(some 22), none, (.call (.c (.fn 14 [])) [(.t 17), (.t 21), (.c (.sc (.bool false)))])⟩,
    ⟨(some 15), none, (.mv (.t 22))⟩,
    ⟨(some 23), none, (.ext (.t 15) 0)⟩,
    ⟨(some 24), none, (.ext (.t 15) 1)⟩,
    ⟨(some 25), none, (.ext (.t 15) 2)⟩,
    ⟨(some 3), none, (.alloc [(.int .i64 0), (.int .i64 0), (.int .i64 0), (.string ⟨#[]⟩), (.string ⟨#[]⟩), (.string ⟨#[]⟩), (.slice none 0 0)])⟩,
    ⟨none, none, (.st 7 (.t 3) (.t 23))⟩,
    ⟨(some 4), none, (.mv (.t 24))⟩,
    ⟨(some 5), none, (.mv (.t 25))⟩]) (.seq (.reg [
   ⟨(some 27), none, (.ld (some 4) (.t 1))⟩,
    ⟨(some 28), none, (.bsl 4 [(.string ⟨#[]⟩), (.slice none 0 0), (.int .i64 0), (.slice none 0 0)] 1 [(0, (.t 27))])⟩,
    ⟨(some 29), none, (.build [(.int .i64 0), (.int .i64 0), (.int .i64 0), (.string ⟨#[]⟩), (.string ⟨#[]⟩), (.string ⟨#[]⟩), (.slice none 0 0)] [(0, (1, (.c (.sc (.int .i64 1))))), (5, (1, (.c (.s [98]))))])⟩,
    ⟨(some 30), none, (.ld (some 7) (.t 2))⟩,
    ⟨(some 31), none, (.bsl 7 [(.int .i64 0), (.int .i64 0), (.int .i64 0), (.string ⟨#[]⟩), (.string ⟨#[]⟩), (.string ⟨#[]⟩), (.slice none 0 0)] 2 [(0, (.t 29)), (1, (.t 30))])⟩,
    ⟨(some 32), none, (.build [(.int .i64 0), (.int .i64 0), (.int .i64 0), (.string ⟨#[]⟩), (.string ⟨#[]⟩), (.string ⟨#[]⟩), (.slice none 0 0)] [(0, (1, (.c (.sc (.int .i64 4))))), (6, (1, (.t 31)))])⟩,
    ⟨(some 33), none, (.call (.c (.fn 14 [])) [(.t 28), (.t 32), (.c (.sc (.bool false)))])⟩,
    ⟨(some 26), none, (.mv (.t 33))⟩,
    ⟨(some 34), none, (.ext (.t 26) 0)⟩,
    ⟨(some 35), none, (.ext (.t 26) 1)⟩,
    ⟨(some 36), none, (.ext (.t 26) 2)⟩,
    ⟨(some 6), none, (.alloc [(.int .i64 0), (.int .i64 0), (.int .i64 0), (.string ⟨#[]⟩), (.string ⟨#[]⟩), (.string ⟨#[]⟩), (.slice none 0 0)])⟩,
    ⟨none, none, (.st 7 (.t 6) (.t 34))⟩,
    ⟨(some 7), none, (.mv (.t 35))⟩,
    ⟨(some 8), none, (.mv (.t 36))⟩]) (.seq (.reg [
   ⟨(some 37), none, (.mv (.t 5))⟩,
    ⟨(some 38), none, (.call (.c (.fn 18 [])) [(.t 37)])⟩,
    ⟨(some 39), none, (.bin .eql (.t 38) (.c (.sc (.int .i64 81))))⟩,
    ⟨(some 40), none, (.mv (.t 39))⟩,
    ⟨(some 41), (some (40, true)), (.mv (.t 8))⟩,
    ⟨(some 42), (some (40, true)), (.call (.c (.fn 18 [])) [(.t 41)])⟩,
    ⟨(some 43), (some (40, true)), (.bin .eql (.t 42) (.c (.sc (.int .i64 0))))⟩,
    ⟨(some 44), none, (.pick (.t 40) (.t 43) (.c (.sc (.bool false))))⟩,
    ⟨(some 45), none, (.mv (.t 44))⟩,
    ⟨(some 46), (some (45, true)), (.mv (.t 7))⟩,
    ⟨(some 47), (some (45, true)), (.bin .eql (.t 46) (.c (.sc (.int .i64 1))))⟩,
    ⟨(some 48), none, (.pick (.t 45) (.t 47) (.c (.sc (.bool false))))⟩,
    ⟨(some 49), none, (.mv (.t 48))⟩,
    ⟨(some 50), (some (49, true)), (.fad 6 (.t 6))⟩,
    ⟨(some 51), (some (49, true)), (.ld none (.t 50))⟩,
    ⟨(some 52), (some (49, true)), (.len false (.t 51))⟩,
    ⟨(some 53), (some (49, true)), (.bin .eql (.t 52) (.c (.sc (.int .i64 2))))⟩,
    ⟨(some 54), none, (.pick (.t 49) (.t 53) (.c (.sc (.bool false))))⟩,
    ⟨(some 55), none, (.mv (.t 54))⟩,
    ⟨(some 56), (some (55, true)), (.fad 6 (.t 6))⟩,
    ⟨(some 57), (some (55, true)), (.ld none (.t 56))⟩,
    ⟨(some 58), (some (55, true)), (.iad 7 (.t 57) (.c (.sc (.int .i64 0))))⟩,
    ⟨(some 59), (some (55, true)), (.fad 1 (.t 58))⟩,
    ⟨(some 60), (some (55, true)), (.fad 1 (.t 59))⟩,
    ⟨(some 61), (some (55, true)), (.ld none (.t 60))⟩,
    ⟨(some 62), (some (55, true)), (.bin .eql (.t 61) (.c (.sc (.int .i64 1))))⟩,
    ⟨(some 63), none, (.pick (.t 55) (.t 62) (.c (.sc (.bool false))))⟩,
    ⟨(some 0), none, (.mv (.t 63))⟩]) .ret))))))
def sh_law07_alive (σ : Hp) (n : Nat) (R : AEnd → Hp → Nat → Prop) : Prop :=
 bindP (aBuild [(.string ⟨#[]⟩), (.int .i64 0), (.bool false)] [(0, 1, (.s [97])), (1, 1, (.sc (.int .i64 2)))]) fun v1 =>
 bindP (aBuild [(.string ⟨#[]⟩), (.int .i64 0), (.bool false)] [(0, 1, (.s [98])), (1, 1, (.sc (.int .i64 1)))]) fun v2 =>
 bindS (hBsl σ n 3 [(.string ⟨#[]⟩), (.int .i64 0), (.bool false)] 2 [(0, v1), (1, v2)]) σ n fun v3 σ n =>
 bindP (aBuild [(.string ⟨#[]⟩), (.slice none 0 0), (.int .i64 0), (.slice none 0 0)] [(0, 1, (.s [116])), (1, 1, v3)]) fun v4 =>
 bindS (hAlloc n [(.string ⟨#[]⟩), (.slice none 0 0), (.int .i64 0), (.slice none 0 0)]) σ n fun v5 σ n =>
 bindS (hSt σ 4 v5 v4) σ n fun v6 σ n =>
 bindP (aBuild [(.int .i64 0), (.int .i64 0), (.string ⟨#[]⟩)] [(0, 1, (.sc (.int .i64 1))), (1, 1, (.sc (.int .i64 1)))]) fun v7 =>
 bindP (aBuild [(.int .i64 0), (.int .i64 0), (.int .i64 0), (.string ⟨#[]⟩), (.string ⟨#[]⟩), (.string ⟨#[]⟩), (.slice none 0 0)] [(1, 3, v7)]) fun v8 =>
 bindS (hAlloc n [(.int .i64 0), (.int .i64 0), (.int .i64 0), (.string ⟨#[]⟩), (.string ⟨#[]⟩), (.string ⟨#[]⟩), (.slice none 0 0)]) σ n fun v9 σ n =>
 bindS (hSt σ 7 v9 v8) σ n fun v10 σ n =>
 bindP (aLd σ (some 4) v5) fun v11 =>
 bindS (hBsl σ n 4 [(.string ⟨#[]⟩), (.slice none 0 0), (.int .i64 0), (.slice none 0 0)] 1 [(0, v11)]) σ n fun v12 σ n =>
 bindP (aBuild [(.int .i64 0), (.int .i64 0), (.int .i64 0), (.string ⟨#[]⟩), (.string ⟨#[]⟩), (.string ⟨#[]⟩), (.slice none 0 0)] [(0, 1, (.sc (.int .i64 1))), (5, 1, (.s [97]))]) fun v13 =>
 bindP (aLd σ (some 7) v9) fun v14 =>
 bindS (hBsl σ n 7 [(.int .i64 0), (.int .i64 0), (.int .i64 0), (.string ⟨#[]⟩), (.string ⟨#[]⟩), (.string ⟨#[]⟩), (.slice none 0 0)] 2 [(0, v13), (1, v14)]) σ n fun v15 σ n =>
 bindP (aBuild [(.int .i64 0), (.int .i64 0), (.int .i64 0), (.string ⟨#[]⟩), (.string ⟨#[]⟩), (.string ⟨#[]⟩), (.slice none 0 0)] [(0, 1, (.sc (.int .i64 4))), (6, 1, v15)]) fun v16 =>
 CALL Try.prog (.fn 14 []) [v12, v16, (.sc (.bool false))] σ n (kc_law07_alive4 v5 v9 R)
theorem se_law07_alive (σ : Hp) (n : Nat) (R : AEnd → Hp → Nat → Prop) : sh_law07_alive σ n R = swp Try.prog sc_law07_alive (retQ [(.t 0)] R) (entry []) σ n := by kernel_rfl
theorem by_law07_alive {σ : Hp} {n : Nat} {R : AEnd → Hp → Nat → Prop} (h : sh_law07_alive σ n R) : ConH Try.prog 19 [] σ n R := by
  rw [se_law07_alive] at h
  exact conH_of [(.t 0)] (fn := Try.f19) rfl [1, 2, 5, 8, 7, 6, 0] (by kernel_rfl) (by kernel_rfl) (by kernel_rfl) (by kernel_rfl) h
/-- switchback/switchbacklaw07.bare -/
def kc_law07_bare1 (R : AEnd → Hp → Nat → Prop) (s26 : List AV) (K26 : List AV → Hp → Nat → Prop) (v30 : AV) (r : AEnd) (σ : Hp) (n : Nat) : Prop :=
 onEnd r (fun v35 =>
 bindP (aUn .not v35) fun v37 =>
 COND v37 (
 R (.ret (.sc (.bool false))) σ n) (
 bindP (semBin .add (s26.getD 3 .any) (.sc (.int .i64 1))) fun v38 =>
 K26 [v30, v37, (s26.getD 2 .any), v38] σ n)) (fun v36 => R (.pan v36) σ n)
def lb_law07_bare2 (v1 : AV) (a1 : AV) (R : AEnd → Hp → Nat → Prop) (K26 : List AV → Hp → Nat → Prop) (s26 : List AV) (σ : Hp) (n : Nat) : Prop :=
 bindP (aFad 6 v1) fun v27 =>
 bindP (aLd σ none v27) fun v28 =>
 bindP (aLen false v28) fun v29 => bnd σ v28 →
 bindP (semBin .lss (s26.getD 3 .any) v29) fun v30 =>
 COND v30 (
 bindP (aFad 6 v1) fun v31 =>
 bindP (aLd σ none v31) fun v32 =>
 bindP (aIad 7 v32 (s26.getD 3 .any)) fun v33 =>
 bindP (aLd σ (some 7) v33) fun v34 =>
 CALL Try.prog (.fn 20 []) [v34, a1] σ n (kc_law07_bare1 R s26 K26 v30)) (
 R (.ret (.sc (.bool true))) σ n)
attribute [go_sem] kc_law07_bare1 lb_law07_bare2
def sc_law07_bare : SCode := (.seq (.reg [
   ⟨(some 2), none, (.box (.t 0))⟩,
    ⟨(some 4), none, (.mv (.c (.sc (.bool false))))⟩]) (.seq (.seq (.reg [
   ⟨(some 6), none, (.fad 5 (.t 2))⟩,
    ⟨(some 7), none, (.ld none (.t 6))⟩,
    ⟨(some 8), none, (.bin .neq (.t 7) (.c (.s [])))⟩,
    ⟨(some 9), none, (.mv (.t 8))⟩,
    ⟨(some 10), (some (9, false)), (.fad 4 (.t 2))⟩,
    ⟨(some 11), (some (9, false)), (.ld none (.t 10))⟩,
    ⟨(some 12), (some (9, false)), (.bin .neq (.t 11) (.c (.s [])))⟩,
    ⟨(some 13), none, (.pick (.t 9) (.c (.sc (.bool true))) (.t 12))⟩,
    ⟨(some 14), none, (.mv (.t 13))⟩,
    ⟨(some 15), (some (14, false)), (.fad 0 (.t 2))⟩,
    ⟨(some 16), (some (14, false)), (.ld none (.t 15))⟩,
    ⟨(some 17), (some (14, false)), (.bin .eql (.t 16) (.c (.sc (.int .i64 1))))⟩,
    ⟨(some 18), (some (14, false)), (.mv (.t 17))⟩,
    ⟨(some 19), (some (18, true)), (.fad 1 (.t 2))⟩,
    ⟨(some 20), (some (18, true)), (.fad 1 (.t 19))⟩,
    ⟨(some 21), (some (18, true)), (.ld none (.t 20))⟩,
    ⟨(some 22), (some (18, true)), (.bin .lss (.t 21) (.c (.sc (.int .i64 0))))⟩,
    ⟨(some 23), (some (18, true)), (.mv (.t 22))⟩,
    ⟨(some 24), (some (23, false)), (.fad 1 (.t 2))⟩,
    ⟨(some 25), (some (23, false)), (.fad 1 (.t 24))⟩,
    ⟨(some 26), (some (23, false)), (.ld none (.t 25))⟩,
    ⟨(some 27), (some (23, false)), (.mv (.t 1))⟩,
    ⟨(some 28), (some (23, false)), (.bin .geq (.t 26) (.t 27))⟩,
    ⟨(some 29), (some (18, true)), (.pick (.t 23) (.c (.sc (.bool true))) (.t 28))⟩,
    ⟨(some 30), (some (14, false)), (.pick (.t 18) (.t 29) (.c (.sc (.bool false))))⟩,
    ⟨(some 31), none, (.pick (.t 14) (.c (.sc (.bool true))) (.t 30))⟩]) (.cond (.t 31) (.seq (.reg [
   ⟨(some 4), none, (.mv (.c (.sc (.bool false))))⟩]) .ret) .skip)) (.seq (.seq (.reg [
   ⟨(some 5), none, (.mv (.c (.sc (.int .i64 0))))⟩]) (.block 0 (.loop [36, 46, 4, 5] [32, 33, 34, 35, 36, 39, 40, 41, 42, 43, 44, 45, 46, 4, 37, 38, 5] (.seq (.seq (.reg [
   ⟨(some 32), none, (.mv (.t 5))⟩,
    ⟨(some 33), none, (.fad 6 (.t 2))⟩,
    ⟨(some 34), none, (.ld none (.t 33))⟩,
    ⟨(some 35), none, (.len false (.t 34))⟩,
    ⟨(some 36), none, (.bin .lss (.t 32) (.t 35))⟩]) (.cond (.t 36) .skip (.exit 0))) (.seq (.block 1 (.seq (.reg [
   ⟨(some 39), none, (.fad 6 (.t 2))⟩,
    ⟨(some 40), none, (.ld none (.t 39))⟩,
    ⟨(some 41), none, (.mv (.t 5))⟩,
    ⟨(some 42), none, (.iad 7 (.t 40) (.t 41))⟩,
    ⟨(some 43), none, (.ld (some 7) (.t 42))⟩,
    ⟨(some 44), none, (.mv (.t 1))⟩,
    ⟨(some 45), none, (.call (.c (.fn 20 [])) [(.t 43), (.t 44)])⟩,
    ⟨(some 46), none, (.un .not (.t 45))⟩]) (.cond (.t 46) (.seq (.reg [
   ⟨(some 4), none, (.mv (.c (.sc (.bool false))))⟩]) .ret) .skip))) (.reg [
   ⟨(some 37), none, (.mv (.t 5))⟩,
    ⟨(some 38), none, (.bin .add (.t 37) (.c (.sc (.int .i64 1))))⟩,
    ⟨(some 5), none, (.mv (.t 38))⟩])))))) (.seq (.reg [
   ⟨(some 4), none, (.mv (.c (.sc (.bool true))))⟩]) .ret))))
def sh_law07_bare (a0 a1 : AV) (σ : Hp) (n : Nat) (R : AEnd → Hp → Nat → Prop) : Prop :=
 bindS (hBox n a0) σ n fun v1 σ n =>
 bindP (aFad 5 v1) fun v2 =>
 bindP (aLd σ none v2) fun v3 =>
 bindP (semBin .neq v3 (.s [])) fun v4 =>
 guardP v4 false (aFad 4 v1) fun v5 =>
 guardP v4 false (aLd σ none v5) fun v6 =>
 guardP v4 false (semBin .neq v6 (.s [])) fun v7 =>
 bindP (aPick v4 (.sc (.bool true)) v7) fun v8 =>
 guardP v8 false (aFad 0 v1) fun v9 =>
 guardP v8 false (aLd σ none v9) fun v10 =>
 guardP v8 false (semBin .eql v10 (.sc (.int .i64 1))) fun v11 =>
 guardP v8 false (some v11) fun v12 =>
 guardP v12 true (aFad 1 v1) fun v13 =>
 guardP v12 true (aFad 1 v13) fun v14 =>
 guardP v12 true (aLd σ none v14) fun v15 =>
 guardP v12 true (semBin .lss v15 (.sc (.int .i64 0))) fun v16 =>
 guardP v12 true (some v16) fun v17 =>
 guardP v17 false (aFad 1 v1) fun v18 =>
 guardP v17 false (aFad 1 v18) fun v19 =>
 guardP v17 false (aLd σ none v19) fun v20 =>
 guardP v17 false (some a1) fun v21 =>
 guardP v17 false (semBin .geq v20 v21) fun v22 =>
 guardP v12 true (aPick v17 (.sc (.bool true)) v22) fun v23 =>
 guardP v8 false (aPick v12 v23 (.sc (.bool false))) fun v24 =>
 bindP (aPick v8 (.sc (.bool true)) v24) fun v25 =>
 COND v25 (
 R (.ret (.sc (.bool false))) σ n) (
 LOOP (lb_law07_bare2 v1 a1 R) [(.tp []), (.tp []), (.sc (.bool false)), (.sc (.int .i64 0))] σ n)
theorem se_law07_bare (a0 a1 : AV) (σ : Hp) (n : Nat) (R : AEnd → Hp → Nat → Prop) : sh_law07_bare a0 a1 σ n R = swp Try.prog sc_law07_bare (retQ [(.t 4)] R) (entry [a0, a1]) σ n := by kernel_rfl
theorem by_law07_bare {a0 a1 : AV} {σ : Hp} {n : Nat} {R : AEnd → Hp → Nat → Prop} (h : sh_law07_bare a0 a1 σ n R) : ConH Try.prog 20 [a0, a1] σ n R := by
  rw [se_law07_bare] at h
  exact conH_of [(.t 4)] (fn := Try.f20) rfl [0, 31, 36, 2, 1, 46, 5, 4] (by kernel_rfl) (by kernel_rfl) (by kernel_rfl) (by kernel_rfl) h
/-- switchback/switchbacklaw06.Of -/
def lb_law06_Of1 (v1 : AV) (v12 : AV) (v2 : AV) (R : AEnd → Hp → Nat → Prop) (K14 : List AV → Hp → Nat → Prop) (s14 : List AV) (σ : Hp) (n : Nat) : Prop :=
 bindP (aFad 3 v1) fun v15 =>
 bindP (aLd σ none v15) fun v16 =>
 bindP (aLen false v16) fun v17 => bnd σ v16 →
 bindP (semBin .lss (s14.getD 1 .any) v17) fun v18 =>
 COND v18 (
 bindP (aFad 3 v12) fun v19 =>
 bindP (aLd σ none v19) fun v20 =>
 bindP (aFad 3 v1) fun v21 =>
 bindP (aLd σ none v21) fun v22 =>
 bindP (aIad 2 v22 (s14.getD 1 .any)) fun v24 =>
 bindP (aLd σ (some 2) v24) fun v25 =>
 bindH (hBsl σ (n + 16 * 7) 2 [(.string ⟨#[]⟩), (.int .i64 0)] 1 [(0, v25)]) fun v26 w26 =>
 bindH (hApp (applyW σ w26) (n + 16 * 8) 2 24 v20 v26) fun v27 w27 =>
 bindP (aFad 3 v12) fun v28 =>
 bindH (hSt (applyW (applyW σ w26) w27) 1 v28 v27) fun v29 w29 =>
 Apt (names []) (rdA v19) (names []) (rdA v21) ∧
 Apt (names []) (rdA v19) (names []) (rdA v24) ∧
 Apt (names []) (rdA v19) (names w26) (names w26) ∧
 ∀ n_, n + 16 * 11 ≤ n_ → (fun n => (fun σ => bindP (semBin .add (s14.getD 1 .any) (.sc (.int .i64 1))) fun v30 =>
 K14 [v18, v30] σ n) (applyW (applyW (applyW σ w26) w27) w29)) n_) (
 bindP (aLd σ (some 4) v12) fun v31 =>
 bindS (hSt σ 4 v2 v31) σ n fun v32 σ n =>
 bindP (aLd σ (some 4) v2) fun v33 =>
 R (.ret v33) σ n)
attribute [go_sem] lb_law06_Of1
def sc_law06_Of : SCode := (.seq (.reg [
   ⟨(some 1), none, (.box (.t 0))⟩,
    ⟨(some 2), none, (.alloc [(.string ⟨#[]⟩), (.slice none 0 0), (.int .i64 0), (.slice none 0 0)])⟩]) (.seq (.reg [
   ⟨(some 3), none, (.mv (.c .em))⟩]) (.seq (.regD [(⟨(some 6), none, (.fad 0 (.t 1))⟩, []), (⟨(some 7), none, (.ld none (.t 6))⟩, [0]), (⟨(some 8), none, (.mv (.t 3))⟩, []), (⟨(some 9), none, (.fad 1 (.t 1))⟩, []), (⟨(some 10), none, (.ld none (.t 9))⟩, [3]), (⟨(some 11), none, (.app 3 32 (.t 8) (.t 10))⟩, [2, 4, 3]), (⟨(some 12), none, (.fad 2 (.t 1))⟩, []), (⟨(some 13), none, (.ld none (.t 12))⟩, [6]), (⟨(some 14), none, (.build [(.string ⟨#[]⟩), (.slice none 0 0), (.int .i64 0), (.slice none 0 0)] [(0, (1, (.t 7))), (1, (1, (.t 11))), (2, (1, (.t 13)))])⟩, [1, 0, 5, 2, 4, 3, 7, 6]), (⟨(some 4), none, (.alloc [(.string ⟨#[]⟩), (.slice none 0 0), (.int .i64 0), (.slice none 0 0)])⟩, []), (⟨none, none, (.st 4 (.t 4) (.t 14))⟩, [9, 8, 1, 0, 5, 2, 4, 3, 7, 6])]) (.seq (.seq (.reg [
   ⟨(some 5), none, (.mv (.c (.sc (.int .i64 0))))⟩]) (.block 0 (.loop [19, 5] [15, 16, 17, 18, 19, 22, 23, 24, 25, 26, 27, 28, 29, 30, 31, 20, 21, 5] (.seq (.seq (.reg [
   ⟨(some 15), none, (.mv (.t 5))⟩,
    ⟨(some 16), none, (.fad 3 (.t 1))⟩,
    ⟨(some 17), none, (.ld none (.t 16))⟩,
    ⟨(some 18), none, (.len false (.t 17))⟩,
    ⟨(some 19), none, (.bin .lss (.t 15) (.t 18))⟩]) (.cond (.t 19) .skip (.exit 0))) (.seq (.block 1 (.regD [(⟨(some 22), none, (.fad 3 (.t 4))⟩, []), (⟨(some 23), none, (.ld none (.t 22))⟩, [0]), (⟨(some 24), none, (.fad 3 (.t 1))⟩, []), (⟨(some 25), none, (.ld none (.t 24))⟩, [2]), (⟨(some 26), none, (.mv (.t 5))⟩, []), (⟨(some 27), none, (.iad 2 (.t 25) (.t 26))⟩, [3, 2, 4]), (⟨(some 28), none, (.ld (some 2) (.t 27))⟩, [5, 3, 2, 4]), (⟨(some 29), none, (.bsl 2 [(.string ⟨#[]⟩), (.int .i64 0)] 1 [(0, (.t 28))])⟩, [6, 5, 3, 2, 4]), (⟨(some 30), none, (.app 2 24 (.t 23) (.t 29))⟩, [1, 0, 7, 6, 5, 3, 2, 4]), (⟨(some 31), none, (.fad 3 (.t 4))⟩, [0, 1, 2, 3, 4, 5, 6, 7, 8]), (⟨none, none, (.st 1 (.t 31) (.t 30))⟩, [9, 0, 1, 2, 3, 4, 5, 6, 7, 8])])) (.reg [
   ⟨(some 20), none, (.mv (.t 5))⟩,
    ⟨(some 21), none, (.bin .add (.t 20) (.c (.sc (.int .i64 1))))⟩,
    ⟨(some 5), none, (.mv (.t 21))⟩])))))) (.seq (.reg [
   ⟨(some 32), none, (.ld (some 4) (.t 4))⟩,
    ⟨none, none, (.st 4 (.t 2) (.t 32))⟩]) .ret)))))
def sh_law06_Of (a0 : AV) (σ : Hp) (n : Nat) (R : AEnd → Hp → Nat → Prop) : Prop :=
 bindS (hBox n a0) σ n fun v1 σ n =>
 bindS (hAlloc n [(.string ⟨#[]⟩), (.slice none 0 0), (.int .i64 0), (.slice none 0 0)]) σ n fun v2 σ n =>
 bindP (aFad 0 v1) fun v3 =>
 bindP (aLd σ none v3) fun v4 =>
 bindP (aFad 1 v1) fun v6 =>
 bindP (aLd σ none v6) fun v7 =>
 bindH (hApp σ (n + 16 * 5) 3 32 .em v7) fun v8 w8 =>
 bindP (aFad 2 v1) fun v9 =>
 bindP (aLd σ none v9) fun v10 =>
 bindP (aBuild [(.string ⟨#[]⟩), (.slice none 0 0), (.int .i64 0), (.slice none 0 0)] [(0, 1, v4), (1, 1, v8), (2, 1, v10)]) fun v11 =>
 bindH (hAlloc (n + 16 * 9) [(.string ⟨#[]⟩), (.slice none 0 0), (.int .i64 0), (.slice none 0 0)]) fun v12 w12 =>
 bindH (hSt (applyW (applyW σ w8) w12) 4 v12 v11) fun v13 w13 =>
 Apt (names []) (rdA v3) (names []) (rdA v6) ∧
 Apt (names []) (rdA v3) (names w8) (rdY .em ++ (rdY v7 ++ names w8)) ∧
 Apt (names []) (rdA v3) (names []) (rdA v9) ∧
 Apt (names []) (rdA v6) (names []) (rdA v9) ∧
 Apt (names w8) (rdY .em ++ (rdY v7 ++ names w8)) (names []) (rdA v9) ∧
 Apt (names []) (rdA v3) (names w12) (names w12) ∧
 Apt (names []) (rdA v6) (names w12) (names w12) ∧
 Apt (names w8) (rdY .em ++ (rdY v7 ++ names w8)) (names w12) (names w12) ∧
 Apt (names []) (rdA v9) (names w12) (names w12) ∧
 ∀ n_, n + 16 * 11 ≤ n_ → (fun n => (fun σ => LOOP (lb_law06_Of1 v1 v12 v2 R) [(.tp []), (.sc (.int .i64 0))] σ n) (applyW (applyW (applyW σ w8) w12) w13)) n_
theorem se_law06_Of (a0 : AV) (σ : Hp) (n : Nat) (R : AEnd → Hp → Nat → Prop) : sh_law06_Of a0 σ n R = swp Try.prog sc_law06_Of (retQ [(.c 2 (some 4))] R) (entry [a0]) σ n := by kernel_rfl
theorem by_law06_Of {a0 : AV} {σ : Hp} {n : Nat} {R : AEnd → Hp → Nat → Prop} (h : sh_law06_Of a0 σ n R) : ConH Try.prog 27 [a0] σ n R := by
  rw [se_law06_Of] at h
  exact conH_of [(.c 2 (some 4))] (fn := Try.f27) rfl [0, 3, 19, 1, 5, 4, 2] (by kernel_rfl) (by kernel_rfl) (by kernel_rfl) (by kernel_rfl) h
/-- switchback/check.told -/
def jk_check_told1 (R : AEnd → Hp → Nat → Prop) (v3 : AV) (s4 : List AV) (σ : Hp) (n : Nat) : Prop :=
 R (.ret v3) σ n
attribute [go_sem] jk_check_told1
def sc_check_told : SCode := (.seq (.reg [
   ⟨(some 4), none, (.mv (.c (.sc (.bool false))))⟩]) (.seq (.reg [
   ⟨(some 8), none, (.mv (.t 0))⟩,
    ⟨(some 9), none, (.tas 29 (.int .i64 0) (.t 8))⟩,
    ⟨(some 7), none, (.mv (.t 9))⟩,
    ⟨(some 10), none, (.ext (.t 7) 0)⟩,
    ⟨(some 11), none, (.ext (.t 7) 1)⟩,
    ⟨(some 5), none, (.mv (.t 10))⟩,
    ⟨(some 6), none, (.mv (.t 11))⟩]) (.seqJ [12] [12, 13, 14, 15] (.seq (.reg [
   ⟨(some 12), none, (.mv (.t 6))⟩]) (.cond (.t 12) (.reg [
   ⟨(some 13), none, (.mv (.t 1))⟩,
    ⟨(some 14), none, (.mv (.t 5))⟩,
    ⟨(some 15), none, (.nck (.t 13))⟩,
    ⟨none, none, (.st 1 (.t 15) (.t 14))⟩]) .skip)) (.seq (.reg [
   ⟨(some 16), none, (.mv (.t 6))⟩,
    ⟨(some 4), none, (.mv (.t 16))⟩]) .ret))))
def sh_check_told (a0 a1 : AV) (σ : Hp) (n : Nat) (R : AEnd → Hp → Nat → Prop) : Prop :=
 bindP (aTas 29 (.int .i64 0) a0) fun v1 =>
 bindP (aExt v1 0) fun v2 =>
 bindP (aExt v1 1) fun v3 =>
 JOIN (jk_check_told1 R v3) fun K4 =>
 COND v3 (
 bindP (aNck a1) fun v5 =>
 bindS (hSt σ 1 v5 v2) σ n fun v6 σ n =>
 K4 [v3] σ n) (
 K4 [v3] σ n)
theorem se_check_told (a0 a1 : AV) (σ : Hp) (n : Nat) (R : AEnd → Hp → Nat → Prop) : sh_check_told a0 a1 σ n R = swp Try.prog sc_check_told (retQ [(.t 4)] R) (entry [a0, a1]) σ n := by kernel_rfl
theorem by_check_told {a0 a1 : AV} {σ : Hp} {n : Nat} {R : AEnd → Hp → Nat → Prop} (h : sh_check_told a0 a1 σ n R) : ConH Try.prog 51 [a0, a1] σ n R := by
  rw [se_check_told] at h
  exact conH_of [(.t 4)] (fn := Try.f51) rfl [0, 12, 1, 5, 6, 4] (by kernel_rfl) (by kernel_rfl) (by kernel_rfl) (by kernel_rfl) h
/-- (switchback/check.scope).expr -/
def kc_check_scope_expr1 (v2 : AV) (R : AEnd → Hp → Nat → Prop) (r : AEnd) (σ : Hp) (n : Nat) : Prop :=
 onEnd r (fun v15 =>
 bindP (aExt v15 0) fun v17 =>
 bindP (aExt v15 1) fun v18 =>
 bindP (aBuild [(.int .i64 0), (.int .i64 0), (.string ⟨#[]⟩)] [(0, 1, (.sc (.int .i64 1))), (1, 1, v17)]) fun v19 =>
 bindP (aBuild [(.int .i64 0), (.int .i64 0), (.int .i64 0), (.string ⟨#[]⟩), (.string ⟨#[]⟩), (.string ⟨#[]⟩), (.slice none 0 0)] [(0, 1, (.sc (.int .i64 1))), (1, 3, v19)]) fun v20 =>
 bindS (hSt σ 7 v2 v20) σ n fun v21 σ n =>
 bindP (aLd σ (some 7) v2) fun v22 =>
 R (.ret (.tp [v22, v18])) σ n) (fun v16 => R (.pan v16) σ n)
def kc_check_scope_expr2 (v26 : AV) (s31 : List AV) (K31 : List AV → Hp → Nat → Prop) (v32 : AV) (v35 : AV) (R : AEnd → Hp → Nat → Prop) (r : AEnd) (σ : Hp) (n : Nat) : Prop :=
 onEnd r (fun v42 =>
 bindP (aExt v42 0) fun v44 =>
 bindP (aExt v42 1) fun v45 =>
 bindS (hAlloc n [(.int .i64 0), (.int .i64 0), (.int .i64 0), (.string ⟨#[]⟩), (.string ⟨#[]⟩), (.string ⟨#[]⟩), (.slice none 0 0)]) σ n fun v46 σ n =>
 bindS (hSt σ 7 v46 v44) σ n fun v47 σ n =>
 bindP (aFad 6 v26) fun v48 =>
 bindP (aLd σ none v48) fun v49 =>
 bindP (aLd σ (some 7) v46) fun v50 =>
 bindS (hBsl σ n 7 [(.int .i64 0), (.int .i64 0), (.int .i64 0), (.string ⟨#[]⟩), (.string ⟨#[]⟩), (.string ⟨#[]⟩), (.slice none 0 0)] 1 [(0, v50)]) σ n fun v51 σ n =>
 bindS (hApp σ n 7 96 v49 v51) σ n fun v52 σ n =>
 bindS (hBsl σ n 1 [(.int .i64 0)] 1 [(0, v45)]) σ n fun v53 σ n =>
 bindS (hApp σ n 1 8 (s31.getD 4 .any) v53) σ n fun v54 σ n =>
 bindP (aFad 6 v26) fun v55 =>
 bindS (hSt σ 1 v55 v52) σ n fun v56 σ n =>
 bindP (semBin .add (s31.getD 5 .any) (.sc (.int .i64 1))) fun v57 =>
 K31 [v32, v35, v46, v45, v54, v57] σ n) (fun v43 => R (.pan v43) σ n)
def kc_check_scope_expr3 (v26 : AV) (v2 : AV) (R : AEnd → Hp → Nat → Prop) (v60 : AV) (r : AEnd) (σ : Hp) (n : Nat) : Prop :=
 onEnd r (fun v66 =>
 bindP (aLd σ (some 7) v26) fun v68 =>
 bindS (hSt σ 7 v2 v68) σ n fun v69 σ n =>
 bindP (aLd σ (some 7) v2) fun v70 =>
 R (.ret (.tp [v70, v60])) σ n) (fun v67 => R (.pan v67) σ n)
def kc_check_scope_expr4 (a2 : AV) (v1 : AV) (v26 : AV) (v2 : AV) (R : AEnd → Hp → Nat → Prop) (r : AEnd) (σ : Hp) (n : Nat) : Prop :=
 onEnd r (fun v60 =>
 guardP a2 false (aFad 0 v1) fun v62 =>
 guardP a2 false (aLd σ none v62) fun v63 =>
 guardP a2 false (semBin .lss v63 (.sc (.int .i64 18))) fun v64 =>
 bindP (aPick a2 (.sc (.bool true)) v64) fun v65 =>
 CALL Try.prog (.fn 63 []) [v65, (.sc (.int .i64 1))] σ n (kc_check_scope_expr3 v26 v2 R v60)) (fun v61 => R (.pan v61) σ n)
def lb_check_scope_expr5 (v30 : AV) (v29 : AV) (a2 : AV) (v1 : AV) (a0 : AV) (v26 : AV) (R : AEnd → Hp → Nat → Prop) (v2 : AV) (K31 : List AV → Hp → Nat → Prop) (s31 : List AV) (σ : Hp) (n : Nat) : Prop :=
 bindP (semBin .lss (s31.getD 5 .any) v30) fun v32 =>
 COND v32 (
 bindP (aIad 7 v29 (s31.getD 5 .any)) fun v33 =>
 bindP (aLd σ (some 7) v33) fun v34 =>
 bindS (hAlloc n [(.int .i64 0), (.int .i64 0), (.int .i64 0), (.string ⟨#[]⟩), (.string ⟨#[]⟩), (.string ⟨#[]⟩), (.slice none 0 0)]) σ n fun v35 σ n =>
 bindS (hSt σ 7 v35 v34) σ n fun v36 σ n =>
 bindP (aLd σ (some 7) v35) fun v37 =>
 guardP a2 true (aFad 0 v1) fun v38 =>
 guardP a2 true (aLd σ none v38) fun v39 =>
 guardP a2 true (semBin .lss v39 (.sc (.int .i64 18))) fun v40 =>
 bindP (aPick a2 v40 (.sc (.bool false))) fun v41 =>
 CALL Try.prog (.fn 52 []) [a0, v37, v41] σ n (kc_check_scope_expr2 v26 s31 K31 v32 v35 R)) (
 bindP (aFad 0 v1) fun v58 =>
 bindP (aLd σ none v58) fun v59 =>
 CALL Try.prog (.fn 98 []) [v59, (s31.getD 4 .any)] σ n (kc_check_scope_expr4 a2 v1 v26 v2 R))
attribute [go_sem] kc_check_scope_expr1 kc_check_scope_expr2 kc_check_scope_expr3 kc_check_scope_expr4 lb_check_scope_expr5
def sc_check_scope_expr : SCode := (.seq (.reg [
   ⟨(some 4), none, (.box (.t 1))⟩,
    ⟨(some 6), none, (.alloc [(.int .i64 0), (.int .i64 0), (.int .i64 0), (.string ⟨#[]⟩), (.string ⟨#[]⟩), (.string ⟨#[]⟩), (.slice none 0 0)])⟩,
    ⟨(some 7), none, (.mv (.c (.sc (.int .i64 0))))⟩]) (.seq (.seq (.reg [
   ⟨(some 17), none, (.fad 0 (.t 4))⟩,
    ⟨(some 18), none, (.ld none (.t 17))⟩]) (.block 0 (.seq (.reg [
   ⟨(some 20), none, (.bin .eql (.t 18) (.c (.sc (.int .i64 0))))⟩,
    ⟨(some 19), none, (.mv (.t 20))⟩]) (.cond (.t 19) (.seq (.regD [(⟨(some 21), none, (.ld (some 7) (.t 4))⟩, []), (⟨(some 22), none, (.fad 1 (.t 4))⟩, []), (⟨(some 23), none, (.fad 0 (.t 22))⟩, [1]), (⟨(some 24), none, (.ld none (.t 23))⟩, [2, 1]), (⟨none, none, (.st 7 (.t 6) (.t 21))⟩, [0]), (⟨(some 7), none, (.mv (.t 24))⟩, [3, 2, 1, 4, 0])]) .ret) (.seq (.reg [
   ⟨(some 26), none, (.bin .eql (.t 18) (.c (.sc (.int .i64 1))))⟩,
    ⟨(some 25), none, (.mv (.t 26))⟩]) (.cond (.t 25) (.seq (.reg [
   ⟨(some 28), none, (.mv (.t 0))⟩,
    ⟨(some 29), none, (.ld (some 7) (.t 4))⟩,
    ⟨(some 30), none, (.call (.c (.fn 97 [])) [(.t 28), (.t 29)])⟩,
    ⟨(some 27), none, (.mv (.t 30))⟩,
    ⟨(some 31), none, (.ext (.t 27) 0)⟩,
    ⟨(some 32), none, (.ext (.t 27) 1)⟩,
    ⟨(some 8), none, (.mv (.t 31))⟩,
    ⟨(some 9), none, (.mv (.t 32))⟩]) (.seq (.reg [
   ⟨(some 33), none, (.mv (.t 8))⟩,
    ⟨(some 34), none, (.build [(.int .i64 0), (.int .i64 0), (.string ⟨#[]⟩)] [(0, (1, (.c (.sc (.int .i64 1))))), (1, (1, (.t 33)))])⟩,
    ⟨(some 35), none, (.build [(.int .i64 0), (.int .i64 0), (.int .i64 0), (.string ⟨#[]⟩), (.string ⟨#[]⟩), (.string ⟨#[]⟩), (.slice none 0 0)] [(0, (1, (.c (.sc (.int .i64 1))))), (1, (3, (.t 34)))])⟩,
    ⟨(some 36), none, (.mv (.t 9))⟩,
    ⟨none, none, (.st 7 (.t 6) (.t 35))⟩,
    ⟨(some 7), none, (.mv (.t 36))⟩]) .ret)) .skip)))))) (.seq (.reg [
   ⟨(some 37), none, (.fad 0 (.t 4))⟩,
    ⟨(some 38), none, (.ld none (.t 37))⟩,
    ⟨(some 39), none, (.build [(.int .i64 0), (.int .i64 0), (.int .i64 0), (.string ⟨#[]⟩), (.string ⟨#[]⟩), (.string ⟨#[]⟩), (.slice none 0 0)] [(0, (1, (.t 38)))])⟩,
    ⟨(some 10), none, (.alloc [(.int .i64 0), (.int .i64 0), (.int .i64 0), (.string ⟨#[]⟩), (.string ⟨#[]⟩), (.string ⟨#[]⟩), (.slice none 0 0)])⟩,
    ⟨none, none, (.st 7 (.t 10) (.t 39))⟩]) (.seq (.reg [
   ⟨(some 11), none, (.mv (.c .em))⟩]) (.seq (.seq (.reg [
   ⟨(some 40), none, (.fad 6 (.t 4))⟩,
    ⟨(some 41), none, (.ld none (.t 40))⟩,
    ⟨(some 42), none, (.len false (.t 41))⟩,
    ⟨(some 43), none, (.mv (.c (.sc (.int .i64 0))))⟩]) (.block 1 (.loop [44, 13, 14, 15, 11, 43] [44, 45, 46, 13, 48, 49, 50, 51, 52, 53, 54, 55, 56, 47, 57, 58, 14, 15, 59, 60, 61, 62, 63, 64, 65, 66, 67, 68, 11, 69, 43] (.seq (.reg [
   ⟨(some 44), none, (.bin .lss (.t 43) (.t 42))⟩]) (.seq (.cond (.t 44) .skip (.exit 1)) (.seq (.block 2 (.seq (.reg [
   ⟨(some 45), none, (.iad 7 (.t 41) (.t 43))⟩,
    ⟨(some 46), none, (.ld (some 7) (.t 45))⟩,
    ⟨(some 13), none, (.alloc [(.int .i64 0), (.int .i64 0), (.int .i64 0), (.string ⟨#[]⟩), (.string ⟨#[]⟩), (.string ⟨#[]⟩), (.slice none 0 0)])⟩,
    ⟨none, none, (.st 7 (.t 13) (.t 46))⟩]) (.seq (.reg [
   ⟨(some 48), none, (.mv (.t 0))⟩,
    ⟨(some 49), none, (.ld (some 7) (.t 13))⟩,
    ⟨(some 50), none, (.mv (.t 2))⟩,
    ⟨(some 51), none, (.mv (.t 50))⟩,
    ⟨(some 52), (some (51, true)), (.fad 0 (.t 4))⟩,
    ⟨(some 53), (some (51, true)), (.ld none (.t 52))⟩,
    ⟨(some 54), (some (51, true)), (.bin .lss (.t 53) (.c (.sc (.int .i64 18))))⟩,
    ⟨(some 55), none, (.pick (.t 51) (.t 54) (.c (.sc (.bool false))))⟩,
    ⟨(some 56), none, (.call (.c (.fn 52 [])) [(.t 48), (.t 49), (.t 55)])⟩,
    ⟨(some 47), none, (.mv (.t 56))⟩,
    ⟨(some 57), none, (.ext (.t 47) 0)⟩,
    ⟨(some 58), none, (.ext (.t 47) 1)⟩,
    ⟨(some 14), none, (.alloc [(.int .i64 0), (.int .i64 0), (.int .i64 0), (.string ⟨#[]⟩), (.string ⟨#[]⟩), (.string ⟨#[]⟩), (.slice none 0 0)])⟩,
    ⟨none, none, (.st 7 (.t 14) (.t 57))⟩,
    ⟨(some 15), none, (.mv (.t 58))⟩]) (.reg [
   ⟨(some 59), none, (.fad 6 (.t 10))⟩,
    ⟨(some 60), none, (.ld none (.t 59))⟩,
    ⟨(some 61), none, (.ld (some 7) (.t 14))⟩,
    ⟨(some 62), none, (.bsl 7 [(.int .i64 0), (.int .i64 0), (.int .i64 0), (.string ⟨#[]⟩), (.string ⟨#[]⟩), (.string ⟨#[]⟩), (.slice none 0 0)] 1 [(0, (.t 61))])⟩,
    ⟨(some 63), none, (.app 7 96 (.t 60) (.t 62))⟩,
    ⟨(some 64), none, (.mv (.t 11))⟩,
    ⟨(some 65), none, (.mv (.t 15))⟩,
    ⟨(some 66), none, (.bsl 1 [(.int .i64 0)] 1 [(0, (.t 65))])⟩,
    ⟨(some 67), none, (.app 1 8 (.t 64) (.t 66))⟩,
    ⟨(some 68), none, (.fad 6 (.t 10))⟩,
    ⟨none, none, (.st 1 (.t 68) (.t 63))⟩,
    ⟨(some 11), none, (.mv (.t 67))⟩])))) (.reg [
   ⟨(some 69), none, (.bin .add (.t 43) (.c (.sc (.int .i64 1))))⟩,
    ⟨(some 43), none, (.mv (.t 69))⟩]))))))) (.seq (.reg [
   ⟨(some 70), none, (.fad 0 (.t 4))⟩,
    ⟨(some 71), none, (.ld none (.t 70))⟩,
    ⟨(some 72), none, (.mv (.t 11))⟩,
    ⟨(some 73), none, (.call (.c (.fn 98 [])) [(.t 71), (.t 72)])⟩,
    ⟨(some 16), none, (.mv (.t 73))⟩]) (.seq (.reg [
   ⟨(some 74), none, (.mv (.t 2))⟩,
    ⟨(some 75), none, (.mv (.t 74))⟩,
    ⟨(some 76), (some (75, false)), (.fad 0 (.t 4))⟩,
    ⟨(some 77), (some (75, false)), (.ld none (.t 76))⟩,
    ⟨(some 78), (some (75, false)), (.bin .lss (.t 77) (.c (.sc (.int .i64 18))))⟩,
    ⟨(some 79), none, (.pick (.t 75) (.c (.sc (.bool true))) (.t 78))⟩,
    ⟨(some 80), none, (.call (.c (.fn 63 [])) [(.t 79), (.c (.sc (.int .i64 1)))])⟩]) (.seq (.reg [
   ⟨(some 81), none, (.ld (some 7) (.t 10))⟩,
    ⟨(some 82), none, (.mv (.t 16))⟩,
    ⟨none, none, (.st 7 (.t 6) (.t 81))⟩,
    ⟨(some 7), none, (.mv (.t 82))⟩]) .ret))))))))
def sh_check_scope_expr (a0 a1 a2 : AV) (σ : Hp) (n : Nat) (R : AEnd → Hp → Nat → Prop) : Prop :=
 bindS (hBox n a1) σ n fun v1 σ n =>
 bindS (hAlloc n [(.int .i64 0), (.int .i64 0), (.int .i64 0), (.string ⟨#[]⟩), (.string ⟨#[]⟩), (.string ⟨#[]⟩), (.slice none 0 0)]) σ n fun v2 σ n =>
 bindP (aFad 0 v1) fun v3 =>
 bindP (aLd σ none v3) fun v4 =>
 bindP (semBin .eql v4 (.sc (.int .i64 0))) fun v5 =>
 COND v5 (
 bindP (aLd σ (some 7) v1) fun v6 =>
 bindP (aFad 1 v1) fun v7 =>
 bindP (aFad 0 v7) fun v8 =>
 bindP (aLd σ none v8) fun v9 =>
 bindH (hSt σ 7 v2 v6) fun v10 w10 =>
 Apt (names []) (rdA v1) (names []) (rdA v8) ∧
 Apt (names []) (rdA v8) (names w10) (names w10) ∧
 ∀ n_, n + 16 * 6 ≤ n_ → (fun n => (fun σ => bindP (aLd σ (some 7) v2) fun v12 =>
 R (.ret (.tp [v12, v9])) σ n) (applyW σ w10)) n_) (
 bindP (semBin .eql v4 (.sc (.int .i64 1))) fun v13 =>
 COND v13 (
 bindP (aLd σ (some 7) v1) fun v14 =>
 CALL Try.prog (.fn 97 []) [a0, v14] σ n (kc_check_scope_expr1 v2 R)) (
 bindP (aFad 0 v1) fun v23 =>
 bindP (aLd σ none v23) fun v24 =>
 bindP (aBuild [(.int .i64 0), (.int .i64 0), (.int .i64 0), (.string ⟨#[]⟩), (.string ⟨#[]⟩), (.string ⟨#[]⟩), (.slice none 0 0)] [(0, 1, v24)]) fun v25 =>
 bindS (hAlloc n [(.int .i64 0), (.int .i64 0), (.int .i64 0), (.string ⟨#[]⟩), (.string ⟨#[]⟩), (.string ⟨#[]⟩), (.slice none 0 0)]) σ n fun v26 σ n =>
 bindS (hSt σ 7 v26 v25) σ n fun v27 σ n =>
 bindP (aFad 6 v1) fun v28 =>
 bindP (aLd σ none v28) fun v29 =>
 bindP (aLen false v29) fun v30 => bnd σ v29 →
 LOOP (lb_check_scope_expr5 v30 v29 a2 v1 a0 v26 R v2) [(.tp []), (.tp []), (.tp []), (.tp []), .em, (.sc (.int .i64 0))] σ n))
theorem se_check_scope_expr (a0 a1 a2 : AV) (σ : Hp) (n : Nat) (R : AEnd → Hp → Nat → Prop) : sh_check_scope_expr a0 a1 a2 σ n R = swp Try.prog sc_check_scope_expr (retQ [(.c 6 (some 7)), (.t 7)] R) (entry [a0, a1, a2]) σ n := by kernel_rfl
theorem by_check_scope_expr {a0 a1 a2 : AV} {σ : Hp} {n : Nat} {R : AEnd → Hp → Nat → Prop} (h : sh_check_scope_expr a0 a1 a2 σ n R) : ConH Try.prog 52 [a0, a1, a2] σ n R := by
  rw [se_check_scope_expr] at h
  exact conH_of [(.c 6 (some 7)), (.t 7)] (fn := Try.f52) rfl [1, 19, 18, 25, 8, 9, 42, 44, 41, 0, 13, 14, 15, 43, 11, 2, 4, 10, 16, 6, 7] (by kernel_rfl) (by kernel_rfl) (by kernel_rfl) (by kernel_rfl) h
/-- switchback/switchbackref04.CheckExpr -/
def kc_ref04_CheckExpr1 (R : AEnd → Hp → Nat → Prop) (r : AEnd) (σ : Hp) (n : Nat) : Prop :=
 onEnd r (fun v3 =>
 bindP (aExt v3 0) fun v5 =>
 bindP (aExt v3 1) fun v6 =>
 R (.ret v6) σ n) (fun v4 => R (.pan v4) σ n)
attribute [go_sem] kc_ref04_CheckExpr1
def sc_ref04_CheckExpr : SCode := (.seq (.reg [
   ⟨(some 1), none, (.box (.t 0))⟩,
    ⟨(some 2), none, (.mv (.c (.sc (.int .i64 0))))⟩]) (.seq (.reg [
   ⟨(some 6), none, (.ld (some 7) (.t 1))⟩,
    ⟨(some 7), none, (.call (.c (.fn 99 [])) [(.t 6), (.c (.sc (.int .i64 1))), (.c (.sc (.int .i64 0)))])⟩,
    ⟨(some 5), none, (.mv (.t 7))⟩,
    ⟨(some 8), none, (.ext (.t 5) 0)⟩,
    ⟨(some 9), none, (.ext (.t 5) 1)⟩,
    ⟨(some 3), none, (.mv (.t 8))⟩,
    ⟨(some 4), none, (.mv (.t 9))⟩]) (.seq (.reg [
   ⟨(some 10), none, (.mv (.t 4))⟩,
    ⟨(some 2), none, (.mv (.t 10))⟩]) .ret)))
def sh_ref04_CheckExpr (a0 : AV) (σ : Hp) (n : Nat) (R : AEnd → Hp → Nat → Prop) : Prop :=
 bindS (hBox n a0) σ n fun v1 σ n =>
 bindP (aLd σ (some 7) v1) fun v2 =>
 CALL Try.prog (.fn 99 []) [v2, (.sc (.int .i64 1)), (.sc (.int .i64 0))] σ n (kc_ref04_CheckExpr1 R)
theorem se_ref04_CheckExpr (a0 : AV) (σ : Hp) (n : Nat) (R : AEnd → Hp → Nat → Prop) : sh_ref04_CheckExpr a0 σ n R = swp Try.prog sc_ref04_CheckExpr (retQ [(.t 2)] R) (entry [a0]) σ n := by kernel_rfl
theorem by_ref04_CheckExpr {a0 : AV} {σ : Hp} {n : Nat} {R : AEnd → Hp → Nat → Prop} (h : sh_ref04_CheckExpr a0 σ n R) : ConH Try.prog 53 [a0] σ n R := by
  rw [se_ref04_CheckExpr] at h
  exact conH_of [(.t 2)] (fn := Try.f53) rfl [0, 1, 4, 2] (by kernel_rfl) (by kernel_rfl) (by kernel_rfl) (by kernel_rfl) h
/-- switchback/switchbackref07.expr -/
def kc_ref07_expr1 (v2 : AV) (R : AEnd → Hp → Nat → Prop) (v19 : AV) (r : AEnd) (σ : Hp) (n : Nat) : Prop :=
 onEnd r (fun v25 =>
 bindS (hSt σ 7 v2 v25) σ n fun v27 σ n =>
 bindP (aLd σ (some 7) v2) fun v28 =>
 R (.ret (.tp [v28, v19, (.sc (.int .i64 0))])) σ n) (fun v26 => R (.pan v26) σ n)
def kc_ref07_expr2 (v2 : AV) (R : AEnd → Hp → Nat → Prop) (r : AEnd) (σ : Hp) (n : Nat) : Prop :=
 onEnd r (fun v16 =>
 bindP (aExt v16 0) fun v18 =>
 bindP (aExt v16 1) fun v19 =>
 bindP (aExt v16 2) fun v20 =>
 bindP (semBin .neq v20 (.sc (.int .i64 0))) fun v21 =>
 COND v21 (
 bindP (aBuild [(.int .i64 0), (.int .i64 0), (.int .i64 0), (.string ⟨#[]⟩), (.string ⟨#[]⟩), (.string ⟨#[]⟩), (.slice none 0 0)] []) fun v22 =>
 bindS (hSt σ 7 v2 v22) σ n fun v23 σ n =>
 bindP (aLd σ (some 7) v2) fun v24 =>
 R (.ret (.tp [v24, (.sc (.int .i64 0)), v20])) σ n) (
 CALL Try.prog (.fn 101 []) [v18] σ n (kc_ref07_expr1 v2 R v19))) (fun v17 => R (.pan v17) σ n)
def kd_ref07_expr3 (n : Nat) (σ : Hp) (v40 : AV) (v47 : AV) (v43 : AV) (v2 : AV) (R : AEnd → Hp → Nat → Prop) (v32 : AV) (s34 : List AV) (K34 : List AV → Hp → Nat → Prop) (v38 : AV) (r : AEnd) (w51 : Wr) (d51 : List Nat) : Prop :=
 onEnd r (fun v51 =>
 bindP (aExt v51 0) fun v54 =>
 bindP (aExt v51 1) fun v55 =>
 bindP (aExt v51 2) fun v56 =>
 bindH (hAlloc (n + 16 * 17) [(.int .i64 0), (.int .i64 0), (.int .i64 0), (.string ⟨#[]⟩), (.string ⟨#[]⟩), (.string ⟨#[]⟩), (.slice none 0 0)]) fun v57 w57 =>
 bindH (hSt (applyW (applyW σ w51) w57) 7 v57 v54) fun v58 w58 =>
 Apt (names []) (rdA v40) (names []) (rdA v47) ∧
 Apt (names []) (rdA v43) (names []) (rdA v47) ∧
 Apt (names []) (rdA v40) (names w57) (names w57) ∧
 Apt (names []) (rdA v43) (names w57) (names w57) ∧
 Apt (names []) (rdA v47) (names w57) (names w57) ∧
 Apt (names w51) d51 (names w57) (names w57) ∧
 ∀ n_, n + 16 * 21 ≤ n_ → (fun n => (fun σ => bindP (semBin .neq v56 (.sc (.int .i64 0))) fun v61 =>
 COND v61 (
 bindP (aBuild [(.int .i64 0), (.int .i64 0), (.int .i64 0), (.string ⟨#[]⟩), (.string ⟨#[]⟩), (.string ⟨#[]⟩), (.slice none 0 0)] []) fun v62 =>
 bindS (hSt σ 7 v2 v62) σ n fun v63 σ n =>
 bindP (aLd σ (some 7) v2) fun v64 =>
 R (.ret (.tp [v64, (.sc (.int .i64 0)), v56])) σ n) (
 bindP (aFad 6 v32) fun v65 =>
 bindP (aLd σ none v65) fun v66 =>
 bindP (aLd σ (some 7) v57) fun v67 =>
 bindS (hBsl σ n 7 [(.int .i64 0), (.int .i64 0), (.int .i64 0), (.string ⟨#[]⟩), (.string ⟨#[]⟩), (.string ⟨#[]⟩), (.slice none 0 0)] 1 [(0, v67)]) σ n fun v68 σ n =>
 bindS (hApp σ n 7 96 v66 v68) σ n fun v69 σ n =>
 bindS (hBsl σ n 1 [(.int .i64 0)] 1 [(0, v55)]) σ n fun v70 σ n =>
 bindS (hApp σ n 1 8 (s34.getD 7 .any) v70) σ n fun v71 σ n =>
 bindP (aFad 6 v32) fun v72 =>
 bindS (hSt σ 1 v72 v69) σ n fun v73 σ n =>
 bindP (semBin .add (s34.getD 8 .any) (.sc (.int .i64 1))) fun v74 =>
 K34 [v38, v57, v55, v56, v61, (s34.getD 5 .any), (s34.getD 6 .any), v71, v74] σ n)) (applyW (applyW (applyW σ w51) w57) w58)) n_) (fun v52 => bindH (hAlloc (n + 16 * 17) [(.int .i64 0), (.int .i64 0), (.int .i64 0), (.string ⟨#[]⟩), (.string ⟨#[]⟩), (.string ⟨#[]⟩), (.slice none 0 0)]) fun v75 w75 =>
 Apt (names []) (rdA v40) (names []) (rdA v47) ∧
 Apt (names []) (rdA v43) (names []) (rdA v47) ∧
 Apt (names []) (rdA v40) (names w75) (names w75) ∧
 Apt (names []) (rdA v43) (names w75) (names w75) ∧
 Apt (names []) (rdA v47) (names w75) (names w75) ∧
 Apt (names []) d51 (names w75) (names w75) ∧
 ∀ (fr_ : Regs) σ n, R (.pan v52) σ n)
def kc_ref07_expr4 (v2 : AV) (R : AEnd → Hp → Nat → Prop) (v1 : AV) (a2 : AV) (v32 : AV) (r : AEnd) (σ : Hp) (n : Nat) : Prop :=
 onEnd r (fun v78 =>
 bindP (aExt v78 0) fun v80 =>
 bindP (aExt v78 1) fun v81 =>
 bindP (semBin .neq v81 (.sc (.int .i64 0))) fun v82 =>
 COND v82 (
 bindP (aBuild [(.int .i64 0), (.int .i64 0), (.int .i64 0), (.string ⟨#[]⟩), (.string ⟨#[]⟩), (.string ⟨#[]⟩), (.slice none 0 0)] []) fun v83 =>
 bindS (hSt σ 7 v2 v83) σ n fun v84 σ n =>
 bindP (aLd σ (some 7) v2) fun v85 =>
 R (.ret (.tp [v85, (.sc (.int .i64 0)), v81])) σ n) (
 bindP (aFad 0 v1) fun v86 =>
 bindP (aLd σ none v86) fun v87 =>
 bindP (semBin .geq v87 (.sc (.int .i64 18))) fun v88 =>
 guardP v88 true (some a2) fun v89 =>
 guardP v88 true (aUn .not v89) fun v90 =>
 bindP (aPick v88 v90 (.sc (.bool false))) fun v91 =>
 COND v91 (
 bindP (aBuild [(.int .i64 0), (.int .i64 0), (.int .i64 0), (.string ⟨#[]⟩), (.string ⟨#[]⟩), (.string ⟨#[]⟩), (.slice none 0 0)] []) fun v92 =>
 bindS (hSt σ 7 v2 v92) σ n fun v93 σ n =>
 bindP (aLd σ (some 7) v2) fun v94 =>
 R (.ret (.tp [v94, (.sc (.int .i64 0)), (.sc (.int .i64 1))])) σ n) (
 bindP (aLd σ (some 7) v32) fun v95 =>
 bindS (hSt σ 7 v2 v95) σ n fun v96 σ n =>
 bindP (aLd σ (some 7) v2) fun v97 =>
 R (.ret (.tp [v97, v80, (.sc (.int .i64 0))])) σ n))) (fun v79 => R (.pan v79) σ n)
def lb_ref07_expr5 (v1 : AV) (a2 : AV) (a0 : AV) (v2 : AV) (R : AEnd → Hp → Nat → Prop) (v32 : AV) (K34 : List AV → Hp → Nat → Prop) (s34 : List AV) (σ : Hp) (n : Nat) : Prop :=
 bindP (aFad 6 v1) fun v35 =>
 bindP (aLd σ none v35) fun v36 =>
 bindP (aLen false v36) fun v37 => bnd σ v36 →
 bindP (semBin .lss (s34.getD 8 .any) v37) fun v38 =>
 COND v38 (
 bindP (aFad 6 v1) fun v40 =>
 bindP (aLd σ none v40) fun v41 =>
 bindP (aIad 7 v41 (s34.getD 8 .any)) fun v43 =>
 bindP (aLd σ (some 7) v43) fun v44 =>
 guardP a2 true (aFad 0 v1) fun v47 =>
 guardP a2 true (aLd σ none v47) fun v48 =>
 guardP a2 true (semBin .lss v48 (.sc (.int .i64 18))) fun v49 =>
 bindP (aPick a2 v49 (.sc (.bool false))) fun v50 =>
 callD Try.prog (.fn 54 []) [a0, v44, v50] σ (n + 16 * 12) (kd_ref07_expr3 n σ v40 v47 v43 v2 R v32 s34 K34 v38)) (
 bindP (aFad 0 v1) fun v76 =>
 bindP (aLd σ none v76) fun v77 =>
 CALL Try.prog (.fn 102 []) [v77, (s34.getD 7 .any)] σ n (kc_ref07_expr4 v2 R v1 a2 v32))
attribute [go_sem] kc_ref07_expr1 kc_ref07_expr2 kd_ref07_expr3 kc_ref07_expr4 lb_ref07_expr5
def sc_ref07_expr : SCode := (.seq (.reg [
   ⟨(some 4), none, (.box (.t 1))⟩,
    ⟨(some 6), none, (.alloc [(.int .i64 0), (.int .i64 0), (.int .i64 0), (.string ⟨#[]⟩), (.string ⟨#[]⟩), (.string ⟨#[]⟩), (.slice none 0 0)])⟩,
    ⟨(some 7), none, (.mv (.c (.sc (.int .i64 0))))⟩,
    ⟨(some 8), none, (.mv (.c (.sc (.int .i64 0))))⟩]) (.seq (.seq (.reg [
   ⟨(some 20), none, (.fad 0 (.t 4))⟩,
    ⟨(some 21), none, (.ld none (.t 20))⟩]) (.block 0 (.seq (.reg [
   ⟨(some 23), none, (.bin .eql (.t 21) (.c (.sc (.int .i64 0))))⟩,
    ⟨(some 22), none, (.mv (.t 23))⟩]) (.cond (.t 22) (.seq (.regD [(⟨(some 24), none, (.ld (some 7) (.t 4))⟩, []), (⟨(some 25), none, (.fad 1 (.t 4))⟩, []), (⟨(some 26), none, (.fad 0 (.t 25))⟩, [1]), (⟨(some 27), none, (.ld none (.t 26))⟩, [2, 1]), (⟨none, none, (.st 7 (.t 6) (.t 24))⟩, [0]), (⟨(some 7), none, (.mv (.t 27))⟩, [3, 2, 1, 4, 0]), (⟨(some 8), none, (.mv (.c (.sc (.int .i64 0))))⟩, [5, 3, 2, 1, 4, 0])]) .ret) (.seq (.reg [
   ⟨(some 29), none, (.bin .eql (.t 21) (.c (.sc (.int .i64 1))))⟩,
    ⟨(some 28), none, (.mv (.t 29))⟩]) (.cond (.t 28) (.seq (.reg [
   ⟨(some 31), none, (.mv (.t 0))⟩,
    ⟨(some 32), none, (.ld (some 7) (.t 4))⟩,
    ⟨(some 33), none, (.call (.c (.fn 100 [])) [(.t 31), (.t 32)])⟩,
    ⟨(some 30), none, (.mv (.t 33))⟩,
    ⟨(some 34), none, (.ext (.t 30) 0)⟩,
    ⟨(some 35), none, (.ext (.t 30) 1)⟩,
    ⟨(some 36), none, (.ext (.t 30) 2)⟩,
    ⟨(some 9), none, (.mv (.t 34))⟩,
    ⟨(some 10), none, (.mv (.t 35))⟩,
    ⟨(some 11), none, (.mv (.t 36))⟩]) (.seq (.seq (.reg [
   ⟨(some 37), none, (.mv (.t 11))⟩,
    ⟨(some 38), none, (.bin .neq (.t 37) (.c (.sc (.int .i64 0))))⟩]) (.cond (.t 38) (.seq (.reg [
   ⟨(some 39), none, (.build [(.int .i64 0), (.int .i64 0), (.int .i64 0), (.string ⟨#[]⟩), (.string ⟨#[]⟩), (.string ⟨#[]⟩), (.slice none 0 0)] [])⟩,
    ⟨(some 40), none, (.mv (.t 11))⟩,
    ⟨none, none, (.st 7 (.t 6) (.t 39))⟩,
    ⟨(some 7), none, (.mv (.c (.sc (.int .i64 0))))⟩,
    ⟨(some 8), none, (.mv (.t 40))⟩]) .ret) .skip)) (.seq (.reg [
   ⟨(some 41), none, (.mv (.t 9))⟩,
    ⟨(some 42), none, (.call (.c (.fn 101 [])) [(.t 41)])⟩,
    ⟨(some 43), none, (.mv (.t 10))⟩,
    ⟨none, none, (.st 7 (.t 6) (.t 42))⟩,
    ⟨(some 7), none, (.mv (.t 43))⟩,
    ⟨(some 8), none, (.mv (.c (.sc (.int .i64 0))))⟩]) .ret))) .skip)))))) (.seq (.reg [
   ⟨(some 44), none, (.fad 0 (.t 4))⟩,
    ⟨(some 45), none, (.ld none (.t 44))⟩,
    ⟨(some 46), none, (.build [(.int .i64 0), (.int .i64 0), (.int .i64 0), (.string ⟨#[]⟩), (.string ⟨#[]⟩), (.string ⟨#[]⟩), (.slice none 0 0)] [(0, (1, (.t 45)))])⟩,
    ⟨(some 12), none, (.alloc [(.int .i64 0), (.int .i64 0), (.int .i64 0), (.string ⟨#[]⟩), (.string ⟨#[]⟩), (.string ⟨#[]⟩), (.slice none 0 0)])⟩,
    ⟨none, none, (.st 7 (.t 12) (.t 46))⟩]) (.seq (.reg [
   ⟨(some 13), none, (.mv (.c .em))⟩]) (.seq (.seq (.reg [
   ⟨(some 14), none, (.mv (.c (.sc (.int .i64 0))))⟩]) (.block 1 (.loop [51, 15, 16, 17, 72, 7, 8, 13, 14] [47, 48, 49, 50, 51, 55, 56, 57, 58, 59, 60, 61, 62, 63, 64, 65, 66, 67, 54, 68, 69, 70, 15, 16, 17, 71, 72, 73, 74, 7, 8, 75, 76, 77, 78, 79, 80, 81, 82, 83, 84, 13, 52, 53, 14] (.seq (.seq (.reg [
   ⟨(some 47), none, (.mv (.t 14))⟩,
    ⟨(some 48), none, (.fad 6 (.t 4))⟩,
    ⟨(some 49), none, (.ld none (.t 48))⟩,
    ⟨(some 50), none, (.len false (.t 49))⟩,
    ⟨(some 51), none, (.bin .lss (.t 47) (.t 50))⟩]) (.cond (.t 51) .skip (.exit 1))) (.seq (.block 2 (.seq (.regD [(⟨(some 55), none, (.mv (.t 0))⟩, []), (⟨(some 56), none, (.fad 6 (.t 4))⟩, []), (⟨(some 57), none, (.ld none (.t 56))⟩, [1]), (⟨(some 58), none, (.mv (.t 14))⟩, []), (⟨(some 59), none, (.iad 7 (.t 57) (.t 58))⟩, [2, 1, 3]), (⟨(some 60), none, (.ld (some 7) (.t 59))⟩, [4, 2, 1, 3]), (⟨(some 61), none, (.mv (.t 2))⟩, []), (⟨(some 62), none, (.mv (.t 61))⟩, [6]), (⟨(some 63), (some (62, true)), (.fad 0 (.t 4))⟩, [7, 6]), (⟨(some 64), (some (62, true)), (.ld none (.t 63))⟩, [8, 7, 6]), (⟨(some 65), (some (62, true)), (.bin .lss (.t 64) (.c (.sc (.int .i64 18))))⟩, [9, 8, 7, 6]), (⟨(some 66), none, (.pick (.t 62) (.t 65) (.c (.sc (.bool false))))⟩, [7, 6, 10, 9, 8]), (⟨(some 67), none, (.call (.c (.fn 54 [])) [(.t 55), (.t 60), (.t 66)])⟩, [0, 5, 4, 2, 1, 3, 11, 7, 6, 10, 9, 8]), (⟨(some 54), none, (.mv (.t 67))⟩, [12, 0, 5, 4, 2, 1, 3, 11, 7, 6, 10, 9, 8]), (⟨(some 68), none, (.ext (.t 54) 0)⟩, [13, 12, 0, 5, 4, 2, 1, 3, 11, 7, 6, 10, 9, 8]), (⟨(some 69), none, (.ext (.t 54) 1)⟩, [13, 12, 0, 5, 4, 2, 1, 3, 11, 7, 6, 10, 9, 8]), (⟨(some 70), none, (.ext (.t 54) 2)⟩, [13, 12, 0, 5, 4, 2, 1, 3, 11, 7, 6, 10, 9, 8]), (⟨(some 15), none, (.alloc [(.int .i64 0), (.int .i64 0), (.int .i64 0), (.string ⟨#[]⟩), (.string ⟨#[]⟩), (.string ⟨#[]⟩), (.slice none 0 0)])⟩, []), (⟨none, none, (.st 7 (.t 15) (.t 68))⟩, [17, 14, 13, 12, 0, 5, 4, 2, 1, 3, 11, 7, 6, 10, 9, 8]), (⟨(some 16), none, (.mv (.t 69))⟩, [15, 13, 12, 0, 5, 4, 2, 1, 3, 11, 7, 6, 10, 9, 8, 18, 17, 14]), (⟨(some 17), none, (.mv (.t 70))⟩, [16, 13, 12, 0, 5, 4, 2, 1, 3, 11, 7, 6, 10, 9, 8, 19, 15, 18, 17, 14])]) (.seq (.seq (.reg [
   ⟨(some 71), none, (.mv (.t 17))⟩,
    ⟨(some 72), none, (.bin .neq (.t 71) (.c (.sc (.int .i64 0))))⟩]) (.cond (.t 72) (.seq (.reg [
   ⟨(some 73), none, (.build [(.int .i64 0), (.int .i64 0), (.int .i64 0), (.string ⟨#[]⟩), (.string ⟨#[]⟩), (.string ⟨#[]⟩), (.slice none 0 0)] [])⟩,
    ⟨(some 74), none, (.mv (.t 17))⟩,
    ⟨none, none, (.st 7 (.t 6) (.t 73))⟩,
    ⟨(some 7), none, (.mv (.c (.sc (.int .i64 0))))⟩,
    ⟨(some 8), none, (.mv (.t 74))⟩]) .ret) .skip)) (.reg [
   ⟨(some 75), none, (.fad 6 (.t 12))⟩,
    ⟨(some 76), none, (.ld none (.t 75))⟩,
    ⟨(some 77), none, (.ld (some 7) (.t 15))⟩,
    ⟨(some 78), none, (.bsl 7 [(.int .i64 0), (.int .i64 0), (.int .i64 0), (.string ⟨#[]⟩), (.string ⟨#[]⟩), (.string ⟨#[]⟩), (.slice none 0 0)] 1 [(0, (.t 77))])⟩,
    ⟨(some 79), none, (.app 7 96 (.t 76) (.t 78))⟩,
    ⟨(some 80), none, (.mv (.t 13))⟩,
    ⟨(some 81), none, (.mv (.t 16))⟩,
    ⟨(some 82), none, (.bsl 1 [(.int .i64 0)] 1 [(0, (.t 81))])⟩,
    ⟨(some 83), none, (.app 1 8 (.t 80) (.t 82))⟩,
    ⟨(some 84), none, (.fad 6 (.t 12))⟩,
    ⟨none, none, (.st 1 (.t 84) (.t 79))⟩,
    ⟨(some 13), none, (.mv (.t 83))⟩])))) (.reg [
   ⟨(some 52), none, (.mv (.t 14))⟩,
    ⟨(some 53), none, (.bin .add (.t 52) (.c (.sc (.int .i64 1))))⟩,
    ⟨(some 14), none, (.mv (.t 53))⟩])))))) (.seq (.reg [
   ⟨(some 86), none, (.fad 0 (.t 4))⟩,
    ⟨(some 87), none, (.ld none (.t 86))⟩,
    ⟨(some 88), none, (.mv (.t 13))⟩,
    ⟨(some 89), none, (.call (.c (.fn 102 [])) [(.t 87), (.t 88)])⟩,
    ⟨(some 85), none, (.mv (.t 89))⟩,
    ⟨(some 90), none, (.ext (.t 85) 0)⟩,
    ⟨(some 91), none, (.ext (.t 85) 1)⟩,
    ⟨(some 18), none, (.mv (.t 90))⟩,
    ⟨(some 19), none, (.mv (.t 91))⟩]) (.seq (.block 3 (.seq (.reg [
   ⟨(some 93), none, (.mv (.t 19))⟩,
    ⟨(some 94), none, (.bin .neq (.t 93) (.c (.sc (.int .i64 0))))⟩,
    ⟨(some 92), none, (.mv (.t 94))⟩]) (.cond (.t 92) (.seq (.reg [
   ⟨(some 95), none, (.build [(.int .i64 0), (.int .i64 0), (.int .i64 0), (.string ⟨#[]⟩), (.string ⟨#[]⟩), (.string ⟨#[]⟩), (.slice none 0 0)] [])⟩,
    ⟨(some 96), none, (.mv (.t 19))⟩,
    ⟨none, none, (.st 7 (.t 6) (.t 95))⟩,
    ⟨(some 7), none, (.mv (.c (.sc (.int .i64 0))))⟩,
    ⟨(some 8), none, (.mv (.t 96))⟩]) .ret) (.seq (.reg [
   ⟨(some 98), none, (.fad 0 (.t 4))⟩,
    ⟨(some 99), none, (.ld none (.t 98))⟩,
    ⟨(some 100), none, (.bin .geq (.t 99) (.c (.sc (.int .i64 18))))⟩,
    ⟨(some 101), none, (.mv (.t 100))⟩,
    ⟨(some 102), (some (101, true)), (.mv (.t 2))⟩,
    ⟨(some 103), (some (101, true)), (.un .not (.t 102))⟩,
    ⟨(some 104), none, (.pick (.t 101) (.t 103) (.c (.sc (.bool false))))⟩,
    ⟨(some 97), none, (.mv (.t 104))⟩]) (.cond (.t 97) (.seq (.reg [
   ⟨(some 105), none, (.build [(.int .i64 0), (.int .i64 0), (.int .i64 0), (.string ⟨#[]⟩), (.string ⟨#[]⟩), (.string ⟨#[]⟩), (.slice none 0 0)] [])⟩,
    ⟨none, none, (.st 7 (.t 6) (.t 105))⟩,
    ⟨(some 7), none, (.mv (.c (.sc (.int .i64 0))))⟩,
    ⟨(some 8), none, (.mv (.c (.sc (.int .i64 1))))⟩]) .ret) .skip))))) (.seq (.reg [
   ⟨(some 106), none, (.ld (some 7) (.t 12))⟩,
    ⟨(some 107), none, (.mv (.t 18))⟩,
    ⟨none, none, (.st 7 (.t 6) (.t 106))⟩,
    ⟨(some 7), none, (.mv (.t 107))⟩,
    ⟨(some 8), none, (.mv (.c (.sc (.int .i64 0))))⟩]) .ret))))))))
def sh_ref07_expr (a0 a1 a2 : AV) (σ : Hp) (n : Nat) (R : AEnd → Hp → Nat → Prop) : Prop :=
 bindS (hBox n a1) σ n fun v1 σ n =>
 bindS (hAlloc n [(.int .i64 0), (.int .i64 0), (.int .i64 0), (.string ⟨#[]⟩), (.string ⟨#[]⟩), (.string ⟨#[]⟩), (.slice none 0 0)]) σ n fun v2 σ n =>
 bindP (aFad 0 v1) fun v3 =>
 bindP (aLd σ none v3) fun v4 =>
 bindP (semBin .eql v4 (.sc (.int .i64 0))) fun v5 =>
 COND v5 (
 bindP (aLd σ (some 7) v1) fun v6 =>
 bindP (aFad 1 v1) fun v7 =>
 bindP (aFad 0 v7) fun v8 =>
 bindP (aLd σ none v8) fun v9 =>
 bindH (hSt σ 7 v2 v6) fun v10 w10 =>
 Apt (names []) (rdA v1) (names []) (rdA v8) ∧
 Apt (names []) (rdA v8) (names w10) (names w10) ∧
 ∀ n_, n + 16 * 7 ≤ n_ → (fun n => (fun σ => bindP (aLd σ (some 7) v2) fun v13 =>
 R (.ret (.tp [v13, v9, (.sc (.int .i64 0))])) σ n) (applyW σ w10)) n_) (
 bindP (semBin .eql v4 (.sc (.int .i64 1))) fun v14 =>
 COND v14 (
 bindP (aLd σ (some 7) v1) fun v15 =>
 CALL Try.prog (.fn 100 []) [a0, v15] σ n (kc_ref07_expr2 v2 R)) (
 bindP (aFad 0 v1) fun v29 =>
 bindP (aLd σ none v29) fun v30 =>
 bindP (aBuild [(.int .i64 0), (.int .i64 0), (.int .i64 0), (.string ⟨#[]⟩), (.string ⟨#[]⟩), (.string ⟨#[]⟩), (.slice none 0 0)] [(0, 1, v30)]) fun v31 =>
 bindS (hAlloc n [(.int .i64 0), (.int .i64 0), (.int .i64 0), (.string ⟨#[]⟩), (.string ⟨#[]⟩), (.string ⟨#[]⟩), (.slice none 0 0)]) σ n fun v32 σ n =>
 bindS (hSt σ 7 v32 v31) σ n fun v33 σ n =>
 LOOP (lb_ref07_expr5 v1 a2 a0 v2 R v32) [(.tp []), (.tp []), (.tp []), (.tp []), (.tp []), (.sc (.int .i64 0)), (.sc (.int .i64 0)), .em, (.sc (.int .i64 0))] σ n))
theorem se_ref07_expr (a0 a1 a2 : AV) (σ : Hp) (n : Nat) (R : AEnd → Hp → Nat → Prop) : sh_ref07_expr a0 a1 a2 σ n R = swp Try.prog sc_ref07_expr (retQ [(.c 6 (some 7)), (.t 7), (.t 8)] R) (entry [a0, a1, a2]) σ n := by kernel_rfl
theorem by_ref07_expr {a0 a1 a2 : AV} {σ : Hp} {n : Nat} {R : AEnd → Hp → Nat → Prop} (h : sh_ref07_expr a0 a1 a2 σ n R) : ConH Try.prog 54 [a0, a1, a2] σ n R := by
  rw [se_ref07_expr] at h
  exact conH_of [(.c 6 (some 7)), (.t 7), (.t 8)] (fn := Try.f54) rfl [1, 22, 21, 28, 38, 11, 9, 10, 51, 0, 72, 17, 15, 16, 14, 13, 92, 19, 4, 2, 97, 12, 18, 6, 7, 8] (by kernel_rfl) (by kernel_rfl) (by kernel_rfl) (by kernel_rfl) h
/-- switchback/check.need -/
def sc_check_need : SCode := (.seq (.reg [
   ⟨(some 4), none, (.mv (.t 0))⟩,
    ⟨(some 5), none, (.un .not (.t 4))⟩]) (.cond (.t 5) (.reg [
   ⟨(some 6), none, (.mv (.t 1))⟩,
    ⟨(some 7), none, (.mki 29 (.t 6))⟩,
    ⟨none, none, (.pan (.t 7))⟩]) .skip))
def sh_check_need (a0 a1 : AV) (σ : Hp) (n : Nat) (R : AEnd → Hp → Nat → Prop) : Prop :=
 bindP (aUn .not a0) fun v1 =>
 COND v1 (
 bindP (aMki 29 a1) fun v2 =>
 PAN v2 fun v3 => R (.pan v3) σ n) (
 R (.ret (.tp [])) σ n)
theorem se_check_need (a0 a1 : AV) (σ : Hp) (n : Nat) (R : AEnd → Hp → Nat → Prop) : sh_check_need a0 a1 σ n R = swp Try.prog sc_check_need (retQ [] R) (entry [a0, a1]) σ n := by kernel_rfl
theorem by_check_need {a0 a1 : AV} {σ : Hp} {n : Nat} {R : AEnd → Hp → Nat → Prop} (h : sh_check_need a0 a1 σ n R) : ConH Try.prog 63 [a0, a1] σ n R := by
  rw [se_check_need] at h
  exact conH_of [] (fn := Try.f63) rfl [0, 5, 1] (by kernel_rfl) (by kernel_rfl) (by kernel_rfl) (by kernel_rfl) h
/-- switchback/catalog.Column -/
def kc_catalog_Column1 (R : AEnd → Hp → Nat → Prop) (r : AEnd) (σ : Hp) (n : Nat) : Prop :=
 onEnd r (fun v5 =>
 bindP (semBin .lss v5 (.sc (.int .i64 0))) fun v7 =>
 COND v7 (
 R (.ret (.tp [(.sc (.int .i64 0)), (.sc (.int .i64 94))])) σ n) (
 R (.ret (.tp [v5, (.sc (.int .i64 0))])) σ n)) (fun v6 => R (.pan v6) σ n)
attribute [go_sem] kc_catalog_Column1
def sc_catalog_Column : SCode := (.seq (.reg [
   ⟨(some 2), none, (.box (.t 0))⟩,
    ⟨(some 3), none, (.box (.t 1))⟩,
    ⟨(some 4), none, (.mv (.c (.sc (.int .i64 0))))⟩,
    ⟨(some 5), none, (.mv (.c (.sc (.int .i64 0))))⟩]) (.seq (.reg [
   ⟨(some 7), none, (.fad 1 (.t 2))⟩,
    ⟨(some 8), none, (.ld none (.t 7))⟩,
    ⟨(some 9), none, (.mkf 114 [(.t 3)])⟩,
    ⟨(some 10), none, (.call (.c (.fn 113 [])) [(.t 8), (.t 9)])⟩,
    ⟨(some 6), none, (.mv (.t 10))⟩]) (.seq (.seq (.reg [
   ⟨(some 11), none, (.mv (.t 6))⟩,
    ⟨(some 12), none, (.bin .lss (.t 11) (.c (.sc (.int .i64 0))))⟩]) (.cond (.t 12) (.seq (.reg [
   ⟨(some 4), none, (.mv (.c (.sc (.int .i64 0))))⟩,
    ⟨(some 5), none, (.mv (.c (.sc (.int .i64 94))))⟩]) .ret) .skip)) (.seq (.reg [
   ⟨(some 13), none, (.mv (.t 6))⟩,
    ⟨(some 4), none, (.mv (.t 13))⟩,
    ⟨(some 5), none, (.mv (.c (.sc (.int .i64 0))))⟩]) .ret))))
def sh_catalog_Column (a0 a1 : AV) (σ : Hp) (n : Nat) (R : AEnd → Hp → Nat → Prop) : Prop :=
 bindS (hBox n a0) σ n fun v1 σ n =>
 bindS (hBox n a1) σ n fun v2 σ n =>
 bindP (aFad 1 v1) fun v3 =>
 bindP (aLd σ none v3) fun v4 =>
 CALL Try.prog (.fn 113 []) [v4, (.fn 114 [v2])] σ n (kc_catalog_Column1 R)
theorem se_catalog_Column (a0 a1 : AV) (σ : Hp) (n : Nat) (R : AEnd → Hp → Nat → Prop) : sh_catalog_Column a0 a1 σ n R = swp Try.prog sc_catalog_Column (retQ [(.t 4), (.t 5)] R) (entry [a0, a1]) σ n := by kernel_rfl
theorem by_catalog_Column {a0 a1 : AV} {σ : Hp} {n : Nat} {R : AEnd → Hp → Nat → Prop} (h : sh_catalog_Column a0 a1 σ n R) : ConH Try.prog 66 [a0, a1] σ n R := by
  rw [se_catalog_Column] at h
  exact conH_of [(.t 4), (.t 5)] (fn := Try.f66) rfl [0, 1, 2, 3, 12, 6, 4, 5] (by kernel_rfl) (by kernel_rfl) (by kernel_rfl) (by kernel_rfl) h
/-- switchback/catalog.Column$1 -/
def sc_catalog_Column_c1 : SCode := (.seq (.reg [
   ⟨(some 2), none, (.box (.t 0))⟩,
    ⟨(some 3), none, (.mv (.c (.sc (.bool false))))⟩]) (.seq (.reg [
   ⟨(some 4), none, (.fad 0 (.t 2))⟩,
    ⟨(some 5), none, (.ld none (.t 4))⟩,
    ⟨(some 6), none, (.ld none (.t 1))⟩,
    ⟨(some 7), none, (.bin .eql (.t 5) (.t 6))⟩,
    ⟨(some 3), none, (.mv (.t 7))⟩]) .ret))
def sh_catalog_Column_c1 (a0 a1 : AV) (σ : Hp) (n : Nat) (R : AEnd → Hp → Nat → Prop) : Prop :=
 bindS (hBox n a0) σ n fun v1 σ n =>
 bindP (aFad 0 v1) fun v2 =>
 bindP (aLd σ none v2) fun v3 =>
 bindP (aLd σ none a1) fun v4 =>
 bindP (semBin .eql v3 v4) fun v5 =>
 R (.ret v5) σ n
theorem se_catalog_Column_c1 (a0 a1 : AV) (σ : Hp) (n : Nat) (R : AEnd → Hp → Nat → Prop) : sh_catalog_Column_c1 a0 a1 σ n R = swp Try.prog sc_catalog_Column_c1 (retQ [(.t 3)] R) (entry [a0, a1]) σ n := by kernel_rfl
theorem by_catalog_Column_c1 {a0 a1 : AV} {σ : Hp} {n : Nat} {R : AEnd → Hp → Nat → Prop} (h : sh_catalog_Column_c1 a0 a1 σ n R) : ConH Try.prog 114 [a0, a1] σ n R := by
  rw [se_catalog_Column_c1] at h
  exact conH_of [(.t 3)] (fn := Try.f114) rfl [0, 2, 1, 3] (by kernel_rfl) (by kernel_rfl) (by kernel_rfl) (by kernel_rfl) h
/-- switchback/syntax.told -/
def sc_syntax_told : SCode := (.seq (.reg [
   ⟨(some 7), none, (.mv (.t 0))⟩,
    ⟨(some 8), none, (.tas 29 (.int .i64 0) (.t 7))⟩,
    ⟨(some 6), none, (.mv (.t 8))⟩,
    ⟨(some 9), none, (.ext (.t 6) 0)⟩,
    ⟨(some 10), none, (.ext (.t 6) 1)⟩,
    ⟨(some 4), none, (.mv (.t 9))⟩,
    ⟨(some 5), none, (.mv (.t 10))⟩]) (.seq (.reg [
   ⟨(some 11), none, (.mv (.t 5))⟩]) (.cond (.t 11) (.reg [
   ⟨(some 12), none, (.mv (.t 1))⟩,
    ⟨(some 13), none, (.mv (.t 4))⟩,
    ⟨(some 14), none, (.nck (.t 12))⟩,
    ⟨none, none, (.st 1 (.t 14) (.t 13))⟩]) .skip)))
def sh_syntax_told (a0 a1 : AV) (σ : Hp) (n : Nat) (R : AEnd → Hp → Nat → Prop) : Prop :=
 bindP (aTas 29 (.int .i64 0) a0) fun v1 =>
 bindP (aExt v1 0) fun v2 =>
 bindP (aExt v1 1) fun v3 =>
 COND v3 (
 bindP (aNck a1) fun v4 =>
 bindS (hSt σ 1 v4 v2) σ n fun v5 σ n =>
 R (.ret (.tp [])) σ n) (
 R (.ret (.tp [])) σ n)
theorem se_syntax_told (a0 a1 : AV) (σ : Hp) (n : Nat) (R : AEnd → Hp → Nat → Prop) : sh_syntax_told a0 a1 σ n R = swp Try.prog sc_syntax_told (retQ [] R) (entry [a0, a1]) σ n := by kernel_rfl
theorem by_syntax_told {a0 a1 : AV} {σ : Hp} {n : Nat} {R : AEnd → Hp → Nat → Prop} (h : sh_syntax_told a0 a1 σ n R) : ConH Try.prog 95 [a0, a1] σ n R := by
  rw [se_syntax_told] at h
  exact conH_of [] (fn := Try.f95) rfl [0, 5, 11, 1, 4] (by kernel_rfl) (by kernel_rfl) (by kernel_rfl) (by kernel_rfl) h
/-- (*switchback/syntax.walker).walk -/
def kc_psyntax_walker_walk1 (s23 : List AV) (K23 : List AV → Hp → Nat → Prop) (v24 : AV) (v27 : AV) (R : AEnd → Hp → Nat → Prop) (r : AEnd) (σ : Hp) (n : Nat) : Prop :=
 onEnd r (fun v31 =>
 bindP (semBin .add (s23.getD 2 .any) (.sc (.int .i64 1))) fun v33 =>
 K23 [v24, v27, v33] σ n) (fun v32 => R (.pan v32) σ n)
def lb_psyntax_walker_walk2 (v22 : AV) (v21 : AV) (a2 : AV) (a0 : AV) (R : AEnd → Hp → Nat → Prop) (K23 : List AV → Hp → Nat → Prop) (s23 : List AV) (σ : Hp) (n : Nat) : Prop :=
 bindP (semBin .lss (s23.getD 2 .any) v22) fun v24 =>
 COND v24 (
 bindP (aIad 7 v21 (s23.getD 2 .any)) fun v25 =>
 bindP (aLd σ (some 7) v25) fun v26 =>
 bindS (hAlloc n [(.int .i64 0), (.int .i64 0), (.int .i64 0), (.string ⟨#[]⟩), (.string ⟨#[]⟩), (.string ⟨#[]⟩), (.slice none 0 0)]) σ n fun v27 σ n =>
 bindS (hSt σ 7 v27 v26) σ n fun v28 σ n =>
 bindP (aLd σ (some 7) v27) fun v29 =>
 bindP (semBin .add a2 (.sc (.int .i64 1))) fun v30 =>
 CALL Try.prog (.fn 96 []) [a0, v29, v30] σ n (kc_psyntax_walker_walk1 s23 K23 v24 v27 R)) (
 R (.ret (.tp [])) σ n)
def kc_psyntax_walker_walk3 (a0 : AV) (v1 : AV) (a2 : AV) (R : AEnd → Hp → Nat → Prop) (r : AEnd) (σ : Hp) (n : Nat) : Prop :=
 onEnd r (fun v13 =>
 bindP (aNck a0) fun v15 =>
 bindP (aLd σ none v15) fun v16 =>
 bindP (semBin .add v16 (.sc (.int .i64 1))) fun v17 =>
 bindP (aNck a0) fun v18 =>
 bindS (hSt σ 1 v18 v17) σ n fun v19 σ n =>
 bindP (aFad 6 v1) fun v20 =>
 bindP (aLd σ none v20) fun v21 =>
 bindP (aLen false v21) fun v22 => bnd σ v21 →
 LOOP (lb_psyntax_walker_walk2 v22 v21 a2 a0 R) [(.tp []), (.tp []), (.sc (.int .i64 0))] σ n) (fun v14 => R (.pan v14) σ n)
def kc_psyntax_walker_walk4 (a0 : AV) (v1 : AV) (a2 : AV) (R : AEnd → Hp → Nat → Prop) (r : AEnd) (σ : Hp) (n : Nat) : Prop :=
 onEnd r (fun v11 =>
 CALL Try.prog (.fn 136 []) [v11, (.sc (.int .i64 9))] σ n (kc_psyntax_walker_walk3 a0 v1 a2 R)) (fun v12 => R (.pan v12) σ n)
def kc_psyntax_walker_walk5 (v1 : AV) (a0 : AV) (a2 : AV) (R : AEnd → Hp → Nat → Prop) (r : AEnd) (σ : Hp) (n : Nat) : Prop :=
 onEnd r (fun v8 =>
 bindP (aLd σ (some 7) v1) fun v10 =>
 CALL Try.prog (.fn 137 []) [v10] σ n (kc_psyntax_walker_walk4 a0 v1 a2 R)) (fun v9 => R (.pan v9) σ n)
def kc_psyntax_walker_walk6 (a0 : AV) (v1 : AV) (a2 : AV) (R : AEnd → Hp → Nat → Prop) (r : AEnd) (σ : Hp) (n : Nat) : Prop :=
 onEnd r (fun v3 =>
 bindP (aNck a0) fun v5 =>
 bindP (aLd σ none v5) fun v6 =>
 bindP (semBin .lss v6 (.sc (.int .i64 64))) fun v7 =>
 CALL Try.prog (.fn 136 []) [v7, (.sc (.int .i64 3))] σ n (kc_psyntax_walker_walk5 v1 a0 a2 R)) (fun v4 => R (.pan v4) σ n)
attribute [go_sem] kc_psyntax_walker_walk1 lb_psyntax_walker_walk2 kc_psyntax_walker_walk3 kc_psyntax_walker_walk4 kc_psyntax_walker_walk5 kc_psyntax_walker_walk6
def sc_psyntax_walker_walk : SCode := (.seq (.reg [
   ⟨(some 4), none, (.box (.t 1))⟩]) (.seq (.reg [
   ⟨(some 8), none, (.mv (.t 2))⟩,
    ⟨(some 9), none, (.bin .leq (.t 8) (.c (.sc (.int .i64 12))))⟩,
    ⟨(some 10), none, (.call (.c (.fn 136 [])) [(.t 9), (.c (.sc (.int .i64 10)))])⟩]) (.seq (.reg [
   ⟨(some 11), none, (.mv (.t 0))⟩,
    ⟨(some 12), none, (.nck (.t 11))⟩,
    ⟨(some 13), none, (.ld none (.t 12))⟩,
    ⟨(some 14), none, (.bin .lss (.t 13) (.c (.sc (.int .i64 64))))⟩,
    ⟨(some 15), none, (.call (.c (.fn 136 [])) [(.t 14), (.c (.sc (.int .i64 3)))])⟩]) (.seq (.reg [
   ⟨(some 16), none, (.ld (some 7) (.t 4))⟩,
    ⟨(some 17), none, (.call (.c (.fn 137 [])) [(.t 16)])⟩,
    ⟨(some 18), none, (.call (.c (.fn 136 [])) [(.t 17), (.c (.sc (.int .i64 9)))])⟩]) (.seq (.reg [
   ⟨(some 19), none, (.mv (.t 0))⟩,
    ⟨(some 20), none, (.nck (.t 19))⟩,
    ⟨(some 21), none, (.ld none (.t 20))⟩,
    ⟨(some 22), none, (.bin .add (.t 21) (.c (.sc (.int .i64 1))))⟩,
    ⟨(some 23), none, (.nck (.t 19))⟩,
    ⟨none, none, (.st 1 (.t 23) (.t 22))⟩]) (.seq (.reg [
   ⟨(some 24), none, (.fad 6 (.t 4))⟩,
    ⟨(some 25), none, (.ld none (.t 24))⟩,
    ⟨(some 26), none, (.len false (.t 25))⟩,
    ⟨(some 27), none, (.mv (.c (.sc (.int .i64 0))))⟩]) (.block 0 (.loop [28, 7, 27] [28, 29, 30, 7, 31, 32, 33, 34, 35, 36, 27] (.seq (.reg [
   ⟨(some 28), none, (.bin .lss (.t 27) (.t 26))⟩]) (.seq (.cond (.t 28) .skip (.exit 0)) (.seq (.block 1 (.seq (.reg [
   ⟨(some 29), none, (.iad 7 (.t 25) (.t 27))⟩,
    ⟨(some 30), none, (.ld (some 7) (.t 29))⟩,
    ⟨(some 7), none, (.alloc [(.int .i64 0), (.int .i64 0), (.int .i64 0), (.string ⟨#[]⟩), (.string ⟨#[]⟩), (.string ⟨#[]⟩), (.slice none 0 0)])⟩,
    ⟨none, none, (.st 7 (.t 7) (.t 30))⟩]) (.reg [
   ⟨(some 31), none, (.mv (.t 0))⟩,
    ⟨(some 32), none, (.ld (some 7) (.t 7))⟩,
    ⟨(some 33), none, (.mv (.t 2))⟩,
    ⟨(some 34), none, (.bin .add (.t 33) (.c (.sc (.int .i64 1))))⟩,
    ⟨(some 35), none, (.call (.c (.fn 96 [])) [(.t 31), (.t 32), (.t 34)])⟩]))) (.reg [
   ⟨(some 36), none, (.bin .add (.t 27) (.c (.sc (.int .i64 1))))⟩,
    ⟨(some 27), none, (.mv (.t 36))⟩]))))))))))))
def sh_psyntax_walker_walk (a0 a1 a2 : AV) (σ : Hp) (n : Nat) (R : AEnd → Hp → Nat → Prop) : Prop :=
 bindS (hBox n a1) σ n fun v1 σ n =>
 bindP (semBin .leq a2 (.sc (.int .i64 12))) fun v2 =>
 CALL Try.prog (.fn 136 []) [v2, (.sc (.int .i64 10))] σ n (kc_psyntax_walker_walk6 a0 v1 a2 R)
theorem se_psyntax_walker_walk (a0 a1 a2 : AV) (σ : Hp) (n : Nat) (R : AEnd → Hp → Nat → Prop) : sh_psyntax_walker_walk a0 a1 a2 σ n R = swp Try.prog sc_psyntax_walker_walk (retQ [] R) (entry [a0, a1, a2]) σ n := by kernel_rfl
theorem by_psyntax_walker_walk {a0 a1 a2 : AV} {σ : Hp} {n : Nat} {R : AEnd → Hp → Nat → Prop} (h : sh_psyntax_walker_walk a0 a1 a2 σ n R) : ConH Try.prog 96 [a0, a1, a2] σ n R := by
  rw [se_psyntax_walker_walk] at h
  exact conH_of [] (fn := Try.f96) rfl [1, 4, 26, 28, 25, 0, 7, 2, 27] (by kernel_rfl) (by kernel_rfl) (by kernel_rfl) (by kernel_rfl) h
/-- (switchback/check.scope).place -/
def kc_check_scope_place1 (s10 : List AV) (v14 : AV) (K16 : List AV → Hp → Nat → Prop) (v34 : AV) (R : AEnd → Hp → Nat → Prop) (r : AEnd) (σ : Hp) (n : Nat) : Prop :=
 onEnd r (fun v38 =>
 bindP (aExt v38 0) fun v40 =>
 bindP (aExt v38 1) fun v41 =>
 bindP (semBin .eql v41 (.sc (.int .i64 0))) fun v42 =>
 COND v42 (
 bindP (semBin .add (s10.getD 7 .any) (.sc (.int .i64 1))) fun v43 =>
 bindP (semBin .add (s10.getD 10 .any) v40) fun v46 =>
 bindP (aFad 1 v14) fun v47 =>
 bindP (aLd σ none v47) fun v48 =>
 bindP (aIad 3 v48 v40) fun v50 =>
 bindP (aFad 1 v50) fun v51 =>
 bindP (aLd σ none v51) fun v52 =>
 ∀ n_, n + 16 * 11 ≤ n_ → (fun n => K16 [v34, (.sc (.bool true)), v40, v41, v42, v43, v46, v52] σ n) n_) (
 K16 [v34, (.sc (.bool true)), v40, v41, v42, (s10.getD 7 .any), (s10.getD 8 .any), (s10.getD 9 .any)] σ n)) (fun v39 => R (.pan v39) σ n)
def jk_check_scope_place2 (v14 : AV) (s10 : List AV) (K10 : List AV → Hp → Nat → Prop) (v11 : AV) (s16 : List AV) (σ : Hp) (n : Nat) : Prop :=
 bindP (aFad 1 v14) fun v17 =>
 bindP (aLd σ none v17) fun v18 =>
 bindP (aLen false v18) fun v19 => bnd σ v18 →
 bindP (semBin .add (s10.getD 10 .any) v19) fun v20 =>
 bindP (semBin .add (s10.getD 11 .any) (.sc (.int .i64 1))) fun v21 =>
 K10 [v11, v14, (s16.getD 0 .any), (s16.getD 1 .any), (s16.getD 2 .any), (s16.getD 3 .any), (s16.getD 4 .any), (s16.getD 5 .any), (s16.getD 6 .any), (s16.getD 7 .any), v20, v21] σ n
def kc_check_scope_place3 (R : AEnd → Hp → Nat → Prop) (s10 : List AV) (r : AEnd) (σ : Hp) (n : Nat) : Prop :=
 onEnd r (fun v58 =>
 R (.ret (.tp [(s10.getD 8 .any), (s10.getD 9 .any)])) σ n) (fun v59 => R (.pan v59) σ n)
def kc_check_scope_place4 (s10 : List AV) (R : AEnd → Hp → Nat → Prop) (r : AEnd) (σ : Hp) (n : Nat) : Prop :=
 onEnd r (fun v55 =>
 bindP (semBin .eql (s10.getD 7 .any) (.sc (.int .i64 1))) fun v57 =>
 CALL Try.prog (.fn 63 []) [v57, (.sc (.int .i64 94))] σ n (kc_check_scope_place3 R s10)) (fun v56 => R (.pan v56) σ n)
def lb_check_scope_place5 (v9 : AV) (a0 : AV) (v1 : AV) (R : AEnd → Hp → Nat → Prop) (K10 : List AV → Hp → Nat → Prop) (s10 : List AV) (σ : Hp) (n : Nat) : Prop :=
 bindP (semBin .lss (s10.getD 11 .any) v9) fun v11 =>
 COND v11 (
 bindP (aIad 4 a0 (s10.getD 11 .any)) fun v12 =>
 bindP (aLd σ (some 4) v12) fun v13 =>
 bindS (hAlloc n [(.string ⟨#[]⟩), (.slice none 0 0), (.int .i64 0), (.slice none 0 0)]) σ n fun v14 σ n =>
 bindS (hSt σ 4 v14 v13) σ n fun v15 σ n =>
 JOIN (jk_check_scope_place2 v14 s10 K10 v11) fun K16 =>
 bindP (aFad 4 v1) fun v22 =>
 bindP (aLd σ none v22) fun v23 =>
 bindP (semBin .eql v23 (.s [])) fun v24 =>
 guardP v24 false (aFad 0 v14) fun v25 =>
 guardP v24 false (aLd σ none v25) fun v26 =>
 guardP v24 false (aFad 4 v1) fun v27 =>
 guardP v24 false (aLd σ none v27) fun v28 =>
 guardP v24 false (semBin .eql v26 v28) fun v29 =>
 guardP v24 false (some v29) fun v30 =>
 guardP v30 true (some (s10.getD 3 .any)) fun v31 =>
 guardP v30 true (aUn .not v31) fun v32 =>
 guardP v24 false (aPick v30 v32 (.sc (.bool false))) fun v33 =>
 bindP (aPick v24 (.sc (.bool true)) v33) fun v34 =>
 COND v34 (
 bindP (aLd σ (some 4) v14) fun v35 =>
 bindP (aFad 5 v1) fun v36 =>
 bindP (aLd σ none v36) fun v37 =>
 CALL Try.prog (.fn 66 []) [v35, v37] σ n (kc_check_scope_place1 s10 v14 K16 v34 R)) (
 K16 [v34, (s10.getD 3 .any), (s10.getD 4 .any), (s10.getD 5 .any), (s10.getD 6 .any), (s10.getD 7 .any), (s10.getD 8 .any), (s10.getD 9 .any)] σ n)) (
 CALL Try.prog (.fn 63 []) [(s10.getD 3 .any), (.sc (.int .i64 93))] σ n (kc_check_scope_place4 s10 R))
attribute [go_sem] kc_check_scope_place1 jk_check_scope_place2 kc_check_scope_place3 kc_check_scope_place4 lb_check_scope_place5
def sc_check_scope_place : SCode := (.seq (.reg [
   ⟨(some 3), none, (.box (.t 1))⟩,
    ⟨(some 4), none, (.mv (.c (.sc (.int .i64 0))))⟩,
    ⟨(some 5), none, (.mv (.c (.sc (.int .i64 0))))⟩]) (.seq (.regD [(⟨(some 15), none, (.fad 4 (.t 3))⟩, []), (⟨(some 16), none, (.ld none (.t 15))⟩, [0]), (⟨(some 17), none, (.bin .eql (.t 16) (.c (.s [])))⟩, [1, 0]), (⟨(some 6), none, (.mv (.c (.sc (.int .i64 0))))⟩, []), (⟨(some 7), none, (.mv (.t 17))⟩, [2, 1, 0, 3]), (⟨(some 8), none, (.mv (.c (.sc (.int .i64 0))))⟩, [4, 2, 1, 0, 3]), (⟨(some 9), none, (.mv (.c (.sc (.int .i64 0))))⟩, [5, 4, 2, 1, 0, 3])]) (.seq (.reg [
   ⟨(some 10), none, (.mv (.c (.sc (.int .i64 0))))⟩]) (.seq (.seq (.reg [
   ⟨(some 18), none, (.mv (.t 0))⟩,
    ⟨(some 19), none, (.len false (.t 18))⟩,
    ⟨(some 20), none, (.mv (.c (.sc (.int .i64 0))))⟩]) (.block 0 (.loop [21, 12, 37, 7, 13, 14, 46, 6, 8, 9, 10, 20] [21, 22, 23, 12, 24, 25, 26, 27, 28, 29, 30, 31, 32, 33, 34, 35, 36, 37, 7, 39, 40, 41, 42, 38, 43, 44, 13, 14, 45, 46, 47, 48, 6, 49, 50, 51, 52, 53, 54, 55, 56, 57, 8, 9, 58, 59, 60, 61, 62, 10, 63, 20] (.seq (.reg [
   ⟨(some 21), none, (.bin .lss (.t 20) (.t 19))⟩]) (.seq (.cond (.t 21) .skip (.exit 0)) (.seq (.block 1 (.seq (.reg [
   ⟨(some 22), none, (.iad 4 (.t 18) (.t 20))⟩,
    ⟨(some 23), none, (.ld (some 4) (.t 22))⟩,
    ⟨(some 12), none, (.alloc [(.string ⟨#[]⟩), (.slice none 0 0), (.int .i64 0), (.slice none 0 0)])⟩,
    ⟨none, none, (.st 4 (.t 12) (.t 23))⟩]) (.seqJ [37, 7, 13, 14, 46, 6, 8, 9] [24, 25, 26, 27, 28, 29, 30, 31, 32, 33, 34, 35, 36, 37, 7, 39, 40, 41, 42, 38, 43, 44, 13, 14, 45, 46, 47, 48, 6, 49, 50, 51, 52, 53, 54, 55, 56, 57, 8, 9] (.seq (.reg [
   ⟨(some 24), none, (.fad 4 (.t 3))⟩,
    ⟨(some 25), none, (.ld none (.t 24))⟩,
    ⟨(some 26), none, (.bin .eql (.t 25) (.c (.s [])))⟩,
    ⟨(some 27), none, (.mv (.t 26))⟩,
    ⟨(some 28), (some (27, false)), (.fad 0 (.t 12))⟩,
    ⟨(some 29), (some (27, false)), (.ld none (.t 28))⟩,
    ⟨(some 30), (some (27, false)), (.fad 4 (.t 3))⟩,
    ⟨(some 31), (some (27, false)), (.ld none (.t 30))⟩,
    ⟨(some 32), (some (27, false)), (.bin .eql (.t 29) (.t 31))⟩,
    ⟨(some 33), (some (27, false)), (.mv (.t 32))⟩,
    ⟨(some 34), (some (33, true)), (.mv (.t 7))⟩,
    ⟨(some 35), (some (33, true)), (.un .not (.t 34))⟩,
    ⟨(some 36), (some (27, false)), (.pick (.t 33) (.t 35) (.c (.sc (.bool false))))⟩,
    ⟨(some 37), none, (.pick (.t 27) (.c (.sc (.bool true))) (.t 36))⟩]) (.cond (.t 37) (.seq (.reg [
   ⟨(some 7), none, (.mv (.c (.sc (.bool true))))⟩]) (.seq (.reg [
   ⟨(some 39), none, (.ld (some 4) (.t 12))⟩,
    ⟨(some 40), none, (.fad 5 (.t 3))⟩,
    ⟨(some 41), none, (.ld none (.t 40))⟩,
    ⟨(some 42), none, (.call (.c (.fn 66 [])) [(.t 39), (.t 41)])⟩,
    ⟨(some 38), none, (.mv (.t 42))⟩,
    ⟨(some 43), none, (.ext (.t 38) 0)⟩,
    ⟨(some 44), none, (.ext (.t 38) 1)⟩,
    ⟨(some 13), none, (.mv (.t 43))⟩,
    ⟨(some 14), none, (.mv (.t 44))⟩]) (.seq (.reg [
   ⟨(some 45), none, (.mv (.t 14))⟩,
    ⟨(some 46), none, (.bin .eql (.t 45) (.c (.sc (.int .i64 0))))⟩]) (.cond (.t 46) (.seq (.reg [
   ⟨(some 47), none, (.mv (.t 6))⟩,
    ⟨(some 48), none, (.bin .add (.t 47) (.c (.sc (.int .i64 1))))⟩,
    ⟨(some 6), none, (.mv (.t 48))⟩]) (.regD [(⟨(some 49), none, (.mv (.t 10))⟩, []), (⟨(some 50), none, (.mv (.t 13))⟩, []), (⟨(some 51), none, (.bin .add (.t 49) (.t 50))⟩, [0, 1]), (⟨(some 52), none, (.fad 1 (.t 12))⟩, []), (⟨(some 53), none, (.ld none (.t 52))⟩, [3]), (⟨(some 54), none, (.mv (.t 13))⟩, []), (⟨(some 55), none, (.iad 3 (.t 53) (.t 54))⟩, [4, 3, 5]), (⟨(some 56), none, (.fad 1 (.t 55))⟩, [6, 4, 3, 5]), (⟨(some 57), none, (.ld none (.t 56))⟩, [7, 6, 4, 3, 5]), (⟨(some 8), none, (.mv (.t 51))⟩, [2, 0, 1]), (⟨(some 9), none, (.mv (.t 57))⟩, [8, 7, 6, 4, 3, 5, 9, 2, 0, 1])])) .skip)))) .skip)) (.reg [
   ⟨(some 58), none, (.mv (.t 10))⟩,
    ⟨(some 59), none, (.fad 1 (.t 12))⟩,
    ⟨(some 60), none, (.ld none (.t 59))⟩,
    ⟨(some 61), none, (.len false (.t 60))⟩,
    ⟨(some 62), none, (.bin .add (.t 58) (.t 61))⟩,
    ⟨(some 10), none, (.mv (.t 62))⟩])))) (.reg [
   ⟨(some 63), none, (.bin .add (.t 20) (.c (.sc (.int .i64 1))))⟩,
    ⟨(some 20), none, (.mv (.t 63))⟩]))))))) (.seq (.reg [
   ⟨(some 64), none, (.mv (.t 7))⟩,
    ⟨(some 65), none, (.call (.c (.fn 63 [])) [(.t 64), (.c (.sc (.int .i64 93)))])⟩]) (.seq (.reg [
   ⟨(some 66), none, (.mv (.t 6))⟩,
    ⟨(some 67), none, (.bin .eql (.t 66) (.c (.sc (.int .i64 1))))⟩,
    ⟨(some 68), none, (.call (.c (.fn 63 [])) [(.t 67), (.c (.sc (.int .i64 94)))])⟩]) (.seq (.reg [
   ⟨(some 69), none, (.mv (.t 8))⟩,
    ⟨(some 70), none, (.mv (.t 9))⟩,
    ⟨(some 4), none, (.mv (.t 69))⟩,
    ⟨(some 5), none, (.mv (.t 70))⟩]) .ret)))))))
def sh_check_scope_place (a0 a1 : AV) (σ : Hp) (n : Nat) (R : AEnd → Hp → Nat → Prop) : Prop :=
 bindS (hBox n a1) σ n fun v1 σ n =>
 bindP (aFad 4 v1) fun v2 =>
 bindP (aLd σ none v2) fun v3 =>
 bindP (semBin .eql v3 (.s [])) fun v4 =>
 ∀ n_, n + 16 * 7 ≤ n_ → (fun n => bindP (aLen false a0) fun v9 => bnd σ a0 →
 LOOP (lb_check_scope_place5 v9 a0 v1 R) [(.tp []), (.tp []), (.tp []), v4, (.tp []), (.tp []), (.tp []), (.sc (.int .i64 0)), (.sc (.int .i64 0)), (.sc (.int .i64 0)), (.sc (.int .i64 0)), (.sc (.int .i64 0))] σ n) n_
theorem se_check_scope_place (a0 a1 : AV) (σ : Hp) (n : Nat) (R : AEnd → Hp → Nat → Prop) : sh_check_scope_place a0 a1 σ n R = swp Try.prog sc_check_scope_place (retQ [(.t 4), (.t 5)] R) (entry [a0, a1]) σ n := by kernel_rfl
theorem by_check_scope_place {a0 a1 : AV} {σ : Hp} {n : Nat} {R : AEnd → Hp → Nat → Prop} (h : sh_check_scope_place a0 a1 σ n R) : ConH Try.prog 97 [a0, a1] σ n R := by
  rw [se_check_scope_place] at h
  exact conH_of [(.t 4), (.t 5)] (fn := Try.f97) rfl [1, 0, 19, 21, 18, 37, 3, 14, 46, 13, 10, 12, 20, 7, 6, 8, 9, 4, 5] (by kernel_rfl) (by kernel_rfl) (by kernel_rfl) (by kernel_rfl) h
/-- switchback/check.kind -/
def kc_check_kind1 (R : AEnd → Hp → Nat → Prop) (r : AEnd) (σ : Hp) (n : Nat) : Prop :=
 onEnd r (fun v3 =>
 R (.ret (.sc (.int .i64 1))) σ n) (fun v4 => R (.pan v4) σ n)
def kc_check_kind2 (K1 : List AV → Hp → Nat → Prop) (s2 : List AV) (s5 : List AV) (R : AEnd → Hp → Nat → Prop) (r : AEnd) (σ : Hp) (n : Nat) : Prop :=
 onEnd r (fun v6 =>
 K1 [(s2.getD 0 .any), (s5.getD 0 .any), (.tp []), (.tp []), (.tp []), (.sc (.int .i64 0))] σ n) (fun v7 => R (.pan v7) σ n)
def kd_check_kind3 (v13 : AV) (v16 : AV) (w18 : Wr) (n : Nat) (σ : Hp) (K1 : List AV → Hp → Nat → Prop) (s2 : List AV) (s5 : List AV) (v11 : AV) (R : AEnd → Hp → Nat → Prop) (r : AEnd) (w19 : Wr) (d19 : List Nat) : Prop :=
 onEnd r (fun v19 =>
 Apt (names []) (rdA v13) (names []) (rdA v16) ∧
 Apt (names []) (rdA v13) (names w18) (names w18) ∧
 ∀ n_, n + 16 * 8 ≤ n_ → (fun n => (fun σ => K1 [(s2.getD 0 .any), (s5.getD 0 .any), v11, (.tp []), (.tp []), (.sc (.int .i64 0))] σ n) (applyW (applyW σ w18) w19)) n_) (fun v20 => Apt (names []) (rdA v13) (names []) (rdA v16) ∧
 Apt (names []) (rdA v13) (names w18) (names w18) ∧
 ∀ (fr_ : Regs) σ n, R (.pan v20) σ n)
def jk_check_kind4 (R : AEnd → Hp → Nat → Prop) (a0 : AV) (a1 : AV) (K1 : List AV → Hp → Nat → Prop) (s2 : List AV) (s5 : List AV) (v11 : AV) (s21 : List AV) (σ : Hp) (n : Nat) : Prop :=
 COND (s21.getD 0 .any) (
 R (.ret (.sc (.int .i64 1))) σ n) (
 bindP (semBin .gtr a0 (.sc (.int .i64 20))) fun v22 =>
 COND v22 (
 bindP (aIad 1 a1 (.sc (.int .i64 0))) fun v23 =>
 bindP (aLd σ none v23) fun v24 =>
 R (.ret v24) σ n) (
 K1 [(s2.getD 0 .any), (s5.getD 0 .any), v11, (s21.getD 0 .any), v22, (.sc (.int .i64 0))] σ n))
def jk_check_kind5 (a1 : AV) (K1 : List AV → Hp → Nat → Prop) (s2 : List AV) (R : AEnd → Hp → Nat → Prop) (a0 : AV) (s5 : List AV) (σ : Hp) (n : Nat) : Prop :=
 COND (s5.getD 0 .any) (
 CALL Try.prog (.fn 106 []) [(.sc (.int .i64 2)), a1] σ n (kc_check_kind2 K1 s2 s5 R)) (
 bindP (semBin .geq a0 (.sc (.int .i64 8))) fun v8 =>
 guardP v8 true (some a0) fun v9 =>
 guardP v8 true (semBin .leq v9 (.sc (.int .i64 13))) fun v10 =>
 bindP (aPick v8 v10 (.sc (.bool false))) fun v11 =>
 COND v11 (
 bindP (aIad 1 a1 (.sc (.int .i64 0))) fun v13 =>
 bindP (aLd σ none v13) fun v14 =>
 bindP (aIad 1 a1 (.sc (.int .i64 1))) fun v16 =>
 bindP (aLd σ none v16) fun v17 =>
 bindH (hBsl σ (n + 16 * 6) 1 [(.int .i64 0)] 1 [(0, v17)]) fun v18 w18 =>
 callD Try.prog (.fn 106 []) [v14, v18] (applyW σ w18) (n + 16 * 7) (kd_check_kind3 v13 v16 w18 n σ K1 s2 s5 v11 R)) (
 JOIN (jk_check_kind4 R a0 a1 K1 s2 s5 v11) fun K21 =>
 bindP (semBin .eql a0 (.sc (.int .i64 18))) fun v25 =>
 COND v25 (
 K21 [v25] σ n) (
 bindP (semBin .eql a0 (.sc (.int .i64 19))) fun v26 =>
 K21 [v26] σ n)))
def jk_check_kind6 (a1 : AV) (R : AEnd → Hp → Nat → Prop) (K1 : List AV → Hp → Nat → Prop) (a0 : AV) (s2 : List AV) (σ : Hp) (n : Nat) : Prop :=
 COND (s2.getD 0 .any) (
 CALL Try.prog (.fn 106 []) [(.sc (.int .i64 1)), a1] σ n (kc_check_kind1 R)) (
 JOIN (jk_check_kind5 a1 K1 s2 R a0) fun K5 =>
 bindP (semBin .eql a0 (.sc (.int .i64 3))) fun v27 =>
 COND v27 (
 K5 [v27] σ n) (
 bindP (semBin .eql a0 (.sc (.int .i64 14))) fun v28 =>
 COND v28 (
 K5 [v28] σ n) (
 bindP (semBin .eql a0 (.sc (.int .i64 15))) fun v29 =>
 K5 [v29] σ n)))
def jk_check_kind7 (R : AEnd → Hp → Nat → Prop) (s1 : List AV) (σ : Hp) (n : Nat) : Prop :=
 R (.ret (.sc (.int .i64 2))) σ n
attribute [go_sem] kc_check_kind1 kc_check_kind2 kd_check_kind3 jk_check_kind4 jk_check_kind5 jk_check_kind6 jk_check_kind7
def sc_check_kind : SCode := (.seq (.reg [
   ⟨(some 4), none, (.mv (.c (.sc (.int .i64 0))))⟩]) (.seqJ [5, 18, 27, 42, 47, 4] [6, 7, 5, 8, 9, 10, 11, 12, 13, 5, 14, 15, 5, 16, 17, 4, 19, 20, 18, 21, 22, 18, 23, 24, 18, 25, 26, 28, 29, 30, 31, 32, 33, 27, 34, 35, 36, 37, 38, 39, 40, 41, 43, 44, 42, 45, 46, 42, 4, 48, 49, 47, 50, 51, 52, 4] (.block 0 (.seqJ [5] [6, 7, 5, 8, 9, 10, 11, 12, 13, 5, 14, 15, 5] (.seq (.reg [
   ⟨(some 6), none, (.mv (.t 0))⟩,
    ⟨(some 7), none, (.bin .eql (.t 6) (.c (.sc (.int .i64 2))))⟩,
    ⟨(some 5), none, (.mv (.t 7))⟩]) (.cond (.t 5) .skip (.seq (.reg [
   ⟨(some 8), none, (.mv (.t 0))⟩,
    ⟨(some 9), none, (.bin .geq (.t 8) (.c (.sc (.int .i64 4))))⟩,
    ⟨(some 10), none, (.mv (.t 9))⟩,
    ⟨(some 11), (some (10, true)), (.mv (.t 0))⟩,
    ⟨(some 12), (some (10, true)), (.bin .leq (.t 11) (.c (.sc (.int .i64 7))))⟩,
    ⟨(some 13), none, (.pick (.t 10) (.t 12) (.c (.sc (.bool false))))⟩,
    ⟨(some 5), none, (.mv (.t 13))⟩]) (.cond (.t 5) .skip (.reg [
   ⟨(some 14), none, (.mv (.t 0))⟩,
    ⟨(some 15), none, (.bin .eql (.t 14) (.c (.sc (.int .i64 20))))⟩,
    ⟨(some 5), none, (.mv (.t 15))⟩]))))) (.cond (.t 5) (.seq (.reg [
   ⟨(some 16), none, (.mv (.t 1))⟩,
    ⟨(some 17), none, (.call (.c (.fn 106 [])) [(.c (.sc (.int .i64 1))), (.t 16)])⟩]) (.seq (.reg [
   ⟨(some 4), none, (.mv (.c (.sc (.int .i64 1))))⟩]) .ret)) (.seqJ [18] [19, 20, 18, 21, 22, 18, 23, 24, 18] (.seq (.reg [
   ⟨(some 19), none, (.mv (.t 0))⟩,
    ⟨(some 20), none, (.bin .eql (.t 19) (.c (.sc (.int .i64 3))))⟩,
    ⟨(some 18), none, (.mv (.t 20))⟩]) (.cond (.t 18) .skip (.seq (.reg [
   ⟨(some 21), none, (.mv (.t 0))⟩,
    ⟨(some 22), none, (.bin .eql (.t 21) (.c (.sc (.int .i64 14))))⟩,
    ⟨(some 18), none, (.mv (.t 22))⟩]) (.cond (.t 18) .skip (.reg [
   ⟨(some 23), none, (.mv (.t 0))⟩,
    ⟨(some 24), none, (.bin .eql (.t 23) (.c (.sc (.int .i64 15))))⟩,
    ⟨(some 18), none, (.mv (.t 24))⟩]))))) (.cond (.t 18) (.reg [
   ⟨(some 25), none, (.mv (.t 1))⟩,
    ⟨(some 26), none, (.call (.c (.fn 106 [])) [(.c (.sc (.int .i64 2))), (.t 25)])⟩]) (.seq (.reg [
   ⟨(some 28), none, (.mv (.t 0))⟩,
    ⟨(some 29), none, (.bin .geq (.t 28) (.c (.sc (.int .i64 8))))⟩,
    ⟨(some 30), none, (.mv (.t 29))⟩,
    ⟨(some 31), (some (30, true)), (.mv (.t 0))⟩,
    ⟨(some 32), (some (30, true)), (.bin .leq (.t 31) (.c (.sc (.int .i64 13))))⟩,
    ⟨(some 33), none, (.pick (.t 30) (.t 32) (.c (.sc (.bool false))))⟩,
    ⟨(some 27), none, (.mv (.t 33))⟩]) (.cond (.t 27) (.regD [(⟨(some 34), none, (.mv (.t 1))⟩, []), (⟨(some 35), none, (.iad 1 (.t 34) (.c (.sc (.int .i64 0))))⟩, [0]), (⟨(some 36), none, (.ld none (.t 35))⟩, [1, 0]), (⟨(some 37), none, (.mv (.t 1))⟩, []), (⟨(some 38), none, (.iad 1 (.t 37) (.c (.sc (.int .i64 1))))⟩, [3]), (⟨(some 39), none, (.ld none (.t 38))⟩, [4, 3]), (⟨(some 40), none, (.bsl 1 [(.int .i64 0)] 1 [(0, (.t 39))])⟩, [5, 4, 3]), (⟨(some 41), none, (.call (.c (.fn 106 [])) [(.t 36), (.t 40)])⟩, [2, 1, 0, 6, 5, 4, 3])]) (.seqJ [42] [43, 44, 42, 45, 46, 42] (.seq (.reg [
   ⟨(some 43), none, (.mv (.t 0))⟩,
    ⟨(some 44), none, (.bin .eql (.t 43) (.c (.sc (.int .i64 18))))⟩,
    ⟨(some 42), none, (.mv (.t 44))⟩]) (.cond (.t 42) .skip (.reg [
   ⟨(some 45), none, (.mv (.t 0))⟩,
    ⟨(some 46), none, (.bin .eql (.t 45) (.c (.sc (.int .i64 19))))⟩,
    ⟨(some 42), none, (.mv (.t 46))⟩]))) (.cond (.t 42) (.seq (.reg [
   ⟨(some 4), none, (.mv (.c (.sc (.int .i64 1))))⟩]) .ret) (.seq (.reg [
   ⟨(some 48), none, (.mv (.t 0))⟩,
    ⟨(some 49), none, (.bin .gtr (.t 48) (.c (.sc (.int .i64 20))))⟩,
    ⟨(some 47), none, (.mv (.t 49))⟩]) (.cond (.t 47) (.seq (.reg [
   ⟨(some 50), none, (.mv (.t 1))⟩,
    ⟨(some 51), none, (.iad 1 (.t 50) (.c (.sc (.int .i64 0))))⟩,
    ⟨(some 52), none, (.ld none (.t 51))⟩,
    ⟨(some 4), none, (.mv (.t 52))⟩]) .ret) .skip))))))))))) (.seq (.reg [
   ⟨(some 4), none, (.mv (.c (.sc (.int .i64 2))))⟩]) .ret)))
def sh_check_kind (a0 a1 : AV) (σ : Hp) (n : Nat) (R : AEnd → Hp → Nat → Prop) : Prop :=
 JOIN (jk_check_kind7 R) fun K1 =>
 JOIN (jk_check_kind6 a1 R K1 a0) fun K2 =>
 bindP (semBin .eql a0 (.sc (.int .i64 2))) fun v30 =>
 COND v30 (
 K2 [v30] σ n) (
 bindP (semBin .geq a0 (.sc (.int .i64 4))) fun v31 =>
 guardP v31 true (some a0) fun v32 =>
 guardP v31 true (semBin .leq v32 (.sc (.int .i64 7))) fun v33 =>
 bindP (aPick v31 v33 (.sc (.bool false))) fun v34 =>
 COND v34 (
 K2 [v34] σ n) (
 bindP (semBin .eql a0 (.sc (.int .i64 20))) fun v35 =>
 K2 [v35] σ n))
theorem se_check_kind (a0 a1 : AV) (σ : Hp) (n : Nat) (R : AEnd → Hp → Nat → Prop) : sh_check_kind a0 a1 σ n R = swp Try.prog sc_check_kind (retQ [(.t 4)] R) (entry [a0, a1]) σ n := by kernel_rfl
theorem by_check_kind {a0 a1 : AV} {σ : Hp} {n : Nat} {R : AEnd → Hp → Nat → Prop} (h : sh_check_kind a0 a1 σ n R) : ConH Try.prog 98 [a0, a1] σ n R := by
  rw [se_check_kind] at h
  exact conH_of [(.t 4)] (fn := Try.f98) rfl [5, 18, 27, 42, 0, 47, 1, 4] (by kernel_rfl) (by kernel_rfl) (by kernel_rfl) (by kernel_rfl) h
/-- switchback/switchbackref04.walk -/
def kc_ref04_walk1 (R : AEnd → Hp → Nat → Prop) (s9 : List AV) (K9 : List AV → Hp → Nat → Prop) (v13 : AV) (r : AEnd) (σ : Hp) (n : Nat) : Prop :=
 onEnd r (fun v19 =>
 bindP (aExt v19 0) fun v21 =>
 bindP (aExt v19 1) fun v22 =>
 bindP (semBin .neq v22 (.sc (.int .i64 0))) fun v23 =>
 COND v23 (
 R (.ret (.tp [v21, v22])) σ n) (
 bindP (semBin .add (s9.getD 7 .any) (.sc (.int .i64 1))) fun v24 =>
 K9 [v13, v21, v22, v23, (s9.getD 4 .any), (s9.getD 5 .any), v21, v24] σ n)) (fun v20 => R (.pan v20) σ n)
def lb_ref04_walk2 (v1 : AV) (a1 : AV) (R : AEnd → Hp → Nat → Prop) (K9 : List AV → Hp → Nat → Prop) (s9 : List AV) (σ : Hp) (n : Nat) : Prop :=
 bindP (aFad 6 v1) fun v10 =>
 bindP (aLd σ none v10) fun v11 =>
 bindP (aLen false v11) fun v12 => bnd σ v11 →
 bindP (semBin .lss (s9.getD 7 .any) v12) fun v13 =>
 COND v13 (
 bindP (aFad 6 v1) fun v14 =>
 bindP (aLd σ none v14) fun v15 =>
 bindP (aIad 7 v15 (s9.getD 7 .any)) fun v16 =>
 bindP (aLd σ (some 7) v16) fun v17 =>
 bindP (semBin .add a1 (.sc (.int .i64 1))) fun v18 =>
 CALL Try.prog (.fn 99 []) [v17, v18, (s9.getD 6 .any)] σ n (kc_ref04_walk1 R s9 K9 v13)) (
 R (.ret (.tp [(s9.getD 6 .any), (.sc (.int .i64 0))])) σ n)
def kc_ref04_walk3 (R : AEnd → Hp → Nat → Prop) (a2 : AV) (v1 : AV) (a1 : AV) (r : AEnd) (σ : Hp) (n : Nat) : Prop :=
 onEnd r (fun v5 =>
 bindP (aUn .not v5) fun v7 =>
 COND v7 (
 R (.ret (.tp [a2, (.sc (.int .i64 9))])) σ n) (
 bindP (semBin .add a2 (.sc (.int .i64 1))) fun v8 =>
 LOOP (lb_ref04_walk2 v1 a1 R) [(.tp []), (.tp []), (.tp []), (.tp []), (.sc (.int .i64 0)), (.sc (.int .i64 0)), v8, (.sc (.int .i64 0))] σ n)) (fun v6 => R (.pan v6) σ n)
attribute [go_sem] kc_ref04_walk1 lb_ref04_walk2 kc_ref04_walk3
def sc_ref04_walk : SCode := (.seq (.reg [
   ⟨(some 3), none, (.box (.t 0))⟩,
    ⟨(some 6), none, (.mv (.c (.sc (.int .i64 0))))⟩,
    ⟨(some 7), none, (.mv (.c (.sc (.int .i64 0))))⟩]) (.seq (.block 0 (.seq (.reg [
   ⟨(some 12), none, (.mv (.t 1))⟩,
    ⟨(some 13), none, (.bin .gtr (.t 12) (.c (.sc (.int .i64 12))))⟩,
    ⟨(some 11), none, (.mv (.t 13))⟩]) (.cond (.t 11) (.seq (.reg [
   ⟨(some 14), none, (.mv (.t 2))⟩,
    ⟨(some 6), none, (.mv (.t 14))⟩,
    ⟨(some 7), none, (.mv (.c (.sc (.int .i64 10))))⟩]) .ret) (.seq (.reg [
   ⟨(some 16), none, (.mv (.t 2))⟩,
    ⟨(some 17), none, (.bin .geq (.t 16) (.c (.sc (.int .i64 64))))⟩,
    ⟨(some 15), none, (.mv (.t 17))⟩]) (.cond (.t 15) (.seq (.reg [
   ⟨(some 18), none, (.mv (.t 2))⟩,
    ⟨(some 6), none, (.mv (.t 18))⟩,
    ⟨(some 7), none, (.mv (.c (.sc (.int .i64 3))))⟩]) .ret) (.seq (.reg [
   ⟨(some 20), none, (.ld (some 7) (.t 3))⟩,
    ⟨(some 21), none, (.call (.c (.fn 138 [])) [(.t 20)])⟩,
    ⟨(some 22), none, (.un .not (.t 21))⟩,
    ⟨(some 19), none, (.mv (.t 22))⟩]) (.cond (.t 19) (.seq (.reg [
   ⟨(some 23), none, (.mv (.t 2))⟩,
    ⟨(some 6), none, (.mv (.t 23))⟩,
    ⟨(some 7), none, (.mv (.c (.sc (.int .i64 9))))⟩]) .ret) .skip))))))) (.seq (.reg [
   ⟨(some 24), none, (.mv (.t 2))⟩,
    ⟨(some 25), none, (.bin .add (.t 24) (.c (.sc (.int .i64 1))))⟩,
    ⟨(some 2), none, (.mv (.t 25))⟩]) (.seq (.seq (.reg [
   ⟨(some 8), none, (.mv (.c (.sc (.int .i64 0))))⟩]) (.block 1 (.loop [30, 9, 10, 46, 6, 7, 2, 8] [26, 27, 28, 29, 30, 34, 35, 36, 37, 38, 39, 40, 41, 42, 33, 43, 44, 9, 10, 45, 46, 47, 48, 6, 7, 49, 2, 31, 32, 8] (.seq (.seq (.reg [
   ⟨(some 26), none, (.mv (.t 8))⟩,
    ⟨(some 27), none, (.fad 6 (.t 3))⟩,
    ⟨(some 28), none, (.ld none (.t 27))⟩,
    ⟨(some 29), none, (.len false (.t 28))⟩,
    ⟨(some 30), none, (.bin .lss (.t 26) (.t 29))⟩]) (.cond (.t 30) .skip (.exit 1))) (.seq (.block 2 (.seq (.reg [
   ⟨(some 34), none, (.fad 6 (.t 3))⟩,
    ⟨(some 35), none, (.ld none (.t 34))⟩,
    ⟨(some 36), none, (.mv (.t 8))⟩,
    ⟨(some 37), none, (.iad 7 (.t 35) (.t 36))⟩,
    ⟨(some 38), none, (.ld (some 7) (.t 37))⟩,
    ⟨(some 39), none, (.mv (.t 1))⟩,
    ⟨(some 40), none, (.bin .add (.t 39) (.c (.sc (.int .i64 1))))⟩,
    ⟨(some 41), none, (.mv (.t 2))⟩,
    ⟨(some 42), none, (.call (.c (.fn 99 [])) [(.t 38), (.t 40), (.t 41)])⟩,
    ⟨(some 33), none, (.mv (.t 42))⟩,
    ⟨(some 43), none, (.ext (.t 33) 0)⟩,
    ⟨(some 44), none, (.ext (.t 33) 1)⟩,
    ⟨(some 9), none, (.mv (.t 43))⟩,
    ⟨(some 10), none, (.mv (.t 44))⟩]) (.seq (.seq (.reg [
   ⟨(some 45), none, (.mv (.t 10))⟩,
    ⟨(some 46), none, (.bin .neq (.t 45) (.c (.sc (.int .i64 0))))⟩]) (.cond (.t 46) (.seq (.reg [
   ⟨(some 47), none, (.mv (.t 9))⟩,
    ⟨(some 48), none, (.mv (.t 10))⟩,
    ⟨(some 6), none, (.mv (.t 47))⟩,
    ⟨(some 7), none, (.mv (.t 48))⟩]) .ret) .skip)) (.reg [
   ⟨(some 49), none, (.mv (.t 9))⟩,
    ⟨(some 2), none, (.mv (.t 49))⟩])))) (.reg [
   ⟨(some 31), none, (.mv (.t 8))⟩,
    ⟨(some 32), none, (.bin .add (.t 31) (.c (.sc (.int .i64 1))))⟩,
    ⟨(some 8), none, (.mv (.t 32))⟩])))))) (.seq (.reg [
   ⟨(some 50), none, (.mv (.t 2))⟩,
    ⟨(some 6), none, (.mv (.t 50))⟩,
    ⟨(some 7), none, (.mv (.c (.sc (.int .i64 0))))⟩]) .ret)))))
def sh_ref04_walk (a0 a1 a2 : AV) (σ : Hp) (n : Nat) (R : AEnd → Hp → Nat → Prop) : Prop :=
 bindS (hBox n a0) σ n fun v1 σ n =>
 bindP (semBin .gtr a1 (.sc (.int .i64 12))) fun v2 =>
 COND v2 (
 R (.ret (.tp [a2, (.sc (.int .i64 10))])) σ n) (
 bindP (semBin .geq a2 (.sc (.int .i64 64))) fun v3 =>
 COND v3 (
 R (.ret (.tp [a2, (.sc (.int .i64 3))])) σ n) (
 bindP (aLd σ (some 7) v1) fun v4 =>
 CALL Try.prog (.fn 138 []) [v4] σ n (kc_ref04_walk3 R a2 v1 a1)))
theorem se_ref04_walk (a0 a1 a2 : AV) (σ : Hp) (n : Nat) (R : AEnd → Hp → Nat → Prop) : sh_ref04_walk a0 a1 a2 σ n R = swp Try.prog sc_ref04_walk (retQ [(.t 6), (.t 7)] R) (entry [a0, a1, a2]) σ n := by kernel_rfl
theorem by_ref04_walk {a0 a1 a2 : AV} {σ : Hp} {n : Nat} {R : AEnd → Hp → Nat → Prop} (h : sh_ref04_walk a0 a1 a2 σ n R) : ConH Try.prog 99 [a0, a1, a2] σ n R := by
  rw [se_ref04_walk] at h
  exact conH_of [(.t 6), (.t 7)] (fn := Try.f99) rfl [0, 11, 15, 19, 30, 3, 1, 46, 10, 9, 8, 2, 6, 7] (by kernel_rfl) (by kernel_rfl) (by kernel_rfl) (by kernel_rfl) h
/-- switchback/switchbackref07.place -/
def kc_ref07_place1 (s5 : List AV) (v10 : AV) (K12 : List AV → Hp → Nat → Prop) (v30 : AV) (R : AEnd → Hp → Nat → Prop) (r : AEnd) (σ : Hp) (n : Nat) : Prop :=
 onEnd r (fun v34 =>
 bindP (aExt v34 0) fun v36 =>
 bindP (aExt v34 1) fun v37 =>
 bindP (semBin .eql v37 (.sc (.int .i64 0))) fun v38 =>
 COND v38 (
 bindP (semBin .add (s5.getD 7 .any) (.sc (.int .i64 1))) fun v39 =>
 bindP (semBin .add (s5.getD 10 .any) v36) fun v42 =>
 bindP (aFad 1 v10) fun v43 =>
 bindP (aLd σ none v43) fun v44 =>
 bindP (aIad 3 v44 v36) fun v46 =>
 bindP (aFad 1 v46) fun v47 =>
 bindP (aLd σ none v47) fun v48 =>
 ∀ n_, n + 16 * 11 ≤ n_ → (fun n => K12 [v30, (.sc (.bool true)), v36, v37, v38, v39, v42, v48] σ n) n_) (
 K12 [v30, (.sc (.bool true)), v36, v37, v38, (s5.getD 7 .any), (s5.getD 8 .any), (s5.getD 9 .any)] σ n)) (fun v35 => R (.pan v35) σ n)
def jk_ref07_place2 (v10 : AV) (s5 : List AV) (K5 : List AV → Hp → Nat → Prop) (v7 : AV) (s12 : List AV) (σ : Hp) (n : Nat) : Prop :=
 bindP (aFad 1 v10) fun v13 =>
 bindP (aLd σ none v13) fun v14 =>
 bindP (aLen false v14) fun v15 => bnd σ v14 →
 bindP (semBin .add (s5.getD 10 .any) v15) fun v16 =>
 bindP (semBin .add (s5.getD 11 .any) (.sc (.int .i64 1))) fun v17 =>
 K5 [v7, v10, (s12.getD 0 .any), (s12.getD 1 .any), (s12.getD 2 .any), (s12.getD 3 .any), (s12.getD 4 .any), (s12.getD 5 .any), (s12.getD 6 .any), (s12.getD 7 .any), v16, v17] σ n
def lb_ref07_place3 (a0 : AV) (v1 : AV) (R : AEnd → Hp → Nat → Prop) (K5 : List AV → Hp → Nat → Prop) (s5 : List AV) (σ : Hp) (n : Nat) : Prop :=
 bindP (aLen false a0) fun v6 => bnd σ a0 →
 bindP (semBin .lss (s5.getD 11 .any) v6) fun v7 =>
 COND v7 (
 bindP (aIad 4 a0 (s5.getD 11 .any)) fun v8 =>
 bindP (aLd σ (some 4) v8) fun v9 =>
 bindS (hAlloc n [(.string ⟨#[]⟩), (.slice none 0 0), (.int .i64 0), (.slice none 0 0)]) σ n fun v10 σ n =>
 bindS (hSt σ 4 v10 v9) σ n fun v11 σ n =>
 JOIN (jk_ref07_place2 v10 s5 K5 v7) fun K12 =>
 bindP (aFad 4 v1) fun v18 =>
 bindP (aLd σ none v18) fun v19 =>
 bindP (semBin .eql v19 (.s [])) fun v20 =>
 guardP v20 false (aFad 4 v1) fun v21 =>
 guardP v20 false (aLd σ none v21) fun v22 =>
 guardP v20 false (aFad 0 v10) fun v23 =>
 guardP v20 false (aLd σ none v23) fun v24 =>
 guardP v20 false (semBin .eql v22 v24) fun v25 =>
 guardP v20 false (some v25) fun v26 =>
 guardP v26 true (some (s5.getD 3 .any)) fun v27 =>
 guardP v26 true (aUn .not v27) fun v28 =>
 guardP v20 false (aPick v26 v28 (.sc (.bool false))) fun v29 =>
 bindP (aPick v20 (.sc (.bool true)) v29) fun v30 =>
 COND v30 (
 bindP (aLd σ (some 4) v10) fun v31 =>
 bindP (aFad 5 v1) fun v32 =>
 bindP (aLd σ none v32) fun v33 =>
 CALL Try.prog (.fn 83 []) [v31, v33] σ n (kc_ref07_place1 s5 v10 K12 v30 R)) (
 K12 [v30, (s5.getD 3 .any), (s5.getD 4 .any), (s5.getD 5 .any), (s5.getD 6 .any), (s5.getD 7 .any), (s5.getD 8 .any), (s5.getD 9 .any)] σ n)) (
 bindP (aUn .not (s5.getD 3 .any)) fun v51 =>
 COND v51 (
 R (.ret (.tp [(.sc (.int .i64 0)), (.sc (.int .i64 0)), (.sc (.int .i64 93))])) σ n) (
 bindP (semBin .neq (s5.getD 7 .any) (.sc (.int .i64 1))) fun v52 =>
 COND v52 (
 R (.ret (.tp [(.sc (.int .i64 0)), (.sc (.int .i64 0)), (.sc (.int .i64 94))])) σ n) (
 R (.ret (.tp [(s5.getD 8 .any), (s5.getD 9 .any), (.sc (.int .i64 0))])) σ n)))
attribute [go_sem] kc_ref07_place1 jk_ref07_place2 lb_ref07_place3
def sc_ref07_place : SCode := (.seq (.reg [
   ⟨(some 3), none, (.box (.t 1))⟩,
    ⟨(some 4), none, (.mv (.c (.sc (.int .i64 0))))⟩,
    ⟨(some 5), none, (.mv (.c (.sc (.int .i64 0))))⟩,
    ⟨(some 6), none, (.mv (.c (.sc (.int .i64 0))))⟩]) (.seq (.reg [
   ⟨(some 7), none, (.mv (.c (.sc (.int .i64 0))))⟩,
    ⟨(some 8), none, (.mv (.c (.sc (.int .i64 (-1)))))⟩,
    ⟨(some 9), none, (.mv (.c (.sc (.int .i64 0))))⟩,
    ⟨(some 10), none, (.mv (.c (.sc (.int .i64 0))))⟩]) (.seq (.reg [
   ⟨(some 16), none, (.fad 4 (.t 3))⟩,
    ⟨(some 17), none, (.ld none (.t 16))⟩,
    ⟨(some 18), none, (.bin .eql (.t 17) (.c (.s [])))⟩,
    ⟨(some 11), none, (.mv (.t 18))⟩]) (.seq (.seq (.reg [
   ⟨(some 12), none, (.mv (.c (.sc (.int .i64 0))))⟩]) (.block 0 (.loop [22, 13, 42, 11, 14, 15, 51, 10, 8, 9, 7, 12] [19, 20, 21, 22, 25, 26, 27, 28, 13, 29, 30, 31, 32, 33, 34, 35, 36, 37, 38, 39, 40, 41, 42, 11, 44, 45, 46, 47, 43, 48, 49, 14, 15, 50, 51, 52, 53, 10, 54, 55, 56, 57, 58, 59, 60, 61, 62, 8, 9, 63, 64, 65, 66, 67, 7, 23, 24, 12] (.seq (.seq (.reg [
   ⟨(some 19), none, (.mv (.t 12))⟩,
    ⟨(some 20), none, (.mv (.t 0))⟩,
    ⟨(some 21), none, (.len false (.t 20))⟩,
    ⟨(some 22), none, (.bin .lss (.t 19) (.t 21))⟩]) (.cond (.t 22) .skip (.exit 0))) (.seq (.block 1 (.seq (.reg [
   ⟨(some 25), none, (.mv (.t 0))⟩,
    ⟨(some 26), none, (.mv (.t 12))⟩,
    ⟨(some 27), none, (.iad 4 (.t 25) (.t 26))⟩,
    ⟨(some 28), none, (.ld (some 4) (.t 27))⟩,
    ⟨(some 13), none, (.alloc [(.string ⟨#[]⟩), (.slice none 0 0), (.int .i64 0), (.slice none 0 0)])⟩,
    ⟨none, none, (.st 4 (.t 13) (.t 28))⟩]) (.seqJ [42, 11, 14, 15, 51, 10, 8, 9] [29, 30, 31, 32, 33, 34, 35, 36, 37, 38, 39, 40, 41, 42, 11, 44, 45, 46, 47, 43, 48, 49, 14, 15, 50, 51, 52, 53, 10, 54, 55, 56, 57, 58, 59, 60, 61, 62, 8, 9] (.seq (.reg [
   ⟨(some 29), none, (.fad 4 (.t 3))⟩,
    ⟨(some 30), none, (.ld none (.t 29))⟩,
    ⟨(some 31), none, (.bin .eql (.t 30) (.c (.s [])))⟩,
    ⟨(some 32), none, (.mv (.t 31))⟩,
    ⟨(some 33), (some (32, false)), (.fad 4 (.t 3))⟩,
    ⟨(some 34), (some (32, false)), (.ld none (.t 33))⟩,
    ⟨(some 35), (some (32, false)), (.fad 0 (.t 13))⟩,
    ⟨(some 36), (some (32, false)), (.ld none (.t 35))⟩,
    ⟨(some 37), (some (32, false)), (.bin .eql (.t 34) (.t 36))⟩,
    ⟨(some 38), (some (32, false)), (.mv (.t 37))⟩,
    ⟨(some 39), (some (38, true)), (.mv (.t 11))⟩,
    ⟨(some 40), (some (38, true)), (.un .not (.t 39))⟩,
    ⟨(some 41), (some (32, false)), (.pick (.t 38) (.t 40) (.c (.sc (.bool false))))⟩,
    ⟨(some 42), none, (.pick (.t 32) (.c (.sc (.bool true))) (.t 41))⟩]) (.cond (.t 42) (.seq (.reg [
   ⟨(some 11), none, (.mv (.c (.sc (.bool true))))⟩]) (.seq (.reg [
   ⟨(some 44), none, (.ld (some 4) (.t 13))⟩,
    ⟨(some 45), none, (.fad 5 (.t 3))⟩,
    ⟨(some 46), none, (.ld none (.t 45))⟩,
    ⟨(some 47), none, (.call (.c (.fn 83 [])) [(.t 44), (.t 46)])⟩,
    ⟨(some 43), none, (.mv (.t 47))⟩,
    ⟨(some 48), none, (.ext (.t 43) 0)⟩,
    ⟨(some 49), none, (.ext (.t 43) 1)⟩,
    ⟨(some 14), none, (.mv (.t 48))⟩,
    ⟨(some 15), none, (.mv (.t 49))⟩]) (.seq (.reg [
   ⟨(some 50), none, (.mv (.t 15))⟩,
    ⟨(some 51), none, (.bin .eql (.t 50) (.c (.sc (.int .i64 0))))⟩]) (.cond (.t 51) (.seq (.reg [
   ⟨(some 52), none, (.mv (.t 10))⟩,
    ⟨(some 53), none, (.bin .add (.t 52) (.c (.sc (.int .i64 1))))⟩,
    ⟨(some 10), none, (.mv (.t 53))⟩]) (.regD [(⟨(some 54), none, (.mv (.t 7))⟩, []), (⟨(some 55), none, (.mv (.t 14))⟩, []), (⟨(some 56), none, (.bin .add (.t 54) (.t 55))⟩, [0, 1]), (⟨(some 57), none, (.fad 1 (.t 13))⟩, []), (⟨(some 58), none, (.ld none (.t 57))⟩, [3]), (⟨(some 59), none, (.mv (.t 14))⟩, []), (⟨(some 60), none, (.iad 3 (.t 58) (.t 59))⟩, [4, 3, 5]), (⟨(some 61), none, (.fad 1 (.t 60))⟩, [6, 4, 3, 5]), (⟨(some 62), none, (.ld none (.t 61))⟩, [7, 6, 4, 3, 5]), (⟨(some 8), none, (.mv (.t 56))⟩, [2, 0, 1]), (⟨(some 9), none, (.mv (.t 62))⟩, [8, 7, 6, 4, 3, 5, 9, 2, 0, 1])])) .skip)))) .skip)) (.reg [
   ⟨(some 63), none, (.mv (.t 7))⟩,
    ⟨(some 64), none, (.fad 1 (.t 13))⟩,
    ⟨(some 65), none, (.ld none (.t 64))⟩,
    ⟨(some 66), none, (.len false (.t 65))⟩,
    ⟨(some 67), none, (.bin .add (.t 63) (.t 66))⟩,
    ⟨(some 7), none, (.mv (.t 67))⟩])))) (.reg [
   ⟨(some 23), none, (.mv (.t 12))⟩,
    ⟨(some 24), none, (.bin .add (.t 23) (.c (.sc (.int .i64 1))))⟩,
    ⟨(some 12), none, (.mv (.t 24))⟩])))))) (.seq (.block 2 (.seq (.reg [
   ⟨(some 69), none, (.mv (.t 11))⟩,
    ⟨(some 70), none, (.un .not (.t 69))⟩,
    ⟨(some 68), none, (.mv (.t 70))⟩]) (.cond (.t 68) (.seq (.reg [
   ⟨(some 4), none, (.mv (.c (.sc (.int .i64 0))))⟩,
    ⟨(some 5), none, (.mv (.c (.sc (.int .i64 0))))⟩,
    ⟨(some 6), none, (.mv (.c (.sc (.int .i64 93))))⟩]) .ret) (.seq (.reg [
   ⟨(some 72), none, (.mv (.t 10))⟩,
    ⟨(some 73), none, (.bin .neq (.t 72) (.c (.sc (.int .i64 1))))⟩,
    ⟨(some 71), none, (.mv (.t 73))⟩]) (.cond (.t 71) (.seq (.reg [
   ⟨(some 4), none, (.mv (.c (.sc (.int .i64 0))))⟩,
    ⟨(some 5), none, (.mv (.c (.sc (.int .i64 0))))⟩,
    ⟨(some 6), none, (.mv (.c (.sc (.int .i64 94))))⟩]) .ret) .skip))))) (.seq (.reg [
   ⟨(some 74), none, (.mv (.t 8))⟩,
    ⟨(some 75), none, (.mv (.t 9))⟩,
    ⟨(some 4), none, (.mv (.t 74))⟩,
    ⟨(some 5), none, (.mv (.t 75))⟩,
    ⟨(some 6), none, (.mv (.c (.sc (.int .i64 0))))⟩]) .ret))))))
def sh_ref07_place (a0 a1 : AV) (σ : Hp) (n : Nat) (R : AEnd → Hp → Nat → Prop) : Prop :=
 bindS (hBox n a1) σ n fun v1 σ n =>
 bindP (aFad 4 v1) fun v2 =>
 bindP (aLd σ none v2) fun v3 =>
 bindP (semBin .eql v3 (.s [])) fun v4 =>
 LOOP (lb_ref07_place3 a0 v1 R) [(.tp []), (.tp []), (.tp []), v4, (.tp []), (.tp []), (.tp []), (.sc (.int .i64 0)), (.sc (.int .i64 (-1))), (.sc (.int .i64 0)), (.sc (.int .i64 0)), (.sc (.int .i64 0))] σ n
theorem se_ref07_place (a0 a1 : AV) (σ : Hp) (n : Nat) (R : AEnd → Hp → Nat → Prop) : sh_ref07_place a0 a1 σ n R = swp Try.prog sc_ref07_place (retQ [(.t 4), (.t 5), (.t 6)] R) (entry [a0, a1]) σ n := by kernel_rfl
theorem by_ref07_place {a0 a1 : AV} {σ : Hp} {n : Nat} {R : AEnd → Hp → Nat → Prop} (h : sh_ref07_place a0 a1 σ n R) : ConH Try.prog 100 [a0, a1] σ n R := by
  rw [se_ref07_place] at h
  exact conH_of [(.t 4), (.t 5), (.t 6)] (fn := Try.f100) rfl [1, 22, 0, 42, 3, 15, 51, 14, 7, 13, 12, 11, 68, 10, 71, 8, 9, 4, 5, 6] (by kernel_rfl) (by kernel_rfl) (by kernel_rfl) (by kernel_rfl) h
/-- switchback/switchbackref07.Place -/
def sc_ref07_Place : SCode := (.seq (.reg [
   ⟨(some 2), none, (.alloc [(.int .i64 0), (.int .i64 0), (.int .i64 0), (.string ⟨#[]⟩), (.string ⟨#[]⟩), (.string ⟨#[]⟩), (.slice none 0 0)])⟩]) (.seq (.reg [
   ⟨(some 3), none, (.mv (.t 0))⟩,
    ⟨(some 4), none, (.build [(.int .i64 0), (.int .i64 0), (.string ⟨#[]⟩)] [(0, (1, (.c (.sc (.int .i64 1))))), (1, (1, (.t 3)))])⟩,
    ⟨(some 5), none, (.build [(.int .i64 0), (.int .i64 0), (.int .i64 0), (.string ⟨#[]⟩), (.string ⟨#[]⟩), (.string ⟨#[]⟩), (.slice none 0 0)] [(0, (1, (.c (.sc (.int .i64 1))))), (1, (3, (.t 4)))])⟩,
    ⟨none, none, (.st 7 (.t 2) (.t 5))⟩]) .ret))
def sh_ref07_Place (a0 : AV) (σ : Hp) (n : Nat) (R : AEnd → Hp → Nat → Prop) : Prop :=
 bindS (hAlloc n [(.int .i64 0), (.int .i64 0), (.int .i64 0), (.string ⟨#[]⟩), (.string ⟨#[]⟩), (.string ⟨#[]⟩), (.slice none 0 0)]) σ n fun v1 σ n =>
 bindP (aBuild [(.int .i64 0), (.int .i64 0), (.string ⟨#[]⟩)] [(0, 1, (.sc (.int .i64 1))), (1, 1, a0)]) fun v2 =>
 bindP (aBuild [(.int .i64 0), (.int .i64 0), (.int .i64 0), (.string ⟨#[]⟩), (.string ⟨#[]⟩), (.string ⟨#[]⟩), (.slice none 0 0)] [(0, 1, (.sc (.int .i64 1))), (1, 3, v2)]) fun v3 =>
 bindS (hSt σ 7 v1 v3) σ n fun v4 σ n =>
 bindP (aLd σ (some 7) v1) fun v5 =>
 R (.ret v5) σ n
theorem se_ref07_Place (a0 : AV) (σ : Hp) (n : Nat) (R : AEnd → Hp → Nat → Prop) : sh_ref07_Place a0 σ n R = swp Try.prog sc_ref07_Place (retQ [(.c 2 (some 7))] R) (entry [a0]) σ n := by kernel_rfl
theorem by_ref07_Place {a0 : AV} {σ : Hp} {n : Nat} {R : AEnd → Hp → Nat → Prop} (h : sh_ref07_Place a0 σ n R) : ConH Try.prog 101 [a0] σ n R := by
  rw [se_ref07_Place] at h
  exact conH_of [(.c 2 (some 7))] (fn := Try.f101) rfl [0, 2] (by kernel_rfl) (by kernel_rfl) (by kernel_rfl) (by kernel_rfl) h
/-- switchback/switchbackref07.kind -/
def kc_ref07_kind1 (K1 : List AV → Hp → Nat → Prop) (v3 : AV) (R : AEnd → Hp → Nat → Prop) (r : AEnd) (σ : Hp) (n : Nat) : Prop :=
 onEnd r (fun v6 =>
 K1 [v3, (.tp []), (.tp []), (.tp []), (.tp []), (.tp []), (.tp []), v6, (.tp []), (.sc (.int .i64 1))] σ n) (fun v7 => R (.pan v7) σ n)
def kc_ref07_kind2 (K1 : List AV → Hp → Nat → Prop) (v3 : AV) (v8 : AV) (R : AEnd → Hp → Nat → Prop) (r : AEnd) (σ : Hp) (n : Nat) : Prop :=
 onEnd r (fun v11 =>
 K1 [v3, v8, (.tp []), (.tp []), (.tp []), (.tp []), (.tp []), v11, (.tp []), (.sc (.int .i64 2))] σ n) (fun v12 => R (.pan v12) σ n)
def kc_ref07_kind3 (Kg : AV → Hp → Nat → Prop) (R : AEnd → Hp → Nat → Prop) (r : AEnd) (σ : Hp) (n : Nat) : Prop :=
 onEnd r (fun v22 =>
 Kg v22 σ n) (fun v23 => R (.pan v23) σ n)
def kc_ref07_kind4 (a1 : AV) (R : AEnd → Hp → Nat → Prop) (K1 : List AV → Hp → Nat → Prop) (v3 : AV) (v8 : AV) (v13 : AV) (r : AEnd) (σ : Hp) (n : Nat) : Prop :=
 onEnd r (fun v16 =>
 guardP v16 true (some a1) fun v18 =>
 guardP v16 true (aIad 1 v18 (.sc (.int .i64 1))) fun v19 =>
 guardP v16 true (aLd σ none v19) fun v20 =>
 guardK v16 true (fun Kg => CALL Try.prog (.fn 139 []) [v20, (.sc (.int .i64 1))] σ n (kc_ref07_kind3 Kg R)) σ n fun v21 σ n =>
 bindP (aPick v16 v21 (.sc (.bool false))) fun v24 =>
 K1 [v3, v8, v13, (.tp []), (.tp []), (.tp []), (.tp []), v24, (.tp []), (.sc (.int .i64 1))] σ n) (fun v17 => R (.pan v17) σ n)
def kd_ref07_kind5 (Kd : AV → Wr → List Nat → Prop) (v32 : AV) (v35 : AV) (σ : Hp) (n : Nat) (R : AEnd → Hp → Nat → Prop) (r : AEnd) (w38 : Wr) (d38 : List Nat) : Prop :=
 onEnd r (fun v38 =>
 Kd v38 w38 d38) (fun v39 => Apt (names []) (rdA v32) (names []) (rdA v35) ∧
 ∀ (fr_ : Regs) σ n, R (.pan v39) σ n)
def kc_ref07_kind6 (Kg : AV → Hp → Nat → Prop) (R : AEnd → Hp → Nat → Prop) (r : AEnd) (σ : Hp) (n : Nat) : Prop :=
 onEnd r (fun v51 =>
 Kg v51 σ n) (fun v52 => R (.pan v52) σ n)
def kc_ref07_kind7 (a1 : AV) (R : AEnd → Hp → Nat → Prop) (K1 : List AV → Hp → Nat → Prop) (v3 : AV) (v8 : AV) (v13 : AV) (v25 : AV) (v42 : AV) (r : AEnd) (σ : Hp) (n : Nat) : Prop :=
 onEnd r (fun v45 =>
 guardP v45 true (some a1) fun v47 =>
 guardP v45 true (aIad 1 v47 (.sc (.int .i64 1))) fun v48 =>
 guardP v45 true (aLd σ none v48) fun v49 =>
 guardK v45 true (fun Kg => CALL Try.prog (.fn 139 []) [v49, (.sc (.int .i64 2))] σ n (kc_ref07_kind6 Kg R)) σ n fun v50 σ n =>
 bindP (aPick v45 v50 (.sc (.bool false))) fun v53 =>
 K1 [v3, v8, v13, v25, v42, (.tp []), (.tp []), v53, (.tp []), (.sc (.int .i64 2))] σ n) (fun v46 => R (.pan v46) σ n)
def kc_ref07_kind8 (K1 : List AV → Hp → Nat → Prop) (v3 : AV) (v8 : AV) (v13 : AV) (v25 : AV) (v42 : AV) (v57 : AV) (v58 : AV) (R : AEnd → Hp → Nat → Prop) (r : AEnd) (σ : Hp) (n : Nat) : Prop :=
 onEnd r (fun v61 =>
 K1 [v3, v8, v13, v25, v42, v57, v58, v61, (.tp []), (.sc (.int .i64 1))] σ n) (fun v62 => R (.pan v62) σ n)
def jk_ref07_kind9 (R : AEnd → Hp → Nat → Prop) (s1 : List AV) (σ : Hp) (n : Nat) : Prop :=
 bindP (aUn .not (s1.getD 7 .any)) fun v2 =>
 COND v2 (
 R (.ret (.tp [(.sc (.int .i64 0)), (.sc (.int .i64 81))])) σ n) (
 R (.ret (.tp [(s1.getD 9 .any), (.sc (.int .i64 0))])) σ n)
attribute [go_sem] kc_ref07_kind1 kc_ref07_kind2 kc_ref07_kind3 kc_ref07_kind4 kd_ref07_kind5 kc_ref07_kind6 kc_ref07_kind7 kc_ref07_kind8 jk_ref07_kind9
def sc_ref07_kind : SCode := (.seq (.reg [
   ⟨(some 4), none, (.mv (.c (.sc (.int .i64 0))))⟩,
    ⟨(some 5), none, (.mv (.c (.sc (.int .i64 0))))⟩]) (.seq (.reg [
   ⟨(some 6), none, (.mv (.c (.sc (.bool true))))⟩,
    ⟨(some 7), none, (.mv (.c (.sc (.int .i64 2))))⟩]) (.seqJ [8, 15, 22, 35, 51, 64, 71, 6, 78, 7] [9, 10, 8, 11, 12, 13, 14, 6, 7, 16, 17, 15, 18, 19, 20, 21, 6, 23, 24, 22, 25, 26, 27, 28, 29, 30, 31, 32, 33, 34, 6, 7, 36, 37, 35, 38, 39, 40, 41, 42, 43, 44, 45, 46, 47, 48, 49, 50, 6, 52, 53, 51, 54, 55, 56, 57, 58, 59, 60, 61, 62, 63, 6, 65, 66, 67, 68, 69, 70, 64, 7, 72, 73, 71, 74, 75, 76, 77, 6, 7, 79, 80, 78, 81, 82, 83, 7] (.block 0 (.seq (.reg [
   ⟨(some 9), none, (.mv (.t 0))⟩,
    ⟨(some 10), none, (.bin .eql (.t 9) (.c (.sc (.int .i64 2))))⟩,
    ⟨(some 8), none, (.mv (.t 10))⟩]) (.cond (.t 8) (.reg [
   ⟨(some 11), none, (.mv (.t 1))⟩,
    ⟨(some 12), none, (.iad 1 (.t 11) (.c (.sc (.int .i64 0))))⟩,
    ⟨(some 13), none, (.ld none (.t 12))⟩,
    ⟨(some 14), none, (.call (.c (.fn 139 [])) [(.t 13), (.c (.sc (.int .i64 1)))])⟩,
    ⟨(some 6), none, (.mv (.t 14))⟩,
    ⟨(some 7), none, (.mv (.c (.sc (.int .i64 1))))⟩]) (.seq (.reg [
   ⟨(some 16), none, (.mv (.t 0))⟩,
    ⟨(some 17), none, (.bin .eql (.t 16) (.c (.sc (.int .i64 3))))⟩,
    ⟨(some 15), none, (.mv (.t 17))⟩]) (.cond (.t 15) (.reg [
   ⟨(some 18), none, (.mv (.t 1))⟩,
    ⟨(some 19), none, (.iad 1 (.t 18) (.c (.sc (.int .i64 0))))⟩,
    ⟨(some 20), none, (.ld none (.t 19))⟩,
    ⟨(some 21), none, (.call (.c (.fn 139 [])) [(.t 20), (.c (.sc (.int .i64 2)))])⟩,
    ⟨(some 6), none, (.mv (.t 21))⟩]) (.seq (.reg [
   ⟨(some 23), none, (.mv (.t 0))⟩,
    ⟨(some 24), none, (.bin .leq (.t 23) (.c (.sc (.int .i64 7))))⟩,
    ⟨(some 22), none, (.mv (.t 24))⟩]) (.cond (.t 22) (.reg [
   ⟨(some 25), none, (.mv (.t 1))⟩,
    ⟨(some 26), none, (.iad 1 (.t 25) (.c (.sc (.int .i64 0))))⟩,
    ⟨(some 27), none, (.ld none (.t 26))⟩,
    ⟨(some 28), none, (.call (.c (.fn 139 [])) [(.t 27), (.c (.sc (.int .i64 1)))])⟩,
    ⟨(some 29), none, (.mv (.t 28))⟩,
    ⟨(some 30), (some (29, true)), (.mv (.t 1))⟩,
    ⟨(some 31), (some (29, true)), (.iad 1 (.t 30) (.c (.sc (.int .i64 1))))⟩,
    ⟨(some 32), (some (29, true)), (.ld none (.t 31))⟩,
    ⟨(some 33), (some (29, true)), (.call (.c (.fn 139 [])) [(.t 32), (.c (.sc (.int .i64 1)))])⟩,
    ⟨(some 34), none, (.pick (.t 29) (.t 33) (.c (.sc (.bool false))))⟩,
    ⟨(some 6), none, (.mv (.t 34))⟩,
    ⟨(some 7), none, (.mv (.c (.sc (.int .i64 1))))⟩]) (.seq (.reg [
   ⟨(some 36), none, (.mv (.t 0))⟩,
    ⟨(some 37), none, (.bin .leq (.t 36) (.c (.sc (.int .i64 13))))⟩,
    ⟨(some 35), none, (.mv (.t 37))⟩]) (.cond (.t 35) (.regD [(⟨(some 38), none, (.mv (.t 1))⟩, []), (⟨(some 39), none, (.iad 1 (.t 38) (.c (.sc (.int .i64 0))))⟩, [0]), (⟨(some 40), none, (.ld none (.t 39))⟩, [1, 0]), (⟨(some 41), none, (.bin .eql (.t 40) (.c (.sc (.int .i64 0))))⟩, [2, 1, 0]), (⟨(some 42), none, (.mv (.t 41))⟩, [3, 2, 1, 0]), (⟨(some 43), (some (42, false)), (.mv (.t 1))⟩, [4, 3, 2, 1, 0]), (⟨(some 44), (some (42, false)), (.iad 1 (.t 43) (.c (.sc (.int .i64 1))))⟩, [5, 4, 3, 2, 1, 0]), (⟨(some 45), (some (42, false)), (.ld none (.t 44))⟩, [6, 5, 4, 3, 2, 1, 0]), (⟨(some 46), (some (42, false)), (.mv (.t 1))⟩, [4, 3, 2, 1, 0]), (⟨(some 47), (some (42, false)), (.iad 1 (.t 46) (.c (.sc (.int .i64 0))))⟩, [8, 4, 3, 2, 1, 0]), (⟨(some 48), (some (42, false)), (.ld none (.t 47))⟩, [9, 8, 4, 3, 2, 1, 0]), (⟨(some 49), (some (42, false)), (.call (.c (.fn 139 [])) [(.t 45), (.t 48)])⟩, [7, 6, 5, 4, 3, 2, 1, 0, 10, 9, 8]), (⟨(some 50), none, (.pick (.t 42) (.c (.sc (.bool true))) (.t 49))⟩, [4, 3, 2, 1, 0, 11, 7, 6, 5, 10, 9, 8]), (⟨(some 6), none, (.mv (.t 50))⟩, [12, 4, 3, 2, 1, 0, 11, 7, 6, 5, 10, 9, 8])]) (.seq (.reg [
   ⟨(some 52), none, (.mv (.t 0))⟩,
    ⟨(some 53), none, (.bin .leq (.t 52) (.c (.sc (.int .i64 15))))⟩,
    ⟨(some 51), none, (.mv (.t 53))⟩]) (.cond (.t 51) (.reg [
   ⟨(some 54), none, (.mv (.t 1))⟩,
    ⟨(some 55), none, (.iad 1 (.t 54) (.c (.sc (.int .i64 0))))⟩,
    ⟨(some 56), none, (.ld none (.t 55))⟩,
    ⟨(some 57), none, (.call (.c (.fn 139 [])) [(.t 56), (.c (.sc (.int .i64 2)))])⟩,
    ⟨(some 58), none, (.mv (.t 57))⟩,
    ⟨(some 59), (some (58, true)), (.mv (.t 1))⟩,
    ⟨(some 60), (some (58, true)), (.iad 1 (.t 59) (.c (.sc (.int .i64 1))))⟩,
    ⟨(some 61), (some (58, true)), (.ld none (.t 60))⟩,
    ⟨(some 62), (some (58, true)), (.call (.c (.fn 139 [])) [(.t 61), (.c (.sc (.int .i64 2)))])⟩,
    ⟨(some 63), none, (.pick (.t 58) (.t 62) (.c (.sc (.bool false))))⟩,
    ⟨(some 6), none, (.mv (.t 63))⟩]) (.seq (.reg [
   ⟨(some 65), none, (.mv (.t 0))⟩,
    ⟨(some 66), none, (.bin .eql (.t 65) (.c (.sc (.int .i64 18))))⟩,
    ⟨(some 67), none, (.mv (.t 66))⟩,
    ⟨(some 68), (some (67, false)), (.mv (.t 0))⟩,
    ⟨(some 69), (some (67, false)), (.bin .eql (.t 68) (.c (.sc (.int .i64 19))))⟩,
    ⟨(some 70), none, (.pick (.t 67) (.c (.sc (.bool true))) (.t 69))⟩,
    ⟨(some 64), none, (.mv (.t 70))⟩]) (.cond (.t 64) (.reg [
   ⟨(some 7), none, (.mv (.c (.sc (.int .i64 1))))⟩]) (.seq (.reg [
   ⟨(some 72), none, (.mv (.t 0))⟩,
    ⟨(some 73), none, (.bin .eql (.t 72) (.c (.sc (.int .i64 20))))⟩,
    ⟨(some 71), none, (.mv (.t 73))⟩]) (.cond (.t 71) (.reg [
   ⟨(some 74), none, (.mv (.t 1))⟩,
    ⟨(some 75), none, (.iad 1 (.t 74) (.c (.sc (.int .i64 0))))⟩,
    ⟨(some 76), none, (.ld none (.t 75))⟩,
    ⟨(some 77), none, (.call (.c (.fn 139 [])) [(.t 76), (.c (.sc (.int .i64 1)))])⟩,
    ⟨(some 6), none, (.mv (.t 77))⟩,
    ⟨(some 7), none, (.mv (.c (.sc (.int .i64 1))))⟩]) (.seq (.reg [
   ⟨(some 79), none, (.mv (.t 0))⟩,
    ⟨(some 80), none, (.bin .geq (.t 79) (.c (.sc (.int .i64 21))))⟩,
    ⟨(some 78), none, (.mv (.t 80))⟩]) (.cond (.t 78) (.reg [
   ⟨(some 81), none, (.mv (.t 1))⟩,
    ⟨(some 82), none, (.iad 1 (.t 81) (.c (.sc (.int .i64 0))))⟩,
    ⟨(some 83), none, (.ld none (.t 82))⟩,
    ⟨(some 7), none, (.mv (.t 83))⟩]) .skip))))))))))))))))) (.seq (.seq (.reg [
   ⟨(some 84), none, (.mv (.t 6))⟩,
    ⟨(some 85), none, (.un .not (.t 84))⟩]) (.cond (.t 85) (.seq (.reg [
   ⟨(some 4), none, (.mv (.c (.sc (.int .i64 0))))⟩,
    ⟨(some 5), none, (.mv (.c (.sc (.int .i64 81))))⟩]) .ret) .skip)) (.seq (.reg [
   ⟨(some 86), none, (.mv (.t 7))⟩,
    ⟨(some 4), none, (.mv (.t 86))⟩,
    ⟨(some 5), none, (.mv (.c (.sc (.int .i64 0))))⟩]) .ret)))))
def sh_ref07_kind (a0 a1 : AV) (σ : Hp) (n : Nat) (R : AEnd → Hp → Nat → Prop) : Prop :=
 JOIN (jk_ref07_kind9 R) fun K1 =>
 bindP (semBin .eql a0 (.sc (.int .i64 2))) fun v3 =>
 COND v3 (
 bindP (aIad 1 a1 (.sc (.int .i64 0))) fun v4 =>
 bindP (aLd σ none v4) fun v5 =>
 CALL Try.prog (.fn 139 []) [v5, (.sc (.int .i64 1))] σ n (kc_ref07_kind1 K1 v3 R)) (
 bindP (semBin .eql a0 (.sc (.int .i64 3))) fun v8 =>
 COND v8 (
 bindP (aIad 1 a1 (.sc (.int .i64 0))) fun v9 =>
 bindP (aLd σ none v9) fun v10 =>
 CALL Try.prog (.fn 139 []) [v10, (.sc (.int .i64 2))] σ n (kc_ref07_kind2 K1 v3 v8 R)) (
 bindP (semBin .leq a0 (.sc (.int .i64 7))) fun v13 =>
 COND v13 (
 bindP (aIad 1 a1 (.sc (.int .i64 0))) fun v14 =>
 bindP (aLd σ none v14) fun v15 =>
 CALL Try.prog (.fn 139 []) [v15, (.sc (.int .i64 1))] σ n (kc_ref07_kind4 a1 R K1 v3 v8 v13)) (
 bindP (semBin .leq a0 (.sc (.int .i64 13))) fun v25 =>
 COND v25 (
 bindP (aIad 1 a1 (.sc (.int .i64 0))) fun v27 =>
 bindP (aLd σ none v27) fun v28 =>
 bindP (semBin .eql v28 (.sc (.int .i64 0))) fun v29 =>
 guardP v29 false (some a1) fun v31 =>
 guardP v29 false (aIad 1 v31 (.sc (.int .i64 1))) fun v32 =>
 guardP v29 false (aLd σ none v32) fun v33 =>
 guardP v29 false (some a1) fun v34 =>
 guardP v29 false (aIad 1 v34 (.sc (.int .i64 0))) fun v35 =>
 guardP v29 false (aLd σ none v35) fun v36 =>
 guardD v29 false (fun Kd => callD Try.prog (.fn 139 []) [v33, v36] σ (n + 16 * 11) (kd_ref07_kind5 Kd v32 v35 σ n R)) fun v37 w37 d37 =>
 bindP (aPick v29 (.sc (.bool true)) v37) fun v40 =>
 Apt (names []) (rdA v32) (names []) (rdA v35) ∧
 ∀ n_, n + 16 * 14 ≤ n_ → (fun n => (fun σ => K1 [v3, v8, v13, v25, (.tp []), (.tp []), (.tp []), v40, (.tp []), (.sc (.int .i64 2))] σ n) (applyW σ w37)) n_) (
 bindP (semBin .leq a0 (.sc (.int .i64 15))) fun v42 =>
 COND v42 (
 bindP (aIad 1 a1 (.sc (.int .i64 0))) fun v43 =>
 bindP (aLd σ none v43) fun v44 =>
 CALL Try.prog (.fn 139 []) [v44, (.sc (.int .i64 2))] σ n (kc_ref07_kind7 a1 R K1 v3 v8 v13 v25 v42)) (
 bindP (semBin .eql a0 (.sc (.int .i64 18))) fun v54 =>
 guardP v54 false (some a0) fun v55 =>
 guardP v54 false (semBin .eql v55 (.sc (.int .i64 19))) fun v56 =>
 bindP (aPick v54 (.sc (.bool true)) v56) fun v57 =>
 COND v57 (
 K1 [v3, v8, v13, v25, v42, v57, (.tp []), (.sc (.bool true)), (.tp []), (.sc (.int .i64 1))] σ n) (
 bindP (semBin .eql a0 (.sc (.int .i64 20))) fun v58 =>
 COND v58 (
 bindP (aIad 1 a1 (.sc (.int .i64 0))) fun v59 =>
 bindP (aLd σ none v59) fun v60 =>
 CALL Try.prog (.fn 139 []) [v60, (.sc (.int .i64 1))] σ n (kc_ref07_kind8 K1 v3 v8 v13 v25 v42 v57 v58 R)) (
 bindP (semBin .geq a0 (.sc (.int .i64 21))) fun v63 =>
 COND v63 (
 bindP (aIad 1 a1 (.sc (.int .i64 0))) fun v64 =>
 bindP (aLd σ none v64) fun v65 =>
 K1 [v3, v8, v13, v25, v42, v57, v58, (.sc (.bool true)), v63, v65] σ n) (
 K1 [v3, v8, v13, v25, v42, v57, v58, (.sc (.bool true)), v63, (.sc (.int .i64 2))] σ n))))))))
theorem se_ref07_kind (a0 a1 : AV) (σ : Hp) (n : Nat) (R : AEnd → Hp → Nat → Prop) : sh_ref07_kind a0 a1 σ n R = swp Try.prog sc_ref07_kind (retQ [(.t 4), (.t 5)] R) (entry [a0, a1]) σ n := by kernel_rfl
theorem by_ref07_kind {a0 a1 : AV} {σ : Hp} {n : Nat} {R : AEnd → Hp → Nat → Prop} (h : sh_ref07_kind a0 a1 σ n R) : ConH Try.prog 102 [a0, a1] σ n R := by
  rw [se_ref07_kind] at h
  exact conH_of [(.t 4), (.t 5)] (fn := Try.f102) rfl [8, 15, 22, 35, 51, 64, 71, 0, 78, 1, 6, 85, 7, 4, 5] (by kernel_rfl) (by kernel_rfl) (by kernel_rfl) (by kernel_rfl) h
/-- switchback/switchbackref07.fits -/
def sc_ref07_fits : SCode := (.seq (.reg [
   ⟨(some 4), none, (.mv (.c (.sc (.bool false))))⟩]) (.seq (.reg [
   ⟨(some 5), none, (.mv (.t 0))⟩,
    ⟨(some 6), none, (.bin .eql (.t 5) (.c (.sc (.int .i64 0))))⟩,
    ⟨(some 7), none, (.mv (.t 6))⟩,
    ⟨(some 8), (some (7, false)), (.mv (.t 0))⟩,
    ⟨(some 9), (some (7, false)), (.mv (.t 1))⟩,
    ⟨(some 10), (some (7, false)), (.bin .eql (.t 8) (.t 9))⟩,
    ⟨(some 11), none, (.pick (.t 7) (.c (.sc (.bool true))) (.t 10))⟩,
    ⟨(some 4), none, (.mv (.t 11))⟩]) .ret))
def sh_ref07_fits (a0 a1 : AV) (σ : Hp) (n : Nat) (R : AEnd → Hp → Nat → Prop) : Prop :=
 bindP (semBin .eql a0 (.sc (.int .i64 0))) fun v1 =>
 guardP v1 false (some a0) fun v2 =>
 guardP v1 false (some a1) fun v3 =>
 guardP v1 false (semBin .eql v2 v3) fun v4 =>
 bindP (aPick v1 (.sc (.bool true)) v4) fun v5 =>
 R (.ret v5) σ n
theorem se_ref07_fits (a0 a1 : AV) (σ : Hp) (n : Nat) (R : AEnd → Hp → Nat → Prop) : sh_ref07_fits a0 a1 σ n R = swp Try.prog sc_ref07_fits (retQ [(.t 4)] R) (entry [a0, a1]) σ n := by kernel_rfl
theorem by_ref07_fits {a0 a1 : AV} {σ : Hp} {n : Nat} {R : AEnd → Hp → Nat → Prop} (h : sh_ref07_fits a0 a1 σ n R) : ConH Try.prog 139 [a0, a1] σ n R := by
  rw [se_ref07_fits] at h
  exact conH_of [(.t 4)] (fn := Try.f139) rfl [0, 1, 4] (by kernel_rfl) (by kernel_rfl) (by kernel_rfl) (by kernel_rfl) h
/-- switchback/check.fit -/
def kc_check_fit1 (s2 : List AV) (K2 : List AV → Hp → Nat → Prop) (v3 : AV) (v5 : AV) (R : AEnd → Hp → Nat → Prop) (r : AEnd) (σ : Hp) (n : Nat) : Prop :=
 onEnd r (fun v14 =>
 bindP (semBin .add (s2.getD 2 .any) (.sc (.int .i64 1))) fun v16 =>
 K2 [v3, v5, v16] σ n) (fun v15 => R (.pan v15) σ n)
def lb_check_fit2 (v1 : AV) (a1 : AV) (a0 : AV) (R : AEnd → Hp → Nat → Prop) (K2 : List AV → Hp → Nat → Prop) (s2 : List AV) (σ : Hp) (n : Nat) : Prop :=
 bindP (semBin .lss (s2.getD 2 .any) v1) fun v3 =>
 COND v3 (
 bindP (aIad 1 a1 (s2.getD 2 .any)) fun v4 =>
 bindP (aLd σ none v4) fun v5 =>
 bindP (semBin .eql v5 (.sc (.int .i64 0))) fun v6 =>
 guardP v6 false (some a0) fun v7 =>
 guardP v6 false (semBin .eql v7 (.sc (.int .i64 0))) fun v8 =>
 bindP (aPick v6 (.sc (.bool true)) v8) fun v9 =>
 guardP v9 false (some v5) fun v10 =>
 guardP v9 false (some a0) fun v11 =>
 guardP v9 false (semBin .eql v10 v11) fun v12 =>
 bindP (aPick v9 (.sc (.bool true)) v12) fun v13 =>
 CALL Try.prog (.fn 63 []) [v13, (.sc (.int .i64 81))] σ n (kc_check_fit1 s2 K2 v3 v5 R)) (
 R (.ret (.tp [])) σ n)
attribute [go_sem] kc_check_fit1 lb_check_fit2
def sc_check_fit : SCode := (.seq (.reg [
   ⟨(some 6), none, (.mv (.t 1))⟩,
    ⟨(some 7), none, (.len false (.t 6))⟩,
    ⟨(some 8), none, (.mv (.c (.sc (.int .i64 0))))⟩]) (.block 0 (.loop [9, 5, 8] [9, 10, 11, 5, 12, 13, 14, 15, 16, 17, 18, 19, 20, 21, 22, 23, 24, 8] (.seq (.reg [
   ⟨(some 9), none, (.bin .lss (.t 8) (.t 7))⟩]) (.seq (.cond (.t 9) .skip (.exit 0)) (.seq (.block 1 (.seq (.reg [
   ⟨(some 10), none, (.iad 1 (.t 6) (.t 8))⟩,
    ⟨(some 11), none, (.ld none (.t 10))⟩,
    ⟨(some 5), none, (.mv (.t 11))⟩]) (.reg [
   ⟨(some 12), none, (.mv (.t 5))⟩,
    ⟨(some 13), none, (.bin .eql (.t 12) (.c (.sc (.int .i64 0))))⟩,
    ⟨(some 14), none, (.mv (.t 13))⟩,
    ⟨(some 15), (some (14, false)), (.mv (.t 0))⟩,
    ⟨(some 16), (some (14, false)), (.bin .eql (.t 15) (.c (.sc (.int .i64 0))))⟩,
    ⟨(some 17), none, (.pick (.t 14) (.c (.sc (.bool true))) (.t 16))⟩,
    ⟨(some 18), none, (.mv (.t 17))⟩,
    ⟨(some 19), (some (18, false)), (.mv (.t 5))⟩,
    ⟨(some 20), (some (18, false)), (.mv (.t 0))⟩,
    ⟨(some 21), (some (18, false)), (.bin .eql (.t 19) (.t 20))⟩,
    ⟨(some 22), none, (.pick (.t 18) (.c (.sc (.bool true))) (.t 21))⟩,
    ⟨(some 23), none, (.call (.c (.fn 63 [])) [(.t 22), (.c (.sc (.int .i64 81)))])⟩]))) (.reg [
   ⟨(some 24), none, (.bin .add (.t 8) (.c (.sc (.int .i64 1))))⟩,
    ⟨(some 8), none, (.mv (.t 24))⟩])))))))
def sh_check_fit (a0 a1 : AV) (σ : Hp) (n : Nat) (R : AEnd → Hp → Nat → Prop) : Prop :=
 bindP (aLen false a1) fun v1 => bnd σ a1 →
 LOOP (lb_check_fit2 v1 a1 a0 R) [(.tp []), (.tp []), (.sc (.int .i64 0))] σ n
theorem se_check_fit (a0 a1 : AV) (σ : Hp) (n : Nat) (R : AEnd → Hp → Nat → Prop) : sh_check_fit a0 a1 σ n R = swp Try.prog sc_check_fit (retQ [] R) (entry [a0, a1]) σ n := by kernel_rfl
theorem by_check_fit {a0 a1 : AV} {σ : Hp} {n : Nat} {R : AEnd → Hp → Nat → Prop} (h : sh_check_fit a0 a1 σ n R) : ConH Try.prog 106 [a0, a1] σ n R := by
  rw [se_check_fit] at h
  exact conH_of [] (fn := Try.f106) rfl [1, 7, 9, 6, 5, 0, 8] (by kernel_rfl) (by kernel_rfl) (by kernel_rfl) (by kernel_rfl) h
/-- slices.IndexFunc[[]switchback/api.Column,switchback/api.Column] -/
def kc_slices_IndexFunc_lapi_Column_api_Column1 (R : AEnd → Hp → Nat → Prop) (s2 : List AV) (K2 : List AV → Hp → Nat → Prop) (v3 : AV) (r : AEnd) (σ : Hp) (n : Nat) : Prop :=
 onEnd r (fun v6 =>
 COND v6 (
 R (.ret (s2.getD 4 .any)) σ n) (
 bindP (semBin .add (s2.getD 4 .any) (.sc (.int .i64 1))) fun v8 =>
 K2 [v3, (s2.getD 4 .any), v6, (s2.getD 3 .any), v8] σ n)) (fun v7 => R (.pan v7) σ n)
def lb_slices_IndexFunc_lapi_Column_api_Column2 (v1 : AV) (a0 : AV) (a1 : AV) (R : AEnd → Hp → Nat → Prop) (K2 : List AV → Hp → Nat → Prop) (s2 : List AV) (σ : Hp) (n : Nat) : Prop :=
 bindP (semBin .lss (s2.getD 4 .any) v1) fun v3 =>
 COND v3 (
 bindP (aIad 3 a0 (s2.getD 4 .any)) fun v4 =>
 bindP (aLd σ (some 3) v4) fun v5 =>
 CALL Try.prog a1 [v5] σ n (kc_slices_IndexFunc_lapi_Column_api_Column1 R s2 K2 v3)) (
 R (.ret (.sc (.int .i64 (-1)))) σ n)
attribute [go_sem] kc_slices_IndexFunc_lapi_Column_api_Column1 lb_slices_IndexFunc_lapi_Column_api_Column2
def sc_slices_IndexFunc_lapi_Column_api_Column : SCode := (.seq (.reg [
   ⟨(some 4), none, (.mv (.c (.sc (.int .i64 0))))⟩]) (.seq (.seq (.reg [
   ⟨(some 6), none, (.mv (.t 0))⟩,
    ⟨(some 7), none, (.len false (.t 6))⟩,
    ⟨(some 8), none, (.mv (.c (.sc (.int .i64 0))))⟩]) (.block 0 (.loop [9, 5, 16, 4, 8] [9, 10, 5, 11, 12, 13, 14, 15, 16, 17, 4, 18, 8] (.seq (.reg [
   ⟨(some 9), none, (.bin .lss (.t 8) (.t 7))⟩]) (.seq (.cond (.t 9) .skip (.exit 0)) (.seq (.block 1 (.seq (.reg [
   ⟨(some 10), none, (.mv (.t 8))⟩,
    ⟨(some 5), none, (.mv (.t 10))⟩]) (.seq (.reg [
   ⟨(some 11), none, (.mv (.t 1))⟩,
    ⟨(some 12), none, (.mv (.t 0))⟩,
    ⟨(some 13), none, (.mv (.t 5))⟩,
    ⟨(some 14), none, (.iad 3 (.t 12) (.t 13))⟩,
    ⟨(some 15), none, (.ld (some 3) (.t 14))⟩,
    ⟨(some 16), none, (.call (.t 11) [(.t 15)])⟩]) (.cond (.t 16) (.seq (.reg [
   ⟨(some 17), none, (.mv (.t 5))⟩,
    ⟨(some 4), none, (.mv (.t 17))⟩]) .ret) .skip)))) (.reg [
   ⟨(some 18), none, (.bin .add (.t 8) (.c (.sc (.int .i64 1))))⟩,
    ⟨(some 8), none, (.mv (.t 18))⟩]))))))) (.seq (.reg [
   ⟨(some 4), none, (.mv (.c (.sc (.int .i64 (-1)))))⟩]) .ret)))
def sh_slices_IndexFunc_lapi_Column_api_Column (a0 a1 : AV) (σ : Hp) (n : Nat) (R : AEnd → Hp → Nat → Prop) : Prop :=
 bindP (aLen false a0) fun v1 => bnd σ a0 →
 LOOP (lb_slices_IndexFunc_lapi_Column_api_Column2 v1 a0 a1 R) [(.tp []), (.tp []), (.tp []), (.sc (.int .i64 0)), (.sc (.int .i64 0))] σ n
theorem se_slices_IndexFunc_lapi_Column_api_Column (a0 a1 : AV) (σ : Hp) (n : Nat) (R : AEnd → Hp → Nat → Prop) : sh_slices_IndexFunc_lapi_Column_api_Column a0 a1 σ n R = swp Try.prog sc_slices_IndexFunc_lapi_Column_api_Column (retQ [(.t 4)] R) (entry [a0, a1]) σ n := by kernel_rfl
theorem by_slices_IndexFunc_lapi_Column_api_Column {a0 a1 : AV} {σ : Hp} {n : Nat} {R : AEnd → Hp → Nat → Prop} (h : sh_slices_IndexFunc_lapi_Column_api_Column a0 a1 σ n R) : ConH Try.prog 113 [a0, a1] σ n R := by
  rw [se_slices_IndexFunc_lapi_Column_api_Column] at h
  exact conH_of [(.t 4)] (fn := Try.f113) rfl [7, 9, 1, 0, 16, 5, 8, 4] (by kernel_rfl) (by kernel_rfl) (by kernel_rfl) (by kernel_rfl) h
/-- switchback/switchbackref06.Column -/
def lb_ref06_Column1 (v1 : AV) (a1 : AV) (R : AEnd → Hp → Nat → Prop) (K2 : List AV → Hp → Nat → Prop) (s2 : List AV) (σ : Hp) (n : Nat) : Prop :=
 bindP (aFad 1 v1) fun v3 =>
 bindP (aLd σ none v3) fun v4 =>
 bindP (aLen false v4) fun v5 => bnd σ v4 →
 bindP (semBin .lss (s2.getD 4 .any) v5) fun v6 =>
 COND v6 (
 bindP (aFad 1 v1) fun v7 =>
 bindP (aLd σ none v7) fun v8 =>
 bindP (aIad 3 v8 (s2.getD 4 .any)) fun v9 =>
 bindP (aFad 0 v9) fun v10 =>
 bindP (aLd σ none v10) fun v11 =>
 bindP (semBin .eql v11 a1) fun v12 =>
 COND v12 (
 R (.ret (.tp [(s2.getD 4 .any), (.sc (.int .i64 0))])) σ n) (
 bindP (semBin .add (s2.getD 4 .any) (.sc (.int .i64 1))) fun v13 =>
 K2 [v6, v12, (s2.getD 2 .any), (s2.getD 3 .any), v13] σ n)) (
 R (.ret (.tp [(.sc (.int .i64 0)), (.sc (.int .i64 94))])) σ n)
attribute [go_sem] lb_ref06_Column1
def sc_ref06_Column : SCode := (.seq (.reg [
   ⟨(some 2), none, (.box (.t 0))⟩,
    ⟨(some 4), none, (.mv (.c (.sc (.int .i64 0))))⟩,
    ⟨(some 5), none, (.mv (.c (.sc (.int .i64 0))))⟩]) (.seq (.seq (.reg [
   ⟨(some 6), none, (.mv (.c (.sc (.int .i64 0))))⟩]) (.block 0 (.loop [11, 21, 4, 5, 6] [7, 8, 9, 10, 11, 14, 15, 16, 17, 18, 19, 20, 21, 22, 4, 5, 12, 13, 6] (.seq (.seq (.reg [
   ⟨(some 7), none, (.mv (.t 6))⟩,
    ⟨(some 8), none, (.fad 1 (.t 2))⟩,
    ⟨(some 9), none, (.ld none (.t 8))⟩,
    ⟨(some 10), none, (.len false (.t 9))⟩,
    ⟨(some 11), none, (.bin .lss (.t 7) (.t 10))⟩]) (.cond (.t 11) .skip (.exit 0))) (.seq (.block 1 (.seq (.reg [
   ⟨(some 14), none, (.fad 1 (.t 2))⟩,
    ⟨(some 15), none, (.ld none (.t 14))⟩,
    ⟨(some 16), none, (.mv (.t 6))⟩,
    ⟨(some 17), none, (.iad 3 (.t 15) (.t 16))⟩,
    ⟨(some 18), none, (.fad 0 (.t 17))⟩,
    ⟨(some 19), none, (.ld none (.t 18))⟩,
    ⟨(some 20), none, (.mv (.t 1))⟩,
    ⟨(some 21), none, (.bin .eql (.t 19) (.t 20))⟩]) (.cond (.t 21) (.seq (.reg [
   ⟨(some 22), none, (.mv (.t 6))⟩,
    ⟨(some 4), none, (.mv (.t 22))⟩,
    ⟨(some 5), none, (.mv (.c (.sc (.int .i64 0))))⟩]) .ret) .skip))) (.reg [
   ⟨(some 12), none, (.mv (.t 6))⟩,
    ⟨(some 13), none, (.bin .add (.t 12) (.c (.sc (.int .i64 1))))⟩,
    ⟨(some 6), none, (.mv (.t 13))⟩])))))) (.seq (.reg [
   ⟨(some 4), none, (.mv (.c (.sc (.int .i64 0))))⟩,
    ⟨(some 5), none, (.mv (.c (.sc (.int .i64 94))))⟩]) .ret)))
def sh_ref06_Column (a0 a1 : AV) (σ : Hp) (n : Nat) (R : AEnd → Hp → Nat → Prop) : Prop :=
 bindS (hBox n a0) σ n fun v1 σ n =>
 LOOP (lb_ref06_Column1 v1 a1 R) [(.tp []), (.tp []), (.sc (.int .i64 0)), (.sc (.int .i64 0)), (.sc (.int .i64 0))] σ n
theorem se_ref06_Column (a0 a1 : AV) (σ : Hp) (n : Nat) (R : AEnd → Hp → Nat → Prop) : sh_ref06_Column a0 a1 σ n R = swp Try.prog sc_ref06_Column (retQ [(.t 4), (.t 5)] R) (entry [a0, a1]) σ n := by kernel_rfl
theorem by_ref06_Column {a0 a1 : AV} {σ : Hp} {n : Nat} {R : AEnd → Hp → Nat → Prop} (h : sh_ref06_Column a0 a1 σ n R) : ConH Try.prog 83 [a0, a1] σ n R := by
  rw [se_ref06_Column] at h
  exact conH_of [(.t 4), (.t 5)] (fn := Try.f83) rfl [0, 11, 2, 1, 21, 6, 4, 5] (by kernel_rfl) (by kernel_rfl) (by kernel_rfl) (by kernel_rfl) h
/-- switchback/value.Check -/
def jk_value_Check1 (R : AEnd → Hp → Nat → Prop) (s2 : List AV) (σ : Hp) (n : Nat) : Prop :=
 bindP (aUn .not (s2.getD 5 .any)) fun v3 =>
 COND v3 (
 R (.ret (.sc (.int .i64 9))) σ n) (
 R (.ret (.sc (.int .i64 0))) σ n)
attribute [go_sem] jk_value_Check1
def sc_value_Check : SCode := (.seq (.reg [
   ⟨(some 1), none, (.box (.t 0))⟩,
    ⟨(some 2), none, (.mv (.c (.sc (.int .i64 0))))⟩]) (.seq (.reg [
   ⟨(some 3), none, (.mv (.c (.sc (.bool false))))⟩]) (.seqJ [5, 6, 11, 16, 27, 3] [4, 5, 7, 6, 8, 9, 10, 3, 12, 11, 13, 14, 15, 3, 17, 16, 18, 19, 20, 21, 22, 23, 24, 25, 26, 3, 28, 27, 29, 30, 31, 32, 33, 34, 35, 36, 37, 3] (.seq (.reg [
   ⟨(some 4), none, (.fad 0 (.t 1))⟩,
    ⟨(some 5), none, (.ld none (.t 4))⟩]) (.block 0 (.seq (.reg [
   ⟨(some 7), none, (.bin .eql (.t 5) (.c (.sc (.int .i64 0))))⟩,
    ⟨(some 6), none, (.mv (.t 7))⟩]) (.cond (.t 6) (.reg [
   ⟨(some 8), none, (.ld (some 3) (.t 1))⟩,
    ⟨(some 9), none, (.build [(.int .i64 0), (.int .i64 0), (.string ⟨#[]⟩)] [])⟩,
    ⟨(some 10), none, (.eqs [0, 0, 2] false (.t 8) (.t 9))⟩,
    ⟨(some 3), none, (.mv (.t 10))⟩]) (.seq (.reg [
   ⟨(some 12), none, (.bin .eql (.t 5) (.c (.sc (.int .i64 1))))⟩,
    ⟨(some 11), none, (.mv (.t 12))⟩]) (.cond (.t 11) (.reg [
   ⟨(some 13), none, (.fad 2 (.t 1))⟩,
    ⟨(some 14), none, (.ld none (.t 13))⟩,
    ⟨(some 15), none, (.bin .eql (.t 14) (.c (.s [])))⟩,
    ⟨(some 3), none, (.mv (.t 15))⟩]) (.seq (.reg [
   ⟨(some 17), none, (.bin .eql (.t 5) (.c (.sc (.int .i64 2))))⟩,
    ⟨(some 16), none, (.mv (.t 17))⟩]) (.cond (.t 16) (.reg [
   ⟨(some 18), none, (.fad 2 (.t 1))⟩,
    ⟨(some 19), none, (.ld none (.t 18))⟩,
    ⟨(some 20), none, (.bin .eql (.t 19) (.c (.s [])))⟩,
    ⟨(some 21), none, (.mv (.t 20))⟩,
    ⟨(some 22), (some (21, true)), (.fad 1 (.t 1))⟩,
    ⟨(some 23), (some (21, true)), (.ld none (.t 22))⟩,
    ⟨(some 24), (some (21, true)), (.cvi .u64 (.t 23))⟩,
    ⟨(some 25), (some (21, true)), (.bin .leq (.t 24) (.c (.sc (.int .u64 1))))⟩,
    ⟨(some 26), none, (.pick (.t 21) (.t 25) (.c (.sc (.bool false))))⟩,
    ⟨(some 3), none, (.mv (.t 26))⟩]) (.seq (.reg [
   ⟨(some 28), none, (.bin .eql (.t 5) (.c (.sc (.int .i64 3))))⟩,
    ⟨(some 27), none, (.mv (.t 28))⟩]) (.cond (.t 27) (.reg [
   ⟨(some 29), none, (.fad 1 (.t 1))⟩,
    ⟨(some 30), none, (.ld none (.t 29))⟩,
    ⟨(some 31), none, (.bin .eql (.t 30) (.c (.sc (.int .i64 0))))⟩,
    ⟨(some 32), none, (.mv (.t 31))⟩,
    ⟨(some 33), (some (32, true)), (.fad 2 (.t 1))⟩,
    ⟨(some 34), (some (32, true)), (.ld none (.t 33))⟩,
    ⟨(some 35), (some (32, true)), (.len true (.t 34))⟩,
    ⟨(some 36), (some (32, true)), (.bin .leq (.t 35) (.c (.sc (.int .i64 64))))⟩,
    ⟨(some 37), none, (.pick (.t 32) (.t 36) (.c (.sc (.bool false))))⟩,
    ⟨(some 3), none, (.mv (.t 37))⟩]) .skip)))))))))) (.seq (.seq (.reg [
   ⟨(some 38), none, (.mv (.t 3))⟩,
    ⟨(some 39), none, (.un .not (.t 38))⟩]) (.cond (.t 39) (.seq (.reg [
   ⟨(some 2), none, (.mv (.c (.sc (.int .i64 9))))⟩]) .ret) .skip)) (.seq (.reg [
   ⟨(some 2), none, (.mv (.c (.sc (.int .i64 0))))⟩]) .ret)))))
def sh_value_Check (a0 : AV) (σ : Hp) (n : Nat) (R : AEnd → Hp → Nat → Prop) : Prop :=
 bindS (hBox n a0) σ n fun v1 σ n =>
 JOIN (jk_value_Check1 R) fun K2 =>
 bindP (aFad 0 v1) fun v4 =>
 bindP (aLd σ none v4) fun v5 =>
 bindP (semBin .eql v5 (.sc (.int .i64 0))) fun v6 =>
 COND v6 (
 bindP (aLd σ (some 3) v1) fun v7 =>
 bindP (aBuild [(.int .i64 0), (.int .i64 0), (.string ⟨#[]⟩)] []) fun v8 =>
 bindP (aEqs [0, 0, 2] false v7 v8) fun v9 =>
 K2 [v5, v6, (.tp []), (.tp []), (.tp []), v9] σ n) (
 bindP (semBin .eql v5 (.sc (.int .i64 1))) fun v10 =>
 COND v10 (
 bindP (aFad 2 v1) fun v11 =>
 bindP (aLd σ none v11) fun v12 =>
 bindP (semBin .eql v12 (.s [])) fun v13 =>
 K2 [v5, v6, v10, (.tp []), (.tp []), v13] σ n) (
 bindP (semBin .eql v5 (.sc (.int .i64 2))) fun v14 =>
 COND v14 (
 bindP (aFad 2 v1) fun v15 =>
 bindP (aLd σ none v15) fun v16 =>
 bindP (semBin .eql v16 (.s [])) fun v17 =>
 guardP v17 true (aFad 1 v1) fun v18 =>
 guardP v17 true (aLd σ none v18) fun v19 =>
 guardP v17 true (aCvi .u64 v19) fun v20 =>
 guardP v17 true (semBin .leq v20 (.sc (.int .u64 1))) fun v21 =>
 bindP (aPick v17 v21 (.sc (.bool false))) fun v22 =>
 K2 [v5, v6, v10, v14, (.tp []), v22] σ n) (
 bindP (semBin .eql v5 (.sc (.int .i64 3))) fun v23 =>
 COND v23 (
 bindP (aFad 1 v1) fun v24 =>
 bindP (aLd σ none v24) fun v25 =>
 bindP (semBin .eql v25 (.sc (.int .i64 0))) fun v26 =>
 guardP v26 true (aFad 2 v1) fun v27 =>
 guardP v26 true (aLd σ none v27) fun v28 =>
 guardP v26 true (aLen true v28) fun v29 =>
 guardP v26 true (semBin .leq v29 (.sc (.int .i64 64))) fun v30 =>
 bindP (aPick v26 v30 (.sc (.bool false))) fun v31 =>
 K2 [v5, v6, v10, v14, v23, v31] σ n) (
 K2 [v5, v6, v10, v14, v23, (.sc (.bool false))] σ n))))
theorem se_value_Check (a0 : AV) (σ : Hp) (n : Nat) (R : AEnd → Hp → Nat → Prop) : sh_value_Check a0 σ n R = swp Try.prog sc_value_Check (retQ [(.t 2)] R) (entry [a0]) σ n := by kernel_rfl
theorem by_value_Check {a0 : AV} {σ : Hp} {n : Nat} {R : AEnd → Hp → Nat → Prop} (h : sh_value_Check a0 σ n R) : ConH Try.prog 124 [a0] σ n R := by
  rw [se_value_Check] at h
  exact conH_of [(.t 2)] (fn := Try.f124) rfl [0, 6, 11, 16, 5, 27, 1, 3, 39, 2] (by kernel_rfl) (by kernel_rfl) (by kernel_rfl) (by kernel_rfl) h
/-- switchback/syntax.need -/
def sc_syntax_need : SCode := (.seq (.reg [
   ⟨(some 4), none, (.mv (.t 0))⟩,
    ⟨(some 5), none, (.un .not (.t 4))⟩]) (.cond (.t 5) (.reg [
   ⟨(some 6), none, (.mv (.t 1))⟩,
    ⟨(some 7), none, (.mki 29 (.t 6))⟩,
    ⟨none, none, (.pan (.t 7))⟩]) .skip))
def sh_syntax_need (a0 a1 : AV) (σ : Hp) (n : Nat) (R : AEnd → Hp → Nat → Prop) : Prop :=
 bindP (aUn .not a0) fun v1 =>
 COND v1 (
 bindP (aMki 29 a1) fun v2 =>
 PAN v2 fun v3 => R (.pan v3) σ n) (
 R (.ret (.tp [])) σ n)
theorem se_syntax_need (a0 a1 : AV) (σ : Hp) (n : Nat) (R : AEnd → Hp → Nat → Prop) : sh_syntax_need a0 a1 σ n R = swp Try.prog sc_syntax_need (retQ [] R) (entry [a0, a1]) σ n := by kernel_rfl
theorem by_syntax_need {a0 a1 : AV} {σ : Hp} {n : Nat} {R : AEnd → Hp → Nat → Prop} (h : sh_syntax_need a0 a1 σ n R) : ConH Try.prog 136 [a0, a1] σ n R := by
  rw [se_syntax_need] at h
  exact conH_of [] (fn := Try.f136) rfl [0, 5, 1] (by kernel_rfl) (by kernel_rfl) (by kernel_rfl) (by kernel_rfl) h
/-- switchback/syntax.part -/
def kc_syntax_part1 (Kg : AV → Hp → Nat → Prop) (R : AEnd → Hp → Nat → Prop) (r : AEnd) (σ : Hp) (n : Nat) : Prop :=
 onEnd r (fun v27 =>
 Kg v27 σ n) (fun v28 => R (.pan v28) σ n)
def kc_syntax_part2 (Kg : AV → Hp → Nat → Prop) (R : AEnd → Hp → Nat → Prop) (r : AEnd) (σ : Hp) (n : Nat) : Prop :=
 onEnd r (fun v50 =>
 Kg v50 σ n) (fun v51 => R (.pan v51) σ n)
def kc_syntax_part3 (Kg : AV → Hp → Nat → Prop) (R : AEnd → Hp → Nat → Prop) (r : AEnd) (σ : Hp) (n : Nat) : Prop :=
 onEnd r (fun v60 =>
 Kg v60 σ n) (fun v61 => R (.pan v61) σ n)
def kc_syntax_part4 (v1 : AV) (R : AEnd → Hp → Nat → Prop) (r : AEnd) (σ : Hp) (n : Nat) : Prop :=
 onEnd r (fun v4 =>
 bindP (aExt v4 0) fun v6 =>
 bindP (aExt v4 1) fun v7 =>
 bindP (aUn .not v7) fun v8 =>
 guardP v8 false (some v6) fun v9 =>
 guardP v8 false (aFad 6 v1) fun v10 =>
 guardP v8 false (aLd σ none v10) fun v11 =>
 guardP v8 false (aLen false v11) fun v12 =>
 guardP v8 false (semBin .neq v9 v12) fun v13 =>
 bindP (aPick v8 (.sc (.bool true)) v13) fun v14 =>
 COND v14 (
 R (.ret (.sc (.bool false))) σ n) (
 bindP (aFad 0 v1) fun v15 =>
 bindP (aLd σ none v15) fun v16 =>
 bindP (semBin .eql v16 (.sc (.int .i64 0))) fun v17 =>
 COND v17 (
 bindP (aFad 4 v1) fun v18 =>
 bindP (aLd σ none v18) fun v19 =>
 bindP (aFad 5 v1) fun v20 =>
 bindP (aLd σ none v20) fun v21 =>
 bindP (semBin .add v19 v21) fun v22 =>
 bindP (semBin .eql v22 (.s [])) fun v23 =>
 guardP v23 true (aFad 1 v1) fun v24 =>
 guardP v23 true (aLd σ (some 3) v24) fun v25 =>
 guardK v23 true (fun Kg => CALL Try.prog (.fn 124 []) [v25] σ n (kc_syntax_part1 Kg R)) σ n fun v26 σ n =>
 guardP v23 true (semBin .eql v26 (.sc (.int .i64 0))) fun v29 =>
 bindP (aPick v23 v29 (.sc (.bool false))) fun v30 =>
 guardP v30 true (aFad 1 v1) fun v31 =>
 guardP v30 true (aFad 0 v31) fun v32 =>
 guardP v30 true (aLd σ none v32) fun v33 =>
 guardP v30 true (semBin .neq v33 (.sc (.int .i64 1))) fun v34 =>
 guardP v30 true (some v34) fun v35 =>
 guardP v35 false (aFad 1 v1) fun v36 =>
 guardP v35 false (aFad 1 v36) fun v37 =>
 guardP v35 false (aLd σ none v37) fun v38 =>
 guardP v35 false (semBin .geq v38 (.sc (.int .i64 0))) fun v39 =>
 guardP v30 true (aPick v35 (.sc (.bool true)) v39) fun v40 =>
 bindP (aPick v30 v40 (.sc (.bool false))) fun v41 =>
 R (.ret v41) σ n) (
 bindP (semBin .eql v16 (.sc (.int .i64 1))) fun v42 =>
 COND v42 (
 bindP (aFad 1 v1) fun v43 =>
 bindP (aLd σ (some 3) v43) fun v44 =>
 bindP (aBuild [(.int .i64 0), (.int .i64 0), (.string ⟨#[]⟩)] []) fun v45 =>
 bindP (aEqs [0, 0, 2] false v44 v45) fun v46 =>
 guardP v46 true (aFad 5 v1) fun v47 =>
 guardP v46 true (aLd σ none v47) fun v48 =>
 guardK v46 true (fun Kg => CALL Try.prog (.fn 123 []) [v48] σ n (kc_syntax_part2 Kg R)) σ n fun v49 σ n =>
 bindP (aPick v46 v49 (.sc (.bool false))) fun v52 =>
 guardP v52 true (aFad 4 v1) fun v53 =>
 guardP v52 true (aLd σ none v53) fun v54 =>
 guardP v52 true (semBin .eql v54 (.s [])) fun v55 =>
 guardP v52 true (some v55) fun v56 =>
 guardP v56 false (aFad 4 v1) fun v57 =>
 guardP v56 false (aLd σ none v57) fun v58 =>
 guardK v56 false (fun Kg => CALL Try.prog (.fn 123 []) [v58] σ n (kc_syntax_part3 Kg R)) σ n fun v59 σ n =>
 guardP v52 true (aPick v56 (.sc (.bool true)) v59) fun v62 =>
 bindP (aPick v52 v62 (.sc (.bool false))) fun v63 =>
 R (.ret v63) σ n) (
 bindP (aFad 1 v1) fun v64 =>
 bindP (aLd σ (some 3) v64) fun v65 =>
 bindP (aBuild [(.int .i64 0), (.int .i64 0), (.string ⟨#[]⟩)] []) fun v66 =>
 bindP (aEqs [0, 0, 2] false v65 v66) fun v67 =>
 guardP v67 true (aFad 4 v1) fun v68 =>
 guardP v67 true (aLd σ none v68) fun v69 =>
 guardP v67 true (aFad 5 v1) fun v70 =>
 guardP v67 true (aLd σ none v70) fun v71 =>
 guardP v67 true (semBin .add v69 v71) fun v72 =>
 guardP v67 true (semBin .eql v72 (.s [])) fun v73 =>
 bindP (aPick v67 v73 (.sc (.bool false))) fun v74 =>
 R (.ret v74) σ n)))) (fun v5 => R (.pan v5) σ n)
attribute [go_sem] kc_syntax_part1 kc_syntax_part2 kc_syntax_part3 kc_syntax_part4
def sc_syntax_part : SCode := (.seq (.reg [
   ⟨(some 1), none, (.box (.t 0))⟩,
    ⟨(some 2), none, (.mv (.c (.sc (.bool false))))⟩]) (.seq (.reg [
   ⟨(some 6), none, (.fad 0 (.t 1))⟩,
    ⟨(some 7), none, (.ld none (.t 6))⟩,
    ⟨(some 8), none, (.call (.c (.fn 168 [])) [(.t 7)])⟩,
    ⟨(some 5), none, (.mv (.t 8))⟩,
    ⟨(some 9), none, (.ext (.t 5) 0)⟩,
    ⟨(some 10), none, (.ext (.t 5) 1)⟩,
    ⟨(some 3), none, (.mv (.t 9))⟩,
    ⟨(some 4), none, (.mv (.t 10))⟩]) (.seq (.seq (.reg [
   ⟨(some 11), none, (.mv (.t 4))⟩,
    ⟨(some 12), none, (.un .not (.t 11))⟩,
    ⟨(some 13), none, (.mv (.t 12))⟩,
    ⟨(some 14), (some (13, false)), (.mv (.t 3))⟩,
    ⟨(some 15), (some (13, false)), (.fad 6 (.t 1))⟩,
    ⟨(some 16), (some (13, false)), (.ld none (.t 15))⟩,
    ⟨(some 17), (some (13, false)), (.len false (.t 16))⟩,
    ⟨(some 18), (some (13, false)), (.bin .neq (.t 14) (.t 17))⟩,
    ⟨(some 19), none, (.pick (.t 13) (.c (.sc (.bool true))) (.t 18))⟩]) (.cond (.t 19) (.seq (.reg [
   ⟨(some 2), none, (.mv (.c (.sc (.bool false))))⟩]) .ret) .skip)) (.seq (.seq (.reg [
   ⟨(some 20), none, (.fad 0 (.t 1))⟩,
    ⟨(some 21), none, (.ld none (.t 20))⟩]) (.block 0 (.seq (.reg [
   ⟨(some 23), none, (.bin .eql (.t 21) (.c (.sc (.int .i64 0))))⟩,
    ⟨(some 22), none, (.mv (.t 23))⟩]) (.cond (.t 22) (.seq (.reg [
   ⟨(some 24), none, (.fad 4 (.t 1))⟩,
    ⟨(some 25), none, (.ld none (.t 24))⟩,
    ⟨(some 26), none, (.fad 5 (.t 1))⟩,
    ⟨(some 27), none, (.ld none (.t 26))⟩,
    ⟨(some 28), none, (.bin .add (.t 25) (.t 27))⟩,
    ⟨(some 29), none, (.bin .eql (.t 28) (.c (.s [])))⟩,
    ⟨(some 30), none, (.mv (.t 29))⟩,
    ⟨(some 31), (some (30, true)), (.fad 1 (.t 1))⟩,
    ⟨(some 32), (some (30, true)), (.ld (some 3) (.t 31))⟩,
    ⟨(some 33), (some (30, true)), (.call (.c (.fn 124 [])) [(.t 32)])⟩,
    ⟨(some 34), (some (30, true)), (.bin .eql (.t 33) (.c (.sc (.int .i64 0))))⟩,
    ⟨(some 35), none, (.pick (.t 30) (.t 34) (.c (.sc (.bool false))))⟩,
    ⟨(some 36), none, (.mv (.t 35))⟩,
    ⟨(some 37), (some (36, true)), (.fad 1 (.t 1))⟩,
    ⟨(some 38), (some (36, true)), (.fad 0 (.t 37))⟩,
    ⟨(some 39), (some (36, true)), (.ld none (.t 38))⟩,
    ⟨(some 40), (some (36, true)), (.bin .neq (.t 39) (.c (.sc (.int .i64 1))))⟩,
    ⟨(some 41), (some (36, true)), (.mv (.t 40))⟩,
    ⟨(some 42), (some (41, false)), (.fad 1 (.t 1))⟩,
    ⟨(some 43), (some (41, false)), (.fad 1 (.t 42))⟩,
    ⟨(some 44), (some (41, false)), (.ld none (.t 43))⟩,
    ⟨(some 45), (some (41, false)), (.bin .geq (.t 44) (.c (.sc (.int .i64 0))))⟩,
    ⟨(some 46), (some (36, true)), (.pick (.t 41) (.c (.sc (.bool true))) (.t 45))⟩,
    ⟨(some 47), none, (.pick (.t 36) (.t 46) (.c (.sc (.bool false))))⟩,
    ⟨(some 2), none, (.mv (.t 47))⟩]) .ret) (.seq (.reg [
   ⟨(some 49), none, (.bin .eql (.t 21) (.c (.sc (.int .i64 1))))⟩,
    ⟨(some 48), none, (.mv (.t 49))⟩]) (.cond (.t 48) (.seq (.reg [
   ⟨(some 50), none, (.fad 1 (.t 1))⟩,
    ⟨(some 51), none, (.ld (some 3) (.t 50))⟩,
    ⟨(some 52), none, (.build [(.int .i64 0), (.int .i64 0), (.string ⟨#[]⟩)] [])⟩,
    ⟨(some 53), none, (.eqs [0, 0, 2] false (.t 51) (.t 52))⟩,
    ⟨(some 54), none, (.mv (.t 53))⟩,
    ⟨(some 55), (some (54, true)), (.fad 5 (.t 1))⟩,
    ⟨(some 56), (some (54, true)), (.ld none (.t 55))⟩,
    ⟨(some 57), (some (54, true)), (.call (.c (.fn 123 [])) [(.t 56)])⟩,
    ⟨(some 58), none, (.pick (.t 54) (.t 57) (.c (.sc (.bool false))))⟩,
    ⟨(some 59), none, (.mv (.t 58))⟩,
    ⟨(some 60), (some (59, true)), (.fad 4 (.t 1))⟩,
    ⟨(some 61), (some (59, true)), (.ld none (.t 60))⟩,
    ⟨(some 62), (some (59, true)), (.bin .eql (.t 61) (.c (.s [])))⟩,
    ⟨(some 63), (some (59, true)), (.mv (.t 62))⟩,
    ⟨(some 64), (some (63, false)), (.fad 4 (.t 1))⟩,
    ⟨(some 65), (some (63, false)), (.ld none (.t 64))⟩,
    ⟨(some 66), (some (63, false)), (.call (.c (.fn 123 [])) [(.t 65)])⟩,
    ⟨(some 67), (some (59, true)), (.pick (.t 63) (.c (.sc (.bool true))) (.t 66))⟩,
    ⟨(some 68), none, (.pick (.t 59) (.t 67) (.c (.sc (.bool false))))⟩,
    ⟨(some 2), none, (.mv (.t 68))⟩]) .ret) .skip)))))) (.seq (.reg [
   ⟨(some 69), none, (.fad 1 (.t 1))⟩,
    ⟨(some 70), none, (.ld (some 3) (.t 69))⟩,
    ⟨(some 71), none, (.build [(.int .i64 0), (.int .i64 0), (.string ⟨#[]⟩)] [])⟩,
    ⟨(some 72), none, (.eqs [0, 0, 2] false (.t 70) (.t 71))⟩,
    ⟨(some 73), none, (.mv (.t 72))⟩,
    ⟨(some 74), (some (73, true)), (.fad 4 (.t 1))⟩,
    ⟨(some 75), (some (73, true)), (.ld none (.t 74))⟩,
    ⟨(some 76), (some (73, true)), (.fad 5 (.t 1))⟩,
    ⟨(some 77), (some (73, true)), (.ld none (.t 76))⟩,
    ⟨(some 78), (some (73, true)), (.bin .add (.t 75) (.t 77))⟩,
    ⟨(some 79), (some (73, true)), (.bin .eql (.t 78) (.c (.s [])))⟩,
    ⟨(some 80), none, (.pick (.t 73) (.t 79) (.c (.sc (.bool false))))⟩,
    ⟨(some 2), none, (.mv (.t 80))⟩]) .ret)))))
def sh_syntax_part (a0 : AV) (σ : Hp) (n : Nat) (R : AEnd → Hp → Nat → Prop) : Prop :=
 bindS (hBox n a0) σ n fun v1 σ n =>
 bindP (aFad 0 v1) fun v2 =>
 bindP (aLd σ none v2) fun v3 =>
 CALL Try.prog (.fn 168 []) [v3] σ n (kc_syntax_part4 v1 R)
theorem se_syntax_part (a0 : AV) (σ : Hp) (n : Nat) (R : AEnd → Hp → Nat → Prop) : sh_syntax_part a0 σ n R = swp Try.prog sc_syntax_part (retQ [(.t 2)] R) (entry [a0]) σ n := by kernel_rfl
theorem by_syntax_part {a0 : AV} {σ : Hp} {n : Nat} {R : AEnd → Hp → Nat → Prop} (h : sh_syntax_part a0 σ n R) : ConH Try.prog 137 [a0] σ n R := by
  rw [se_syntax_part] at h
  exact conH_of [(.t 2)] (fn := Try.f137) rfl [0, 4, 3, 19, 22, 21, 48, 1, 2] (by kernel_rfl) (by kernel_rfl) (by kernel_rfl) (by kernel_rfl) h
/-- switchback/switchbackref04.part -/
def kc_ref04_part1 (v1 : AV) (R : AEnd → Hp → Nat → Prop) (r : AEnd) (σ : Hp) (n : Nat) : Prop :=
 onEnd r (fun v19 =>
 bindP (semBin .eql v19 (.sc (.int .i64 0))) fun v21 =>
 guardP v21 true (aFad 1 v1) fun v22 =>
 guardP v21 true (aFad 0 v22) fun v23 =>
 guardP v21 true (aLd σ none v23) fun v24 =>
 guardP v21 true (semBin .eql v24 (.sc (.int .i64 1))) fun v25 =>
 guardP v21 true (some v25) fun v26 =>
 guardP v26 true (aFad 1 v1) fun v27 =>
 guardP v26 true (aFad 1 v27) fun v28 =>
 guardP v26 true (aLd σ none v28) fun v29 =>
 guardP v26 true (semBin .lss v29 (.sc (.int .i64 0))) fun v30 =>
 guardP v21 true (aPick v26 v30 (.sc (.bool false))) fun v31 =>
 guardP v21 true (aUn .not v31) fun v32 =>
 bindP (aPick v21 v32 (.sc (.bool false))) fun v33 =>
 guardP v33 true (aFad 4 v1) fun v34 =>
 guardP v33 true (aLd σ none v34) fun v35 =>
 guardP v33 true (semBin .eql v35 (.s [])) fun v36 =>
 bindP (aPick v33 v36 (.sc (.bool false))) fun v37 =>
 guardP v37 true (aFad 5 v1) fun v38 =>
 guardP v37 true (aLd σ none v38) fun v39 =>
 guardP v37 true (semBin .eql v39 (.s [])) fun v40 =>
 bindP (aPick v37 v40 (.sc (.bool false))) fun v41 =>
 R (.ret v41) σ n) (fun v20 => R (.pan v20) σ n)
def kc_ref04_part2 (Kg : AV → Hp → Nat → Prop) (R : AEnd → Hp → Nat → Prop) (r : AEnd) (σ : Hp) (n : Nat) : Prop :=
 onEnd r (fun v46 =>
 Kg v46 σ n) (fun v47 => R (.pan v47) σ n)
def kc_ref04_part3 (Kg : AV → Hp → Nat → Prop) (R : AEnd → Hp → Nat → Prop) (r : AEnd) (σ : Hp) (n : Nat) : Prop :=
 onEnd r (fun v56 =>
 Kg v56 σ n) (fun v57 => R (.pan v57) σ n)
def kd_ref04_part4 (v1 : AV) (σ : Hp) (v2 : AV) (n : Nat) (R : AEnd → Hp → Nat → Prop) (r : AEnd) (w4 : Wr) (d4 : List Nat) : Prop :=
 onEnd r (fun v4 =>
 bindP (aFad 6 v1) fun v6 =>
 bindP (aLd σ none v6) fun v7 =>
 bindP (aLen false v7) fun v8 =>
 bindP (semBin .neq v4 v8) fun v9 =>
 Apt (names []) (rdA v2) (names []) (rdA v6) ∧
 Apt (names w4) d4 (names []) (rdA v6) ∧
 ∀ n_, n + 16 * 7 ≤ n_ → (fun n => (fun σ => COND v9 (
 R (.ret (.sc (.bool false))) σ n) (
 bindP (aFad 1 v1) fun v10 =>
 bindP (aLd σ (some 3) v10) fun v11 =>
 bindP (aBuild [(.int .i64 0), (.int .i64 0), (.string ⟨#[]⟩)] []) fun v12 =>
 bindP (aEqs [0, 0, 2] false v11 v12) fun v13 =>
 bindP (aFad 0 v1) fun v14 =>
 bindP (aLd σ none v14) fun v15 =>
 bindP (semBin .eql v15 (.sc (.int .i64 0))) fun v16 =>
 COND v16 (
 bindP (aFad 1 v1) fun v17 =>
 bindP (aLd σ (some 3) v17) fun v18 =>
 CALL Try.prog (.fn 170 []) [v18] σ n (kc_ref04_part1 v1 R)) (
 bindP (semBin .eql v15 (.sc (.int .i64 1))) fun v42 =>
 COND v42 (
 guardP v13 true (aFad 5 v1) fun v43 =>
 guardP v13 true (aLd σ none v43) fun v44 =>
 guardK v13 true (fun Kg => CALL Try.prog (.fn 167 []) [v44] σ n (kc_ref04_part2 Kg R)) σ n fun v45 σ n =>
 bindP (aPick v13 v45 (.sc (.bool false))) fun v48 =>
 guardP v48 true (aFad 4 v1) fun v49 =>
 guardP v48 true (aLd σ none v49) fun v50 =>
 guardP v48 true (semBin .eql v50 (.s [])) fun v51 =>
 guardP v48 true (some v51) fun v52 =>
 guardP v52 false (aFad 4 v1) fun v53 =>
 guardP v52 false (aLd σ none v53) fun v54 =>
 guardK v52 false (fun Kg => CALL Try.prog (.fn 167 []) [v54] σ n (kc_ref04_part3 Kg R)) σ n fun v55 σ n =>
 guardP v48 true (aPick v52 (.sc (.bool true)) v55) fun v58 =>
 bindP (aPick v48 v58 (.sc (.bool false))) fun v59 =>
 R (.ret v59) σ n) (
 guardP v13 true (aFad 4 v1) fun v60 =>
 guardP v13 true (aLd σ none v60) fun v61 =>
 guardP v13 true (semBin .eql v61 (.s [])) fun v62 =>
 bindP (aPick v13 v62 (.sc (.bool false))) fun v63 =>
 guardP v63 true (aFad 5 v1) fun v64 =>
 guardP v63 true (aLd σ none v64) fun v65 =>
 guardP v63 true (semBin .eql v65 (.s [])) fun v66 =>
 bindP (aPick v63 v66 (.sc (.bool false))) fun v67 =>
 R (.ret v67) σ n)))) (applyW σ w4)) n_) (fun v5 => bindP (aFad 6 v1) fun v68 =>
 bindP (aLd σ none v68) fun v69 =>
 bindP (aLen false v69) fun v70 =>
 Apt (names []) (rdA v2) (names []) (rdA v68) ∧
 Apt (names []) d4 (names []) (rdA v68) ∧
 ∀ (fr_ : Regs) σ n, R (.pan v5) σ n)
attribute [go_sem] kc_ref04_part1 kc_ref04_part2 kc_ref04_part3 kd_ref04_part4
def sc_ref04_part : SCode := (.seq (.reg [
   ⟨(some 1), none, (.box (.t 0))⟩,
    ⟨(some 2), none, (.mv (.c (.sc (.bool false))))⟩]) (.seq (.seq (.regD [(⟨(some 4), none, (.fad 0 (.t 1))⟩, []), (⟨(some 5), none, (.ld none (.t 4))⟩, [0]), (⟨(some 6), none, (.call (.c (.fn 169 [])) [(.t 5)])⟩, [1, 0]), (⟨(some 7), none, (.fad 6 (.t 1))⟩, []), (⟨(some 8), none, (.ld none (.t 7))⟩, [3]), (⟨(some 9), none, (.len false (.t 8))⟩, [4, 3]), (⟨(some 10), none, (.bin .neq (.t 6) (.t 9))⟩, [2, 1, 0, 5, 4, 3])]) (.cond (.t 10) (.seq (.reg [
   ⟨(some 2), none, (.mv (.c (.sc (.bool false))))⟩]) .ret) .skip)) (.seq (.reg [
   ⟨(some 11), none, (.fad 1 (.t 1))⟩,
    ⟨(some 12), none, (.ld (some 3) (.t 11))⟩,
    ⟨(some 13), none, (.build [(.int .i64 0), (.int .i64 0), (.string ⟨#[]⟩)] [])⟩,
    ⟨(some 14), none, (.eqs [0, 0, 2] false (.t 12) (.t 13))⟩,
    ⟨(some 3), none, (.mv (.t 14))⟩]) (.seq (.seq (.reg [
   ⟨(some 15), none, (.fad 0 (.t 1))⟩,
    ⟨(some 16), none, (.ld none (.t 15))⟩]) (.block 0 (.seq (.reg [
   ⟨(some 18), none, (.bin .eql (.t 16) (.c (.sc (.int .i64 0))))⟩,
    ⟨(some 17), none, (.mv (.t 18))⟩]) (.cond (.t 17) (.seq (.reg [
   ⟨(some 19), none, (.fad 1 (.t 1))⟩,
    ⟨(some 20), none, (.ld (some 3) (.t 19))⟩,
    ⟨(some 21), none, (.call (.c (.fn 170 [])) [(.t 20)])⟩,
    ⟨(some 22), none, (.bin .eql (.t 21) (.c (.sc (.int .i64 0))))⟩,
    ⟨(some 23), none, (.mv (.t 22))⟩,
    ⟨(some 24), (some (23, true)), (.fad 1 (.t 1))⟩,
    ⟨(some 25), (some (23, true)), (.fad 0 (.t 24))⟩,
    ⟨(some 26), (some (23, true)), (.ld none (.t 25))⟩,
    ⟨(some 27), (some (23, true)), (.bin .eql (.t 26) (.c (.sc (.int .i64 1))))⟩,
    ⟨(some 28), (some (23, true)), (.mv (.t 27))⟩,
    ⟨(some 29), (some (28, true)), (.fad 1 (.t 1))⟩,
    ⟨(some 30), (some (28, true)), (.fad 1 (.t 29))⟩,
    ⟨(some 31), (some (28, true)), (.ld none (.t 30))⟩,
    ⟨(some 32), (some (28, true)), (.bin .lss (.t 31) (.c (.sc (.int .i64 0))))⟩,
    ⟨(some 33), (some (23, true)), (.pick (.t 28) (.t 32) (.c (.sc (.bool false))))⟩,
    ⟨(some 34), (some (23, true)), (.un .not (.t 33))⟩,
    ⟨(some 35), none, (.pick (.t 23) (.t 34) (.c (.sc (.bool false))))⟩,
    ⟨(some 36), none, (.mv (.t 35))⟩,
    ⟨(some 37), (some (36, true)), (.fad 4 (.t 1))⟩,
    ⟨(some 38), (some (36, true)), (.ld none (.t 37))⟩,
    ⟨(some 39), (some (36, true)), (.bin .eql (.t 38) (.c (.s [])))⟩,
    ⟨(some 40), none, (.pick (.t 36) (.t 39) (.c (.sc (.bool false))))⟩,
    ⟨(some 41), none, (.mv (.t 40))⟩,
    ⟨(some 42), (some (41, true)), (.fad 5 (.t 1))⟩,
    ⟨(some 43), (some (41, true)), (.ld none (.t 42))⟩,
    ⟨(some 44), (some (41, true)), (.bin .eql (.t 43) (.c (.s [])))⟩,
    ⟨(some 45), none, (.pick (.t 41) (.t 44) (.c (.sc (.bool false))))⟩,
    ⟨(some 2), none, (.mv (.t 45))⟩]) .ret) (.seq (.reg [
   ⟨(some 47), none, (.bin .eql (.t 16) (.c (.sc (.int .i64 1))))⟩,
    ⟨(some 46), none, (.mv (.t 47))⟩]) (.cond (.t 46) (.seq (.reg [
   ⟨(some 48), none, (.mv (.t 3))⟩,
    ⟨(some 49), none, (.mv (.t 48))⟩,
    ⟨(some 50), (some (49, true)), (.fad 5 (.t 1))⟩,
    ⟨(some 51), (some (49, true)), (.ld none (.t 50))⟩,
    ⟨(some 52), (some (49, true)), (.call (.c (.fn 167 [])) [(.t 51)])⟩,
    ⟨(some 53), none, (.pick (.t 49) (.t 52) (.c (.sc (.bool false))))⟩,
    ⟨(some 54), none, (.mv (.t 53))⟩,
    ⟨(some 55), (some (54, true)), (.fad 4 (.t 1))⟩,
    ⟨(some 56), (some (54, true)), (.ld none (.t 55))⟩,
    ⟨(some 57), (some (54, true)), (.bin .eql (.t 56) (.c (.s [])))⟩,
    ⟨(some 58), (some (54, true)), (.mv (.t 57))⟩,
    ⟨(some 59), (some (58, false)), (.fad 4 (.t 1))⟩,
    ⟨(some 60), (some (58, false)), (.ld none (.t 59))⟩,
    ⟨(some 61), (some (58, false)), (.call (.c (.fn 167 [])) [(.t 60)])⟩,
    ⟨(some 62), (some (54, true)), (.pick (.t 58) (.c (.sc (.bool true))) (.t 61))⟩,
    ⟨(some 63), none, (.pick (.t 54) (.t 62) (.c (.sc (.bool false))))⟩,
    ⟨(some 2), none, (.mv (.t 63))⟩]) .ret) .skip)))))) (.seq (.reg [
   ⟨(some 64), none, (.mv (.t 3))⟩,
    ⟨(some 65), none, (.mv (.t 64))⟩,
    ⟨(some 66), (some (65, true)), (.fad 4 (.t 1))⟩,
    ⟨(some 67), (some (65, true)), (.ld none (.t 66))⟩,
    ⟨(some 68), (some (65, true)), (.bin .eql (.t 67) (.c (.s [])))⟩,
    ⟨(some 69), none, (.pick (.t 65) (.t 68) (.c (.sc (.bool false))))⟩,
    ⟨(some 70), none, (.mv (.t 69))⟩,
    ⟨(some 71), (some (70, true)), (.fad 5 (.t 1))⟩,
    ⟨(some 72), (some (70, true)), (.ld none (.t 71))⟩,
    ⟨(some 73), (some (70, true)), (.bin .eql (.t 72) (.c (.s [])))⟩,
    ⟨(some 74), none, (.pick (.t 70) (.t 73) (.c (.sc (.bool false))))⟩,
    ⟨(some 2), none, (.mv (.t 74))⟩]) .ret)))))
def sh_ref04_part (a0 : AV) (σ : Hp) (n : Nat) (R : AEnd → Hp → Nat → Prop) : Prop :=
 bindS (hBox n a0) σ n fun v1 σ n =>
 bindP (aFad 0 v1) fun v2 =>
 bindP (aLd σ none v2) fun v3 =>
 callD Try.prog (.fn 169 []) [v3] σ (n + 16 * 2) (kd_ref04_part4 v1 σ v2 n R)
theorem se_ref04_part (a0 : AV) (σ : Hp) (n : Nat) (R : AEnd → Hp → Nat → Prop) : sh_ref04_part a0 σ n R = swp Try.prog sc_ref04_part (retQ [(.t 2)] R) (entry [a0]) σ n := by kernel_rfl
theorem by_ref04_part {a0 : AV} {σ : Hp} {n : Nat} {R : AEnd → Hp → Nat → Prop} (h : sh_ref04_part a0 σ n R) : ConH Try.prog 138 [a0] σ n R := by
  rw [se_ref04_part] at h
  exact conH_of [(.t 2)] (fn := Try.f138) rfl [0, 10, 17, 16, 46, 3, 1, 2] (by kernel_rfl) (by kernel_rfl) (by kernel_rfl) (by kernel_rfl) h
/-- switchback/switchbackref04.Name -/
def kc_ref04_Name1 (Kg : AV → Hp → Nat → Prop) (R : AEnd → Hp → Nat → Prop) (r : AEnd) (σ : Hp) (n : Nat) : Prop :=
 onEnd r (fun v18 =>
 Kg v18 σ n) (fun v19 => R (.pan v19) σ n)
def lb_ref04_Name2 (a0 : AV) (R : AEnd → Hp → Nat → Prop) (K21 : List AV → Hp → Nat → Prop) (s21 : List AV) (σ : Hp) (n : Nat) : Prop :=
 bindP (aLen true a0) fun v22 => bnd σ a0 →
 bindP (semBin .lss (s21.getD 4 .any) v22) fun v23 =>
 COND v23 (
 bindP (aIstr a0 (s21.getD 4 .any)) fun v24 =>
 bindP (semBin .geq v24 (.sc (.int .u8 97))) fun v25 =>
 guardP v25 true (some v24) fun v26 =>
 guardP v25 true (semBin .leq v26 (.sc (.int .u8 122))) fun v27 =>
 bindP (aPick v25 v27 (.sc (.bool false))) fun v28 =>
 guardP v28 false (some v24) fun v29 =>
 guardP v28 false (semBin .geq v29 (.sc (.int .u8 48))) fun v30 =>
 guardP v28 false (some v30) fun v31 =>
 guardP v31 true (some v24) fun v32 =>
 guardP v31 true (semBin .leq v32 (.sc (.int .u8 57))) fun v33 =>
 guardP v28 false (aPick v31 v33 (.sc (.bool false))) fun v34 =>
 bindP (aPick v28 (.sc (.bool true)) v34) fun v35 =>
 guardP v35 false (some v24) fun v36 =>
 guardP v35 false (semBin .eql v36 (.sc (.int .u8 95))) fun v37 =>
 bindP (aPick v35 (.sc (.bool true)) v37) fun v38 =>
 bindP (aUn .not v38) fun v39 =>
 COND v39 (
 R (.ret (.sc (.bool false))) σ n) (
 bindP (semBin .add (s21.getD 4 .any) (.sc (.int .i64 1))) fun v40 =>
 K21 [v23, v24, v39, (s21.getD 3 .any), v40] σ n)) (
 R (.ret (.sc (.bool true))) σ n)
attribute [go_sem] kc_ref04_Name1 lb_ref04_Name2
def sc_ref04_Name : SCode := (.seq (.reg [
   ⟨(some 2), none, (.mv (.c (.sc (.bool false))))⟩]) (.seq (.seq (.reg [
   ⟨(some 5), none, (.mv (.t 0))⟩,
    ⟨(some 6), none, (.len true (.t 5))⟩,
    ⟨(some 7), none, (.bin .lss (.t 6) (.c (.sc (.int .i64 1))))⟩,
    ⟨(some 8), none, (.mv (.t 7))⟩,
    ⟨(some 9), (some (8, false)), (.mv (.t 0))⟩,
    ⟨(some 10), (some (8, false)), (.len true (.t 9))⟩,
    ⟨(some 11), (some (8, false)), (.bin .gtr (.t 10) (.c (.sc (.int .i64 16))))⟩,
    ⟨(some 12), none, (.pick (.t 8) (.c (.sc (.bool true))) (.t 11))⟩,
    ⟨(some 13), none, (.mv (.t 12))⟩,
    ⟨(some 14), (some (13, false)), (.mv (.t 0))⟩,
    ⟨(some 15), (some (13, false)), (.istr (.t 14) (.c (.sc (.int .i64 0))))⟩,
    ⟨(some 16), (some (13, false)), (.bin .geq (.t 15) (.c (.sc (.int .u8 48))))⟩,
    ⟨(some 17), (some (13, false)), (.mv (.t 16))⟩,
    ⟨(some 18), (some (17, true)), (.mv (.t 0))⟩,
    ⟨(some 19), (some (17, true)), (.istr (.t 18) (.c (.sc (.int .i64 0))))⟩,
    ⟨(some 20), (some (17, true)), (.bin .leq (.t 19) (.c (.sc (.int .u8 57))))⟩,
    ⟨(some 21), (some (13, false)), (.pick (.t 17) (.t 20) (.c (.sc (.bool false))))⟩,
    ⟨(some 22), none, (.pick (.t 13) (.c (.sc (.bool true))) (.t 21))⟩,
    ⟨(some 23), none, (.mv (.t 22))⟩,
    ⟨(some 24), (some (23, false)), (.mv (.t 0))⟩,
    ⟨(some 25), (some (23, false)), (.call (.c (.fn 180 [])) [(.t 24)])⟩,
    ⟨(some 26), none, (.pick (.t 23) (.c (.sc (.bool true))) (.t 25))⟩]) (.cond (.t 26) (.seq (.reg [
   ⟨(some 2), none, (.mv (.c (.sc (.bool false))))⟩]) .ret) .skip)) (.seq (.seq (.reg [
   ⟨(some 3), none, (.mv (.c (.sc (.int .i64 0))))⟩]) (.block 0 (.loop [30, 4, 54, 2, 3] [27, 28, 29, 30, 33, 34, 35, 4, 36, 37, 38, 39, 40, 41, 42, 43, 44, 45, 46, 47, 48, 49, 50, 51, 52, 53, 54, 2, 31, 32, 3] (.seq (.seq (.reg [
   ⟨(some 27), none, (.mv (.t 3))⟩,
    ⟨(some 28), none, (.mv (.t 0))⟩,
    ⟨(some 29), none, (.len true (.t 28))⟩,
    ⟨(some 30), none, (.bin .lss (.t 27) (.t 29))⟩]) (.cond (.t 30) .skip (.exit 0))) (.seq (.block 1 (.seq (.reg [
   ⟨(some 33), none, (.mv (.t 0))⟩,
    ⟨(some 34), none, (.mv (.t 3))⟩,
    ⟨(some 35), none, (.istr (.t 33) (.t 34))⟩,
    ⟨(some 4), none, (.mv (.t 35))⟩]) (.seq (.reg [
   ⟨(some 36), none, (.mv (.t 4))⟩,
    ⟨(some 37), none, (.bin .geq (.t 36) (.c (.sc (.int .u8 97))))⟩,
    ⟨(some 38), none, (.mv (.t 37))⟩,
    ⟨(some 39), (some (38, true)), (.mv (.t 4))⟩,
    ⟨(some 40), (some (38, true)), (.bin .leq (.t 39) (.c (.sc (.int .u8 122))))⟩,
    ⟨(some 41), none, (.pick (.t 38) (.t 40) (.c (.sc (.bool false))))⟩,
    ⟨(some 42), none, (.mv (.t 41))⟩,
    ⟨(some 43), (some (42, false)), (.mv (.t 4))⟩,
    ⟨(some 44), (some (42, false)), (.bin .geq (.t 43) (.c (.sc (.int .u8 48))))⟩,
    ⟨(some 45), (some (42, false)), (.mv (.t 44))⟩,
    ⟨(some 46), (some (45, true)), (.mv (.t 4))⟩,
    ⟨(some 47), (some (45, true)), (.bin .leq (.t 46) (.c (.sc (.int .u8 57))))⟩,
    ⟨(some 48), (some (42, false)), (.pick (.t 45) (.t 47) (.c (.sc (.bool false))))⟩,
    ⟨(some 49), none, (.pick (.t 42) (.c (.sc (.bool true))) (.t 48))⟩,
    ⟨(some 50), none, (.mv (.t 49))⟩,
    ⟨(some 51), (some (50, false)), (.mv (.t 4))⟩,
    ⟨(some 52), (some (50, false)), (.bin .eql (.t 51) (.c (.sc (.int .u8 95))))⟩,
    ⟨(some 53), none, (.pick (.t 50) (.c (.sc (.bool true))) (.t 52))⟩,
    ⟨(some 54), none, (.un .not (.t 53))⟩]) (.cond (.t 54) (.seq (.reg [
   ⟨(some 2), none, (.mv (.c (.sc (.bool false))))⟩]) .ret) .skip)))) (.reg [
   ⟨(some 31), none, (.mv (.t 3))⟩,
    ⟨(some 32), none, (.bin .add (.t 31) (.c (.sc (.int .i64 1))))⟩,
    ⟨(some 3), none, (.mv (.t 32))⟩])))))) (.seq (.reg [
   ⟨(some 2), none, (.mv (.c (.sc (.bool true))))⟩]) .ret))))
def sh_ref04_Name (a0 : AV) (σ : Hp) (n : Nat) (R : AEnd → Hp → Nat → Prop) : Prop :=
 bindP (aLen true a0) fun v1 => bnd σ a0 →
 bindP (semBin .lss v1 (.sc (.int .i64 1))) fun v2 =>
 guardP v2 false (some a0) fun v3 =>
 guardP v2 false (aLen true v3) fun v4 =>
 guardP v2 false (semBin .gtr v4 (.sc (.int .i64 16))) fun v5 =>
 bindP (aPick v2 (.sc (.bool true)) v5) fun v6 =>
 guardP v6 false (some a0) fun v7 =>
 guardP v6 false (aIstr v7 (.sc (.int .i64 0))) fun v8 =>
 guardP v6 false (semBin .geq v8 (.sc (.int .u8 48))) fun v9 =>
 guardP v6 false (some v9) fun v10 =>
 guardP v10 true (some a0) fun v11 =>
 guardP v10 true (aIstr v11 (.sc (.int .i64 0))) fun v12 =>
 guardP v10 true (semBin .leq v12 (.sc (.int .u8 57))) fun v13 =>
 guardP v6 false (aPick v10 v13 (.sc (.bool false))) fun v14 =>
 bindP (aPick v6 (.sc (.bool true)) v14) fun v15 =>
 guardP v15 false (some a0) fun v16 =>
 guardK v15 false (fun Kg => CALL Try.prog (.fn 180 []) [v16] σ n (kc_ref04_Name1 Kg R)) σ n fun v17 σ n =>
 bindP (aPick v15 (.sc (.bool true)) v17) fun v20 =>
 COND v20 (
 R (.ret (.sc (.bool false))) σ n) (
 LOOP (lb_ref04_Name2 a0 R) [(.tp []), (.tp []), (.tp []), (.sc (.bool false)), (.sc (.int .i64 0))] σ n)
theorem se_ref04_Name (a0 : AV) (σ : Hp) (n : Nat) (R : AEnd → Hp → Nat → Prop) : sh_ref04_Name a0 σ n R = swp Try.prog sc_ref04_Name (retQ [(.t 2)] R) (entry [a0]) σ n := by kernel_rfl
theorem by_ref04_Name {a0 : AV} {σ : Hp} {n : Nat} {R : AEnd → Hp → Nat → Prop} (h : sh_ref04_Name a0 σ n R) : ConH Try.prog 167 [a0] σ n R := by
  rw [se_ref04_Name] at h
  exact conH_of [(.t 2)] (fn := Try.f167) rfl [26, 30, 0, 4, 54, 3, 2] (by kernel_rfl) (by kernel_rfl) (by kernel_rfl) (by kernel_rfl) h
/-- switchback/syntax.Args -/
def jk_syntax_Args1 (R : AEnd → Hp → Nat → Prop) (a0 : AV) (s2 : List AV) (σ : Hp) (n : Nat) : Prop :=
 COND (s2.getD 0 .any) (
 R (.ret (.tp [(.sc (.int .i64 1)), (.sc (.bool true))])) σ n) (
 bindP (semBin .geq a0 (.sc (.int .i64 4))) fun v3 =>
 guardP v3 true (some a0) fun v4 =>
 guardP v3 true (semBin .lss v4 (.sc (.int .i64 16))) fun v5 =>
 bindP (aPick v3 v5 (.sc (.bool false))) fun v6 =>
 R (.ret (.tp [(.sc (.int .i64 2)), v6])) σ n)
def jk_syntax_Args2 (R : AEnd → Hp → Nat → Prop) (a0 : AV) (s1 : List AV) (σ : Hp) (n : Nat) : Prop :=
 COND (s1.getD 0 .any) (
 R (.ret (.tp [(.sc (.int .i64 0)), (.sc (.bool true))])) σ n) (
 JOIN (jk_syntax_Args1 R a0) fun K2 =>
 bindP (semBin .eql a0 (.sc (.int .i64 2))) fun v7 =>
 COND v7 (
 K2 [v7] σ n) (
 bindP (semBin .eql a0 (.sc (.int .i64 3))) fun v8 =>
 COND v8 (
 K2 [v8] σ n) (
 bindP (semBin .eql a0 (.sc (.int .i64 16))) fun v9 =>
 COND v9 (
 K2 [v9] σ n) (
 bindP (semBin .eql a0 (.sc (.int .i64 17))) fun v10 =>
 COND v10 (
 K2 [v10] σ n) (
 bindP (semBin .eql a0 (.sc (.int .i64 19))) fun v11 =>
 COND v11 (
 K2 [v11] σ n) (
 bindP (semBin .eql a0 (.sc (.int .i64 20))) fun v12 =>
 COND v12 (
 K2 [v12] σ n) (
 bindP (semBin .eql a0 (.sc (.int .i64 21))) fun v13 =>
 COND v13 (
 K2 [v13] σ n) (
 bindP (semBin .eql a0 (.sc (.int .i64 22))) fun v14 =>
 K2 [v14] σ n))))))))
attribute [go_sem] jk_syntax_Args1 jk_syntax_Args2
def sc_syntax_Args : SCode := (.seq (.reg [
   ⟨(some 2), none, (.mv (.c (.sc (.int .i64 0))))⟩,
    ⟨(some 3), none, (.mv (.c (.sc (.bool false))))⟩]) (.seq (.seq (.reg [
   ⟨(some 4), none, (.mv (.t 0))⟩]) (.block 0 (.seqJ [5] [6, 5, 7, 5, 8, 5] (.seq (.reg [
   ⟨(some 6), none, (.bin .eql (.t 4) (.c (.sc (.int .i64 0))))⟩,
    ⟨(some 5), none, (.mv (.t 6))⟩]) (.cond (.t 5) .skip (.seq (.reg [
   ⟨(some 7), none, (.bin .eql (.t 4) (.c (.sc (.int .i64 1))))⟩,
    ⟨(some 5), none, (.mv (.t 7))⟩]) (.cond (.t 5) .skip (.reg [
   ⟨(some 8), none, (.bin .eql (.t 4) (.c (.sc (.int .i64 18))))⟩,
    ⟨(some 5), none, (.mv (.t 8))⟩]))))) (.cond (.t 5) (.seq (.reg [
   ⟨(some 2), none, (.mv (.c (.sc (.int .i64 0))))⟩,
    ⟨(some 3), none, (.mv (.c (.sc (.bool true))))⟩]) .ret) (.seqJ [9] [10, 9, 11, 9, 12, 9, 13, 9, 14, 9, 15, 9, 16, 9, 17, 9] (.seq (.reg [
   ⟨(some 10), none, (.bin .eql (.t 4) (.c (.sc (.int .i64 2))))⟩,
    ⟨(some 9), none, (.mv (.t 10))⟩]) (.cond (.t 9) .skip (.seq (.reg [
   ⟨(some 11), none, (.bin .eql (.t 4) (.c (.sc (.int .i64 3))))⟩,
    ⟨(some 9), none, (.mv (.t 11))⟩]) (.cond (.t 9) .skip (.seq (.reg [
   ⟨(some 12), none, (.bin .eql (.t 4) (.c (.sc (.int .i64 16))))⟩,
    ⟨(some 9), none, (.mv (.t 12))⟩]) (.cond (.t 9) .skip (.seq (.reg [
   ⟨(some 13), none, (.bin .eql (.t 4) (.c (.sc (.int .i64 17))))⟩,
    ⟨(some 9), none, (.mv (.t 13))⟩]) (.cond (.t 9) .skip (.seq (.reg [
   ⟨(some 14), none, (.bin .eql (.t 4) (.c (.sc (.int .i64 19))))⟩,
    ⟨(some 9), none, (.mv (.t 14))⟩]) (.cond (.t 9) .skip (.seq (.reg [
   ⟨(some 15), none, (.bin .eql (.t 4) (.c (.sc (.int .i64 20))))⟩,
    ⟨(some 9), none, (.mv (.t 15))⟩]) (.cond (.t 9) .skip (.seq (.reg [
   ⟨(some 16), none, (.bin .eql (.t 4) (.c (.sc (.int .i64 21))))⟩,
    ⟨(some 9), none, (.mv (.t 16))⟩]) (.cond (.t 9) .skip (.reg [
   ⟨(some 17), none, (.bin .eql (.t 4) (.c (.sc (.int .i64 22))))⟩,
    ⟨(some 9), none, (.mv (.t 17))⟩]))))))))))))))) (.cond (.t 9) (.seq (.reg [
   ⟨(some 2), none, (.mv (.c (.sc (.int .i64 1))))⟩,
    ⟨(some 3), none, (.mv (.c (.sc (.bool true))))⟩]) .ret) .skip)))))) (.seq (.reg [
   ⟨(some 18), none, (.mv (.t 0))⟩,
    ⟨(some 19), none, (.bin .geq (.t 18) (.c (.sc (.int .i64 4))))⟩,
    ⟨(some 20), none, (.mv (.t 19))⟩,
    ⟨(some 21), (some (20, true)), (.mv (.t 0))⟩,
    ⟨(some 22), (some (20, true)), (.bin .lss (.t 21) (.c (.sc (.int .i64 16))))⟩,
    ⟨(some 23), none, (.pick (.t 20) (.t 22) (.c (.sc (.bool false))))⟩,
    ⟨(some 2), none, (.mv (.c (.sc (.int .i64 2))))⟩,
    ⟨(some 3), none, (.mv (.t 23))⟩]) .ret)))
def sh_syntax_Args (a0 : AV) (σ : Hp) (n : Nat) (R : AEnd → Hp → Nat → Prop) : Prop :=
 JOIN (jk_syntax_Args2 R a0) fun K1 =>
 bindP (semBin .eql a0 (.sc (.int .i64 0))) fun v15 =>
 COND v15 (
 K1 [v15] σ n) (
 bindP (semBin .eql a0 (.sc (.int .i64 1))) fun v16 =>
 COND v16 (
 K1 [v16] σ n) (
 bindP (semBin .eql a0 (.sc (.int .i64 18))) fun v17 =>
 K1 [v17] σ n))
theorem se_syntax_Args (a0 : AV) (σ : Hp) (n : Nat) (R : AEnd → Hp → Nat → Prop) : sh_syntax_Args a0 σ n R = swp Try.prog sc_syntax_Args (retQ [(.t 2), (.t 3)] R) (entry [a0]) σ n := by kernel_rfl
theorem by_syntax_Args {a0 : AV} {σ : Hp} {n : Nat} {R : AEnd → Hp → Nat → Prop} (h : sh_syntax_Args a0 σ n R) : ConH Try.prog 168 [a0] σ n R := by
  rw [se_syntax_Args] at h
  exact conH_of [(.t 2), (.t 3)] (fn := Try.f168) rfl [5, 4, 9, 0, 2, 3] (by kernel_rfl) (by kernel_rfl) (by kernel_rfl) (by kernel_rfl) h
/-- switchback/switchbackref04.args -/
def sc_ref04_args : SCode := (.seq (.reg [
   ⟨(some 2), none, (.mv (.c (.sc (.int .i64 0))))⟩]) (.seq (.block 0 (.seq (.reg [
   ⟨(some 4), none, (.mv (.t 0))⟩,
    ⟨(some 5), none, (.bin .lss (.t 4) (.c (.sc (.int .i64 0))))⟩,
    ⟨(some 6), none, (.mv (.t 5))⟩,
    ⟨(some 7), (some (6, false)), (.mv (.t 0))⟩,
    ⟨(some 8), (some (6, false)), (.bin .gtr (.t 7) (.c (.sc (.int .i64 22))))⟩,
    ⟨(some 9), none, (.pick (.t 6) (.c (.sc (.bool true))) (.t 8))⟩,
    ⟨(some 3), none, (.mv (.t 9))⟩]) (.cond (.t 3) (.seq (.reg [
   ⟨(some 2), none, (.mv (.c (.sc (.int .i64 (-1)))))⟩]) .ret) (.seq (.reg [
   ⟨(some 11), none, (.mv (.t 0))⟩,
    ⟨(some 12), none, (.bin .leq (.t 11) (.c (.sc (.int .i64 1))))⟩,
    ⟨(some 13), none, (.mv (.t 12))⟩,
    ⟨(some 14), (some (13, false)), (.mv (.t 0))⟩,
    ⟨(some 15), (some (13, false)), (.bin .eql (.t 14) (.c (.sc (.int .i64 18))))⟩,
    ⟨(some 16), none, (.pick (.t 13) (.c (.sc (.bool true))) (.t 15))⟩,
    ⟨(some 10), none, (.mv (.t 16))⟩]) (.cond (.t 10) (.seq (.reg [
   ⟨(some 2), none, (.mv (.c (.sc (.int .i64 0))))⟩]) .ret) (.seq (.reg [
   ⟨(some 18), none, (.mv (.t 0))⟩,
    ⟨(some 19), none, (.bin .leq (.t 18) (.c (.sc (.int .i64 3))))⟩,
    ⟨(some 20), none, (.mv (.t 19))⟩,
    ⟨(some 21), (some (20, false)), (.mv (.t 0))⟩,
    ⟨(some 22), (some (20, false)), (.bin .geq (.t 21) (.c (.sc (.int .i64 16))))⟩,
    ⟨(some 23), none, (.pick (.t 20) (.c (.sc (.bool true))) (.t 22))⟩,
    ⟨(some 17), none, (.mv (.t 23))⟩]) (.cond (.t 17) (.seq (.reg [
   ⟨(some 2), none, (.mv (.c (.sc (.int .i64 1))))⟩]) .ret) .skip))))))) (.seq (.reg [
   ⟨(some 2), none, (.mv (.c (.sc (.int .i64 2))))⟩]) .ret)))
def sh_ref04_args (a0 : AV) (σ : Hp) (n : Nat) (R : AEnd → Hp → Nat → Prop) : Prop :=
 bindP (semBin .lss a0 (.sc (.int .i64 0))) fun v1 =>
 guardP v1 false (some a0) fun v2 =>
 guardP v1 false (semBin .gtr v2 (.sc (.int .i64 22))) fun v3 =>
 bindP (aPick v1 (.sc (.bool true)) v3) fun v4 =>
 COND v4 (
 R (.ret (.sc (.int .i64 (-1)))) σ n) (
 bindP (semBin .leq a0 (.sc (.int .i64 1))) fun v5 =>
 guardP v5 false (some a0) fun v6 =>
 guardP v5 false (semBin .eql v6 (.sc (.int .i64 18))) fun v7 =>
 bindP (aPick v5 (.sc (.bool true)) v7) fun v8 =>
 COND v8 (
 R (.ret (.sc (.int .i64 0))) σ n) (
 bindP (semBin .leq a0 (.sc (.int .i64 3))) fun v9 =>
 guardP v9 false (some a0) fun v10 =>
 guardP v9 false (semBin .geq v10 (.sc (.int .i64 16))) fun v11 =>
 bindP (aPick v9 (.sc (.bool true)) v11) fun v12 =>
 COND v12 (
 R (.ret (.sc (.int .i64 1))) σ n) (
 R (.ret (.sc (.int .i64 2))) σ n)))
theorem se_ref04_args (a0 : AV) (σ : Hp) (n : Nat) (R : AEnd → Hp → Nat → Prop) : sh_ref04_args a0 σ n R = swp Try.prog sc_ref04_args (retQ [(.t 2)] R) (entry [a0]) σ n := by kernel_rfl
theorem by_ref04_args {a0 : AV} {σ : Hp} {n : Nat} {R : AEnd → Hp → Nat → Prop} (h : sh_ref04_args a0 σ n R) : ConH Try.prog 169 [a0] σ n R := by
  rw [se_ref04_args] at h
  exact conH_of [(.t 2)] (fn := Try.f169) rfl [3, 10, 0, 17, 2] (by kernel_rfl) (by kernel_rfl) (by kernel_rfl) (by kernel_rfl) h
/-- switchback/switchbackref01.Check -/
def jk_ref01_Check1 (R : AEnd → Hp → Nat → Prop) (s2 : List AV) (σ : Hp) (n : Nat) : Prop :=
 R (.ret (.sc (.int .i64 9))) σ n
attribute [go_sem] jk_ref01_Check1
def sc_ref01_Check : SCode := (.seq (.reg [
   ⟨(some 1), none, (.box (.t 0))⟩,
    ⟨(some 2), none, (.mv (.c (.sc (.int .i64 0))))⟩]) (.seqJ [4, 5, 14, 15, 19, 20, 34, 35, 45, 2] [3, 4, 6, 5, 7, 8, 9, 10, 11, 12, 13, 14, 2, 16, 15, 17, 18, 19, 2, 21, 20, 22, 23, 24, 25, 26, 27, 28, 29, 30, 31, 32, 33, 34, 2, 36, 35, 37, 38, 39, 40, 41, 42, 43, 44, 45, 2] (.seq (.reg [
   ⟨(some 3), none, (.fad 0 (.t 1))⟩,
    ⟨(some 4), none, (.ld none (.t 3))⟩]) (.block 0 (.seq (.reg [
   ⟨(some 6), none, (.bin .eql (.t 4) (.c (.sc (.int .i64 0))))⟩,
    ⟨(some 5), none, (.mv (.t 6))⟩]) (.cond (.t 5) (.seq (.reg [
   ⟨(some 7), none, (.fad 1 (.t 1))⟩,
    ⟨(some 8), none, (.ld none (.t 7))⟩,
    ⟨(some 9), none, (.bin .eql (.t 8) (.c (.sc (.int .i64 0))))⟩,
    ⟨(some 10), none, (.mv (.t 9))⟩,
    ⟨(some 11), (some (10, true)), (.fad 2 (.t 1))⟩,
    ⟨(some 12), (some (10, true)), (.ld none (.t 11))⟩,
    ⟨(some 13), (some (10, true)), (.bin .eql (.t 12) (.c (.s [])))⟩,
    ⟨(some 14), none, (.pick (.t 10) (.t 13) (.c (.sc (.bool false))))⟩]) (.cond (.t 14) (.seq (.reg [
   ⟨(some 2), none, (.mv (.c (.sc (.int .i64 0))))⟩]) .ret) .skip)) (.seq (.reg [
   ⟨(some 16), none, (.bin .eql (.t 4) (.c (.sc (.int .i64 1))))⟩,
    ⟨(some 15), none, (.mv (.t 16))⟩]) (.cond (.t 15) (.seq (.reg [
   ⟨(some 17), none, (.fad 2 (.t 1))⟩,
    ⟨(some 18), none, (.ld none (.t 17))⟩,
    ⟨(some 19), none, (.bin .eql (.t 18) (.c (.s [])))⟩]) (.cond (.t 19) (.seq (.reg [
   ⟨(some 2), none, (.mv (.c (.sc (.int .i64 0))))⟩]) .ret) .skip)) (.seq (.reg [
   ⟨(some 21), none, (.bin .eql (.t 4) (.c (.sc (.int .i64 2))))⟩,
    ⟨(some 20), none, (.mv (.t 21))⟩]) (.cond (.t 20) (.seq (.reg [
   ⟨(some 22), none, (.fad 2 (.t 1))⟩,
    ⟨(some 23), none, (.ld none (.t 22))⟩,
    ⟨(some 24), none, (.bin .eql (.t 23) (.c (.s [])))⟩,
    ⟨(some 25), none, (.mv (.t 24))⟩,
    ⟨(some 26), (some (25, true)), (.fad 1 (.t 1))⟩,
    ⟨(some 27), (some (25, true)), (.ld none (.t 26))⟩,
    ⟨(some 28), (some (25, true)), (.bin .eql (.t 27) (.c (.sc (.int .i64 0))))⟩,
    ⟨(some 29), (some (25, true)), (.mv (.t 28))⟩,
    ⟨(some 30), (some (29, false)), (.fad 1 (.t 1))⟩,
    ⟨(some 31), (some (29, false)), (.ld none (.t 30))⟩,
    ⟨(some 32), (some (29, false)), (.bin .eql (.t 31) (.c (.sc (.int .i64 1))))⟩,
    ⟨(some 33), (some (25, true)), (.pick (.t 29) (.c (.sc (.bool true))) (.t 32))⟩,
    ⟨(some 34), none, (.pick (.t 25) (.t 33) (.c (.sc (.bool false))))⟩]) (.cond (.t 34) (.seq (.reg [
   ⟨(some 2), none, (.mv (.c (.sc (.int .i64 0))))⟩]) .ret) .skip)) (.seq (.reg [
   ⟨(some 36), none, (.bin .eql (.t 4) (.c (.sc (.int .i64 3))))⟩,
    ⟨(some 35), none, (.mv (.t 36))⟩]) (.cond (.t 35) (.seq (.reg [
   ⟨(some 37), none, (.fad 1 (.t 1))⟩,
    ⟨(some 38), none, (.ld none (.t 37))⟩,
    ⟨(some 39), none, (.bin .eql (.t 38) (.c (.sc (.int .i64 0))))⟩,
    ⟨(some 40), none, (.mv (.t 39))⟩,
    ⟨(some 41), (some (40, true)), (.fad 2 (.t 1))⟩,
    ⟨(some 42), (some (40, true)), (.ld none (.t 41))⟩,
    ⟨(some 43), (some (40, true)), (.len true (.t 42))⟩,
    ⟨(some 44), (some (40, true)), (.bin .leq (.t 43) (.c (.sc (.int .i64 64))))⟩,
    ⟨(some 45), none, (.pick (.t 40) (.t 44) (.c (.sc (.bool false))))⟩]) (.cond (.t 45) (.seq (.reg [
   ⟨(some 2), none, (.mv (.c (.sc (.int .i64 0))))⟩]) .ret) .skip)) .skip)))))))))) (.seq (.reg [
   ⟨(some 2), none, (.mv (.c (.sc (.int .i64 9))))⟩]) .ret)))
def sh_ref01_Check (a0 : AV) (σ : Hp) (n : Nat) (R : AEnd → Hp → Nat → Prop) : Prop :=
 bindS (hBox n a0) σ n fun v1 σ n =>
 JOIN (jk_ref01_Check1 R) fun K2 =>
 bindP (aFad 0 v1) fun v3 =>
 bindP (aLd σ none v3) fun v4 =>
 bindP (semBin .eql v4 (.sc (.int .i64 0))) fun v5 =>
 COND v5 (
 bindP (aFad 1 v1) fun v6 =>
 bindP (aLd σ none v6) fun v7 =>
 bindP (semBin .eql v7 (.sc (.int .i64 0))) fun v8 =>
 guardP v8 true (aFad 2 v1) fun v9 =>
 guardP v8 true (aLd σ none v9) fun v10 =>
 guardP v8 true (semBin .eql v10 (.s [])) fun v11 =>
 bindP (aPick v8 v11 (.sc (.bool false))) fun v12 =>
 COND v12 (
 R (.ret (.sc (.int .i64 0))) σ n) (
 K2 [v4, v5, v12, (.tp []), (.tp []), (.tp []), (.tp []), (.tp []), (.tp []), (.sc (.int .i64 0))] σ n)) (
 bindP (semBin .eql v4 (.sc (.int .i64 1))) fun v13 =>
 COND v13 (
 bindP (aFad 2 v1) fun v14 =>
 bindP (aLd σ none v14) fun v15 =>
 bindP (semBin .eql v15 (.s [])) fun v16 =>
 COND v16 (
 R (.ret (.sc (.int .i64 0))) σ n) (
 K2 [v4, v5, (.tp []), v13, v16, (.tp []), (.tp []), (.tp []), (.tp []), (.sc (.int .i64 0))] σ n)) (
 bindP (semBin .eql v4 (.sc (.int .i64 2))) fun v17 =>
 COND v17 (
 bindP (aFad 2 v1) fun v18 =>
 bindP (aLd σ none v18) fun v19 =>
 bindP (semBin .eql v19 (.s [])) fun v20 =>
 guardP v20 true (aFad 1 v1) fun v21 =>
 guardP v20 true (aLd σ none v21) fun v22 =>
 guardP v20 true (semBin .eql v22 (.sc (.int .i64 0))) fun v23 =>
 guardP v20 true (some v23) fun v24 =>
 guardP v24 false (aFad 1 v1) fun v25 =>
 guardP v24 false (aLd σ none v25) fun v26 =>
 guardP v24 false (semBin .eql v26 (.sc (.int .i64 1))) fun v27 =>
 guardP v20 true (aPick v24 (.sc (.bool true)) v27) fun v28 =>
 bindP (aPick v20 v28 (.sc (.bool false))) fun v29 =>
 COND v29 (
 R (.ret (.sc (.int .i64 0))) σ n) (
 K2 [v4, v5, (.tp []), v13, (.tp []), v17, v29, (.tp []), (.tp []), (.sc (.int .i64 0))] σ n)) (
 bindP (semBin .eql v4 (.sc (.int .i64 3))) fun v30 =>
 COND v30 (
 bindP (aFad 1 v1) fun v31 =>
 bindP (aLd σ none v31) fun v32 =>
 bindP (semBin .eql v32 (.sc (.int .i64 0))) fun v33 =>
 guardP v33 true (aFad 2 v1) fun v34 =>
 guardP v33 true (aLd σ none v34) fun v35 =>
 guardP v33 true (aLen true v35) fun v36 =>
 guardP v33 true (semBin .leq v36 (.sc (.int .i64 64))) fun v37 =>
 bindP (aPick v33 v37 (.sc (.bool false))) fun v38 =>
 COND v38 (
 R (.ret (.sc (.int .i64 0))) σ n) (
 K2 [v4, v5, (.tp []), v13, (.tp []), v17, (.tp []), v30, v38, (.sc (.int .i64 0))] σ n)) (
 K2 [v4, v5, (.tp []), v13, (.tp []), v17, (.tp []), v30, (.tp []), (.sc (.int .i64 0))] σ n))))
theorem se_ref01_Check (a0 : AV) (σ : Hp) (n : Nat) (R : AEnd → Hp → Nat → Prop) : sh_ref01_Check a0 σ n R = swp Try.prog sc_ref01_Check (retQ [(.t 2)] R) (entry [a0]) σ n := by kernel_rfl
theorem by_ref01_Check {a0 : AV} {σ : Hp} {n : Nat} {R : AEnd → Hp → Nat → Prop} (h : sh_ref01_Check a0 σ n R) : ConH Try.prog 170 [a0] σ n R := by
  rw [se_ref01_Check] at h
  exact conH_of [(.t 2)] (fn := Try.f170) rfl [0, 5, 14, 15, 19, 20, 34, 4, 35, 1, 45, 2] (by kernel_rfl) (by kernel_rfl) (by kernel_rfl) (by kernel_rfl) h
/-- switchback/lex.Keyword -/
def kc_lex_Keyword1 (Kg : AV → Hp → Nat → Prop) (R : AEnd → Hp → Nat → Prop) (r : AEnd) (σ : Hp) (n : Nat) : Prop :=
 onEnd r (fun v6 =>
 Kg v6 σ n) (fun v7 => R (.pan v7) σ n)
def kc_lex_Keyword2 (Kg : AV → Hp → Nat → Prop) (R : AEnd → Hp → Nat → Prop) (r : AEnd) (σ : Hp) (n : Nat) : Prop :=
 onEnd r (fun v14 =>
 Kg v14 σ n) (fun v15 => R (.pan v15) σ n)
def kc_lex_Keyword3 (R : AEnd → Hp → Nat → Prop) (r : AEnd) (σ : Hp) (n : Nat) : Prop :=
 onEnd r (fun v1 =>
 bindP (semBin .neq v1 (.s [])) fun v3 =>
 guardP v3 true (some v1) fun v4 =>
 guardK v3 true (fun Kg => CALL Try.prog (.fn 178 []) [v4, (.s [32])] σ n (kc_lex_Keyword1 Kg R)) σ n fun v5 σ n =>
 guardP v3 true (aUn .not v5) fun v8 =>
 bindP (aPick v3 v8 (.sc (.bool false))) fun v9 =>
 guardP v9 true (some v1) fun v10 =>
 guardP v9 true (semBin .add (.s [32]) v10) fun v11 =>
 guardP v9 true (semBin .add v11 (.s [32])) fun v12 =>
 guardK v9 true (fun Kg => CALL Try.prog (.fn 178 []) [(.s [32, 99, 114, 101, 97, 116, 101, 32, 116, 97, 98, 108, 101, 32, 105, 110, 100, 101, 120, 32, 111, 110, 32, 100, 114, 111, 112, 32, 105, 110, 115, 101, 114, 116, 32, 105, 110, 116, 111, 32, 118, 97, 108, 117, 101, 115, 32, 117, 112, 100, 97, 116, 101, 32, 115, 101, 116, 32, 100, 101, 108, 101, 116, 101, 32, 102, 114, 111, 109, 32, 119, 104, 101, 114, 101, 32, 115, 101, 108, 101, 99, 116, 32, 106, 111, 105, 110, 32, 103, 114, 111, 117, 112, 32, 98, 121, 32, 111, 114, 100, 101, 114, 32, 100, 101, 115, 99, 32, 108, 105, 109, 105, 116, 32, 98, 101, 103, 105, 110, 32, 99, 111, 109, 109, 105, 116, 32, 114, 111, 108, 108, 98, 97, 99, 107, 32, 112, 114, 105, 109, 97, 114, 121, 32, 107, 101, 121, 32, 110, 111, 116, 32, 110, 117, 108, 108, 32, 105, 115, 32, 97, 110, 100, 32, 111, 114, 32, 116, 114, 117, 101, 32, 102, 97, 108, 115, 101, 32, 105, 110, 116, 32, 98, 111, 111, 108, 32, 116, 101, 120, 116, 32, 99, 111, 117, 110, 116, 32, 115, 117, 109, 32, 109, 105, 110, 32, 109, 97, 120, 32]), v12] σ n (kc_lex_Keyword2 Kg R)) σ n fun v13 σ n =>
 bindP (aPick v9 v13 (.sc (.bool false))) fun v16 =>
 R (.ret v16) σ n) (fun v2 => R (.pan v2) σ n)
attribute [go_sem] kc_lex_Keyword1 kc_lex_Keyword2 kc_lex_Keyword3
def sc_lex_Keyword : SCode := (.seq (.reg [
   ⟨(some 2), none, (.mv (.c (.sc (.bool false))))⟩]) (.seq (.reg [
   ⟨(some 3), none, (.mv (.t 0))⟩,
    ⟨(some 4), none, (.call (.c (.fn 177 [])) [(.t 3)])⟩,
    ⟨(some 0), none, (.mv (.t 4))⟩]) (.seq (.reg [
   ⟨(some 5), none, (.mv (.t 0))⟩,
    ⟨(some 6), none, (.bin .neq (.t 5) (.c (.s [])))⟩,
    ⟨(some 7), none, (.mv (.t 6))⟩,
    ⟨(some 8), (some (7, true)), (.mv (.t 0))⟩,
    ⟨(some 9), (some (7, true)), (.call (.c (.fn 178 [])) [(.t 8), (.c (.s [32]))])⟩,
    ⟨(some 10), (some (7, true)), (.un .not (.t 9))⟩,
    ⟨(some 11), none, (.pick (.t 7) (.t 10) (.c (.sc (.bool false))))⟩,
    ⟨(some 12), none, (.mv (.t 11))⟩,
    ⟨(some 13), (some (12, true)), (.mv (.t 0))⟩,
    ⟨(some 14), (some (12, true)), (.bin .add (.c (.s [32])) (.t 13))⟩,
    ⟨(some 15), (some (12, true)), (.bin .add (.t 14) (.c (.s [32])))⟩,
    ⟨(some 16), (some (12, true)), (.call (.c (.fn 178 [])) [(.c (.s [32, 99, 114, 101, 97, 116, 101, 32, 116, 97, 98, 108, 101, 32, 105, 110, 100, 101, 120, 32, 111, 110, 32, 100, 114, 111, 112, 32, 105, 110, 115, 101, 114, 116, 32, 105, 110, 116, 111, 32, 118, 97, 108, 117, 101, 115, 32, 117, 112, 100, 97, 116, 101, 32, 115, 101, 116, 32, 100, 101, 108, 101, 116, 101, 32, 102, 114, 111, 109, 32, 119, 104, 101, 114, 101, 32, 115, 101, 108, 101, 99, 116, 32, 106, 111, 105, 110, 32, 103, 114, 111, 117, 112, 32, 98, 121, 32, 111, 114, 100, 101, 114, 32, 100, 101, 115, 99, 32, 108, 105, 109, 105, 116, 32, 98, 101, 103, 105, 110, 32, 99, 111, 109, 109, 105, 116, 32, 114, 111, 108, 108, 98, 97, 99, 107, 32, 112, 114, 105, 109, 97, 114, 121, 32, 107, 101, 121, 32, 110, 111, 116, 32, 110, 117, 108, 108, 32, 105, 115, 32, 97, 110, 100, 32, 111, 114, 32, 116, 114, 117, 101, 32, 102, 97, 108, 115, 101, 32, 105, 110, 116, 32, 98, 111, 111, 108, 32, 116, 101, 120, 116, 32, 99, 111, 117, 110, 116, 32, 115, 117, 109, 32, 109, 105, 110, 32, 109, 97, 120, 32])), (.t 15)])⟩,
    ⟨(some 17), none, (.pick (.t 12) (.t 16) (.c (.sc (.bool false))))⟩,
    ⟨(some 2), none, (.mv (.t 17))⟩]) .ret)))
def sh_lex_Keyword (a0 : AV) (σ : Hp) (n : Nat) (R : AEnd → Hp → Nat → Prop) : Prop :=
 CALL Try.prog (.fn 177 []) [a0] σ n (kc_lex_Keyword3 R)
theorem se_lex_Keyword (a0 : AV) (σ : Hp) (n : Nat) (R : AEnd → Hp → Nat → Prop) : sh_lex_Keyword a0 σ n R = swp Try.prog sc_lex_Keyword (retQ [(.t 2)] R) (entry [a0]) σ n := by kernel_rfl
theorem by_lex_Keyword {a0 : AV} {σ : Hp} {n : Nat} {R : AEnd → Hp → Nat → Prop} (h : sh_lex_Keyword a0 σ n R) : ConH Try.prog 160 [a0] σ n R := by
  rw [se_lex_Keyword] at h
  exact conH_of [(.t 2)] (fn := Try.f160) rfl [0, 2] (by kernel_rfl) (by kernel_rfl) (by kernel_rfl) (by kernel_rfl) h
/-- slices.ContainsFunc[[]byte,byte] -/
def kc_slices_ContainsFunc_lbyte_byte1 (R : AEnd → Hp → Nat → Prop) (r : AEnd) (σ : Hp) (n : Nat) : Prop :=
 onEnd r (fun v1 =>
 bindP (semBin .geq v1 (.sc (.int .i64 0))) fun v3 =>
 R (.ret v3) σ n) (fun v2 => R (.pan v2) σ n)
attribute [go_sem] kc_slices_ContainsFunc_lbyte_byte1
def sc_slices_ContainsFunc_lbyte_byte : SCode := (.seq (.reg [
   ⟨(some 4), none, (.mv (.c (.sc (.bool false))))⟩]) (.seq (.reg [
   ⟨(some 5), none, (.mv (.t 0))⟩,
    ⟨(some 6), none, (.mv (.t 1))⟩,
    ⟨(some 7), none, (.call (.c (.fn 179 [])) [(.t 5), (.t 6)])⟩,
    ⟨(some 8), none, (.bin .geq (.t 7) (.c (.sc (.int .i64 0))))⟩,
    ⟨(some 4), none, (.mv (.t 8))⟩]) .ret))
def sh_slices_ContainsFunc_lbyte_byte (a0 a1 : AV) (σ : Hp) (n : Nat) (R : AEnd → Hp → Nat → Prop) : Prop :=
 CALL Try.prog (.fn 179 []) [a0, a1] σ n (kc_slices_ContainsFunc_lbyte_byte1 R)
theorem se_slices_ContainsFunc_lbyte_byte (a0 a1 : AV) (σ : Hp) (n : Nat) (R : AEnd → Hp → Nat → Prop) : sh_slices_ContainsFunc_lbyte_byte a0 a1 σ n R = swp Try.prog sc_slices_ContainsFunc_lbyte_byte (retQ [(.t 4)] R) (entry [a0, a1]) σ n := by kernel_rfl
theorem by_slices_ContainsFunc_lbyte_byte {a0 a1 : AV} {σ : Hp} {n : Nat} {R : AEnd → Hp → Nat → Prop} (h : sh_slices_ContainsFunc_lbyte_byte a0 a1 σ n R) : ConH Try.prog 161 [a0, a1] σ n R := by
  rw [se_slices_ContainsFunc_lbyte_byte] at h
  exact conH_of [(.t 4)] (fn := Try.f161) rfl [0, 1, 4] (by kernel_rfl) (by kernel_rfl) (by kernel_rfl) (by kernel_rfl) h
/-- slices.IndexFunc[[]byte,byte] -/
def kc_slices_IndexFunc_lbyte_byte1 (R : AEnd → Hp → Nat → Prop) (s2 : List AV) (K2 : List AV → Hp → Nat → Prop) (v3 : AV) (r : AEnd) (σ : Hp) (n : Nat) : Prop :=
 onEnd r (fun v6 =>
 COND v6 (
 R (.ret (s2.getD 4 .any)) σ n) (
 bindP (semBin .add (s2.getD 4 .any) (.sc (.int .i64 1))) fun v8 =>
 K2 [v3, (s2.getD 4 .any), v6, (s2.getD 3 .any), v8] σ n)) (fun v7 => R (.pan v7) σ n)
def lb_slices_IndexFunc_lbyte_byte2 (v1 : AV) (a0 : AV) (a1 : AV) (R : AEnd → Hp → Nat → Prop) (K2 : List AV → Hp → Nat → Prop) (s2 : List AV) (σ : Hp) (n : Nat) : Prop :=
 bindP (semBin .lss (s2.getD 4 .any) v1) fun v3 =>
 COND v3 (
 bindP (aIad 1 a0 (s2.getD 4 .any)) fun v4 =>
 bindP (aLd σ none v4) fun v5 =>
 CALL Try.prog a1 [v5] σ n (kc_slices_IndexFunc_lbyte_byte1 R s2 K2 v3)) (
 R (.ret (.sc (.int .i64 (-1)))) σ n)
attribute [go_sem] kc_slices_IndexFunc_lbyte_byte1 lb_slices_IndexFunc_lbyte_byte2
def sc_slices_IndexFunc_lbyte_byte : SCode := (.seq (.reg [
   ⟨(some 4), none, (.mv (.c (.sc (.int .i64 0))))⟩]) (.seq (.seq (.reg [
   ⟨(some 6), none, (.mv (.t 0))⟩,
    ⟨(some 7), none, (.len false (.t 6))⟩,
    ⟨(some 8), none, (.mv (.c (.sc (.int .i64 0))))⟩]) (.block 0 (.loop [9, 5, 16, 4, 8] [9, 10, 5, 11, 12, 13, 14, 15, 16, 17, 4, 18, 8] (.seq (.reg [
   ⟨(some 9), none, (.bin .lss (.t 8) (.t 7))⟩]) (.seq (.cond (.t 9) .skip (.exit 0)) (.seq (.block 1 (.seq (.reg [
   ⟨(some 10), none, (.mv (.t 8))⟩,
    ⟨(some 5), none, (.mv (.t 10))⟩]) (.seq (.reg [
   ⟨(some 11), none, (.mv (.t 1))⟩,
    ⟨(some 12), none, (.mv (.t 0))⟩,
    ⟨(some 13), none, (.mv (.t 5))⟩,
    ⟨(some 14), none, (.iad 1 (.t 12) (.t 13))⟩,
    ⟨(some 15), none, (.ld none (.t 14))⟩,
    ⟨(some 16), none, (.call (.t 11) [(.t 15)])⟩]) (.cond (.t 16) (.seq (.reg [
   ⟨(some 17), none, (.mv (.t 5))⟩,
    ⟨(some 4), none, (.mv (.t 17))⟩]) .ret) .skip)))) (.reg [
   ⟨(some 18), none, (.bin .add (.t 8) (.c (.sc (.int .i64 1))))⟩,
    ⟨(some 8), none, (.mv (.t 18))⟩]))))))) (.seq (.reg [
   ⟨(some 4), none, (.mv (.c (.sc (.int .i64 (-1)))))⟩]) .ret)))
def sh_slices_IndexFunc_lbyte_byte (a0 a1 : AV) (σ : Hp) (n : Nat) (R : AEnd → Hp → Nat → Prop) : Prop :=
 bindP (aLen false a0) fun v1 => bnd σ a0 →
 LOOP (lb_slices_IndexFunc_lbyte_byte2 v1 a0 a1 R) [(.tp []), (.tp []), (.tp []), (.sc (.int .i64 0)), (.sc (.int .i64 0))] σ n
theorem se_slices_IndexFunc_lbyte_byte (a0 a1 : AV) (σ : Hp) (n : Nat) (R : AEnd → Hp → Nat → Prop) : sh_slices_IndexFunc_lbyte_byte a0 a1 σ n R = swp Try.prog sc_slices_IndexFunc_lbyte_byte (retQ [(.t 4)] R) (entry [a0, a1]) σ n := by kernel_rfl
theorem by_slices_IndexFunc_lbyte_byte {a0 a1 : AV} {σ : Hp} {n : Nat} {R : AEnd → Hp → Nat → Prop} (h : sh_slices_IndexFunc_lbyte_byte a0 a1 σ n R) : ConH Try.prog 179 [a0, a1] σ n R := by
  rw [se_slices_IndexFunc_lbyte_byte] at h
  exact conH_of [(.t 4)] (fn := Try.f179) rfl [7, 9, 1, 0, 16, 5, 8, 4] (by kernel_rfl) (by kernel_rfl) (by kernel_rfl) (by kernel_rfl) h
/-- switchback/syntax.Name$1 -/
def sc_syntax_Name_c1 : SCode := (.seq (.reg [
   ⟨(some 2), none, (.mv (.c (.sc (.bool false))))⟩]) (.seq (.reg [
   ⟨(some 3), none, (.mv (.t 0))⟩,
    ⟨(some 4), none, (.bin .sub (.t 3) (.c (.sc (.int .u8 97))))⟩,
    ⟨(some 5), none, (.bin .geq (.t 4) (.c (.sc (.int .u8 26))))⟩,
    ⟨(some 6), none, (.mv (.t 5))⟩,
    ⟨(some 7), (some (6, true)), (.mv (.t 0))⟩,
    ⟨(some 8), (some (6, true)), (.bin .sub (.t 7) (.c (.sc (.int .u8 48))))⟩,
    ⟨(some 9), (some (6, true)), (.bin .geq (.t 8) (.c (.sc (.int .u8 10))))⟩,
    ⟨(some 10), none, (.pick (.t 6) (.t 9) (.c (.sc (.bool false))))⟩,
    ⟨(some 11), none, (.mv (.t 10))⟩,
    ⟨(some 12), (some (11, true)), (.mv (.t 0))⟩,
    ⟨(some 13), (some (11, true)), (.bin .neq (.t 12) (.c (.sc (.int .u8 95))))⟩,
    ⟨(some 14), none, (.pick (.t 11) (.t 13) (.c (.sc (.bool false))))⟩,
    ⟨(some 2), none, (.mv (.t 14))⟩]) .ret))
def sh_syntax_Name_c1 (a0 : AV) (σ : Hp) (n : Nat) (R : AEnd → Hp → Nat → Prop) : Prop :=
 bindP (semBin .sub a0 (.sc (.int .u8 97))) fun v1 =>
 bindP (semBin .geq v1 (.sc (.int .u8 26))) fun v2 =>
 guardP v2 true (some a0) fun v3 =>
 guardP v2 true (semBin .sub v3 (.sc (.int .u8 48))) fun v4 =>
 guardP v2 true (semBin .geq v4 (.sc (.int .u8 10))) fun v5 =>
 bindP (aPick v2 v5 (.sc (.bool false))) fun v6 =>
 guardP v6 true (some a0) fun v7 =>
 guardP v6 true (semBin .neq v7 (.sc (.int .u8 95))) fun v8 =>
 bindP (aPick v6 v8 (.sc (.bool false))) fun v9 =>
 R (.ret v9) σ n
theorem se_syntax_Name_c1 (a0 : AV) (σ : Hp) (n : Nat) (R : AEnd → Hp → Nat → Prop) : sh_syntax_Name_c1 a0 σ n R = swp Try.prog sc_syntax_Name_c1 (retQ [(.t 2)] R) (entry [a0]) σ n := by kernel_rfl
theorem by_syntax_Name_c1 {a0 : AV} {σ : Hp} {n : Nat} {R : AEnd → Hp → Nat → Prop} (h : sh_syntax_Name_c1 a0 σ n R) : ConH Try.prog 162 [a0] σ n R := by
  rw [se_syntax_Name_c1] at h
  exact conH_of [(.t 2)] (fn := Try.f162) rfl [0, 2] (by kernel_rfl) (by kernel_rfl) (by kernel_rfl) (by kernel_rfl) h
/-- switchback/switchbackref03.Keyword -/
def jk_ref03_Keyword1 (R : AEnd → Hp → Nat → Prop) (s3 : List AV) (σ : Hp) (n : Nat) : Prop :=
 COND (s3.getD 0 .any) (
 R (.ret (.sc (.bool true))) σ n) (
 R (.ret (.sc (.bool false))) σ n)
def kc_ref03_Keyword2 (R : AEnd → Hp → Nat → Prop) (r : AEnd) (σ : Hp) (n : Nat) : Prop :=
 onEnd r (fun v1 =>
 JOIN (jk_ref03_Keyword1 R) fun K3 =>
 bindP (semBin .eql v1 (.s [99, 114, 101, 97, 116, 101])) fun v4 =>
 COND v4 (
 K3 [v4] σ n) (
 bindP (semBin .eql v1 (.s [116, 97, 98, 108, 101])) fun v5 =>
 COND v5 (
 K3 [v5] σ n) (
 bindP (semBin .eql v1 (.s [105, 110, 100, 101, 120])) fun v6 =>
 COND v6 (
 K3 [v6] σ n) (
 bindP (semBin .eql v1 (.s [111, 110])) fun v7 =>
 COND v7 (
 K3 [v7] σ n) (
 bindP (semBin .eql v1 (.s [100, 114, 111, 112])) fun v8 =>
 COND v8 (
 K3 [v8] σ n) (
 bindP (semBin .eql v1 (.s [105, 110, 115, 101, 114, 116])) fun v9 =>
 COND v9 (
 K3 [v9] σ n) (
 bindP (semBin .eql v1 (.s [105, 110, 116, 111])) fun v10 =>
 COND v10 (
 K3 [v10] σ n) (
 bindP (semBin .eql v1 (.s [118, 97, 108, 117, 101, 115])) fun v11 =>
 COND v11 (
 K3 [v11] σ n) (
 bindP (semBin .eql v1 (.s [117, 112, 100, 97, 116, 101])) fun v12 =>
 COND v12 (
 K3 [v12] σ n) (
 bindP (semBin .eql v1 (.s [115, 101, 116])) fun v13 =>
 COND v13 (
 K3 [v13] σ n) (
 bindP (semBin .eql v1 (.s [100, 101, 108, 101, 116, 101])) fun v14 =>
 COND v14 (
 K3 [v14] σ n) (
 bindP (semBin .eql v1 (.s [102, 114, 111, 109])) fun v15 =>
 COND v15 (
 K3 [v15] σ n) (
 bindP (semBin .eql v1 (.s [119, 104, 101, 114, 101])) fun v16 =>
 COND v16 (
 K3 [v16] σ n) (
 bindP (semBin .eql v1 (.s [115, 101, 108, 101, 99, 116])) fun v17 =>
 COND v17 (
 K3 [v17] σ n) (
 bindP (semBin .eql v1 (.s [106, 111, 105, 110])) fun v18 =>
 COND v18 (
 K3 [v18] σ n) (
 bindP (semBin .eql v1 (.s [103, 114, 111, 117, 112])) fun v19 =>
 COND v19 (
 K3 [v19] σ n) (
 bindP (semBin .eql v1 (.s [98, 121])) fun v20 =>
 COND v20 (
 K3 [v20] σ n) (
 bindP (semBin .eql v1 (.s [111, 114, 100, 101, 114])) fun v21 =>
 COND v21 (
 K3 [v21] σ n) (
 bindP (semBin .eql v1 (.s [100, 101, 115, 99])) fun v22 =>
 COND v22 (
 K3 [v22] σ n) (
 bindP (semBin .eql v1 (.s [108, 105, 109, 105, 116])) fun v23 =>
 COND v23 (
 K3 [v23] σ n) (
 bindP (semBin .eql v1 (.s [98, 101, 103, 105, 110])) fun v24 =>
 COND v24 (
 K3 [v24] σ n) (
 bindP (semBin .eql v1 (.s [99, 111, 109, 109, 105, 116])) fun v25 =>
 COND v25 (
 K3 [v25] σ n) (
 bindP (semBin .eql v1 (.s [114, 111, 108, 108, 98, 97, 99, 107])) fun v26 =>
 COND v26 (
 K3 [v26] σ n) (
 bindP (semBin .eql v1 (.s [112, 114, 105, 109, 97, 114, 121])) fun v27 =>
 COND v27 (
 K3 [v27] σ n) (
 bindP (semBin .eql v1 (.s [107, 101, 121])) fun v28 =>
 COND v28 (
 K3 [v28] σ n) (
 bindP (semBin .eql v1 (.s [110, 111, 116])) fun v29 =>
 COND v29 (
 K3 [v29] σ n) (
 bindP (semBin .eql v1 (.s [110, 117, 108, 108])) fun v30 =>
 COND v30 (
 K3 [v30] σ n) (
 bindP (semBin .eql v1 (.s [105, 115])) fun v31 =>
 COND v31 (
 K3 [v31] σ n) (
 bindP (semBin .eql v1 (.s [97, 110, 100])) fun v32 =>
 COND v32 (
 K3 [v32] σ n) (
 bindP (semBin .eql v1 (.s [111, 114])) fun v33 =>
 COND v33 (
 K3 [v33] σ n) (
 bindP (semBin .eql v1 (.s [116, 114, 117, 101])) fun v34 =>
 COND v34 (
 K3 [v34] σ n) (
 bindP (semBin .eql v1 (.s [102, 97, 108, 115, 101])) fun v35 =>
 COND v35 (
 K3 [v35] σ n) (
 bindP (semBin .eql v1 (.s [105, 110, 116])) fun v36 =>
 COND v36 (
 K3 [v36] σ n) (
 bindP (semBin .eql v1 (.s [98, 111, 111, 108])) fun v37 =>
 COND v37 (
 K3 [v37] σ n) (
 bindP (semBin .eql v1 (.s [116, 101, 120, 116])) fun v38 =>
 COND v38 (
 K3 [v38] σ n) (
 bindP (semBin .eql v1 (.s [99, 111, 117, 110, 116])) fun v39 =>
 COND v39 (
 K3 [v39] σ n) (
 bindP (semBin .eql v1 (.s [115, 117, 109])) fun v40 =>
 COND v40 (
 K3 [v40] σ n) (
 bindP (semBin .eql v1 (.s [109, 105, 110])) fun v41 =>
 COND v41 (
 K3 [v41] σ n) (
 bindP (semBin .eql v1 (.s [109, 97, 120])) fun v42 =>
 K3 [v42] σ n))))))))))))))))))))))))))))))))))))))) (fun v2 => R (.pan v2) σ n)
attribute [go_sem] jk_ref03_Keyword1 kc_ref03_Keyword2
def sc_ref03_Keyword : SCode := (.seq (.reg [
   ⟨(some 2), none, (.mv (.c (.sc (.bool false))))⟩]) (.seq (.seq (.reg [
   ⟨(some 3), none, (.mv (.t 0))⟩,
    ⟨(some 4), none, (.call (.c (.fn 183 [])) [(.t 3)])⟩]) (.block 0 (.seqJ [5] [6, 5, 7, 5, 8, 5, 9, 5, 10, 5, 11, 5, 12, 5, 13, 5, 14, 5, 15, 5, 16, 5, 17, 5, 18, 5, 19, 5, 20, 5, 21, 5, 22, 5, 23, 5, 24, 5, 25, 5, 26, 5, 27, 5, 28, 5, 29, 5, 30, 5, 31, 5, 32, 5, 33, 5, 34, 5, 35, 5, 36, 5, 37, 5, 38, 5, 39, 5, 40, 5, 41, 5, 42, 5, 43, 5, 44, 5] (.seq (.reg [
   ⟨(some 6), none, (.bin .eql (.t 4) (.c (.s [99, 114, 101, 97, 116, 101])))⟩,
    ⟨(some 5), none, (.mv (.t 6))⟩]) (.cond (.t 5) .skip (.seq (.reg [
   ⟨(some 7), none, (.bin .eql (.t 4) (.c (.s [116, 97, 98, 108, 101])))⟩,
    ⟨(some 5), none, (.mv (.t 7))⟩]) (.cond (.t 5) .skip (.seq (.reg [
   ⟨(some 8), none, (.bin .eql (.t 4) (.c (.s [105, 110, 100, 101, 120])))⟩,
    ⟨(some 5), none, (.mv (.t 8))⟩]) (.cond (.t 5) .skip (.seq (.reg [
   ⟨(some 9), none, (.bin .eql (.t 4) (.c (.s [111, 110])))⟩,
    ⟨(some 5), none, (.mv (.t 9))⟩]) (.cond (.t 5) .skip (.seq (.reg [
   ⟨(some 10), none, (.bin .eql (.t 4) (.c (.s [100, 114, 111, 112])))⟩,
    ⟨(some 5), none, (.mv (.t 10))⟩]) (.cond (.t 5) .skip (.seq (.reg [
   ⟨(some 11), none, (.bin .eql (.t 4) (.c (.s [105, 110, 115, 101, 114, 116])))⟩,
    ⟨(some 5), none, (.mv (.t 11))⟩]) (.cond (.t 5) .skip (.seq (.reg [
   ⟨(some 12), none, (.bin .eql (.t 4) (.c (.s [105, 110, 116, 111])))⟩,
    ⟨(some 5), none, (.mv (.t 12))⟩]) (.cond (.t 5) .skip (.seq (.reg [
   ⟨(some 13), none, (.bin .eql (.t 4) (.c (.s [118, 97, 108, 117, 101, 115])))⟩,
    ⟨(some 5), none, (.mv (.t 13))⟩]) (.cond (.t 5) .skip (.seq (.reg [
   ⟨(some 14), none, (.bin .eql (.t 4) (.c (.s [117, 112, 100, 97, 116, 101])))⟩,
    ⟨(some 5), none, (.mv (.t 14))⟩]) (.cond (.t 5) .skip (.seq (.reg [
   ⟨(some 15), none, (.bin .eql (.t 4) (.c (.s [115, 101, 116])))⟩,
    ⟨(some 5), none, (.mv (.t 15))⟩]) (.cond (.t 5) .skip (.seq (.reg [
   ⟨(some 16), none, (.bin .eql (.t 4) (.c (.s [100, 101, 108, 101, 116, 101])))⟩,
    ⟨(some 5), none, (.mv (.t 16))⟩]) (.cond (.t 5) .skip (.seq (.reg [
   ⟨(some 17), none, (.bin .eql (.t 4) (.c (.s [102, 114, 111, 109])))⟩,
    ⟨(some 5), none, (.mv (.t 17))⟩]) (.cond (.t 5) .skip (.seq (.reg [
   ⟨(some 18), none, (.bin .eql (.t 4) (.c (.s [119, 104, 101, 114, 101])))⟩,
    ⟨(some 5), none, (.mv (.t 18))⟩]) (.cond (.t 5) .skip (.seq (.reg [
   ⟨(some 19), none, (.bin .eql (.t 4) (.c (.s [115, 101, 108, 101, 99, 116])))⟩,
    ⟨(some 5), none, (.mv (.t 19))⟩]) (.cond (.t 5) .skip (.seq (.reg [
   ⟨(some 20), none, (.bin .eql (.t 4) (.c (.s [106, 111, 105, 110])))⟩,
    ⟨(some 5), none, (.mv (.t 20))⟩]) (.cond (.t 5) .skip (.seq (.reg [
   ⟨(some 21), none, (.bin .eql (.t 4) (.c (.s [103, 114, 111, 117, 112])))⟩,
    ⟨(some 5), none, (.mv (.t 21))⟩]) (.cond (.t 5) .skip (.seq (.reg [
   ⟨(some 22), none, (.bin .eql (.t 4) (.c (.s [98, 121])))⟩,
    ⟨(some 5), none, (.mv (.t 22))⟩]) (.cond (.t 5) .skip (.seq (.reg [
   ⟨(some 23), none, (.bin .eql (.t 4) (.c (.s [111, 114, 100, 101, 114])))⟩,
    ⟨(some 5), none, (.mv (.t 23))⟩]) (.cond (.t 5) .skip (.seq (.reg [
   ⟨(some 24), none, (.bin .eql (.t 4) (.c (.s [100, 101, 115, 99])))⟩,
    ⟨(some 5), none, (.mv (.t 24))⟩]) (.cond (.t 5) .skip (.seq (.reg [
   ⟨(some 25), none, (.bin .eql (.t 4) (.c (.s [108, 105, 109, 105, 116])))⟩,
    ⟨(some 5), none, (.mv (.t 25))⟩]) (.cond (.t 5) .skip (.seq (.reg [
   ⟨(some 26), none, (.bin .eql (.t 4) (.c (.s [98, 101, 103, 105, 110])))⟩,
    ⟨(some 5), none, (.mv (.t 26))⟩]) (.cond (.t 5) .skip (.seq (.reg [
   ⟨(some 27), none, (.bin .eql (.t 4) (.c (.s [99, 111, 109, 109, 105, 116])))⟩,
    ⟨(some 5), none, (.mv (.t 27))⟩]) (.cond (.t 5) .skip (.seq (.reg [
   ⟨(some 28), none, (.bin .eql (.t 4) (.c (.s [114, 111, 108, 108, 98, 97, 99, 107])))⟩,
    ⟨(some 5), none, (.mv (.t 28))⟩]) (.cond (.t 5) .skip (.seq (.reg [
   ⟨(some 29), none, (.bin .eql (.t 4) (.c (.s [112, 114, 105, 109, 97, 114, 121])))⟩,
    ⟨(some 5), none, (.mv (.t 29))⟩]) (.cond (.t 5) .skip (.seq (.reg [
   ⟨(some 30), none, (.bin .eql (.t 4) (.c (.s [107, 101, 121])))⟩,
    ⟨(some 5), none, (.mv (.t 30))⟩]) (.cond (.t 5) .skip (.seq (.reg [
   ⟨(some 31), none, (.bin .eql (.t 4) (.c (.s [110, 111, 116])))⟩,
    ⟨(some 5), none, (.mv (.t 31))⟩]) (.cond (.t 5) .skip (.seq (.reg [
   ⟨(some 32), none, (.bin .eql (.t 4) (.c (.s [110, 117, 108, 108])))⟩,
    ⟨(some 5), none, (.mv (.t 32))⟩]) (.cond (.t 5) .skip (.seq (.reg [
   ⟨(some 33), none, (.bin .eql (.t 4) (.c (.s [105, 115])))⟩,
    ⟨(some 5), none, (.mv (.t 33))⟩]) (.cond (.t 5) .skip (.seq (.reg [
   ⟨(some 34), none, (.bin .eql (.t 4) (.c (.s [97, 110, 100])))⟩,
    ⟨(some 5), none, (.mv (.t 34))⟩]) (.cond (.t 5) .skip (.seq (.reg [
   ⟨(some 35), none, (.bin .eql (.t 4) (.c (.s [111, 114])))⟩,
    ⟨(some 5), none, (.mv (.t 35))⟩]) (.cond (.t 5) .skip (.seq (.reg [
   ⟨(some 36), none, (.bin .eql (.t 4) (.c (.s [116, 114, 117, 101])))⟩,
    ⟨(some 5), none, (.mv (.t 36))⟩]) (.cond (.t 5) .skip (.seq (.reg [
   ⟨(some 37), none, (.bin .eql (.t 4) (.c (.s [102, 97, 108, 115, 101])))⟩,
    ⟨(some 5), none, (.mv (.t 37))⟩]) (.cond (.t 5) .skip (.seq (.reg [
   ⟨(some 38), none, (.bin .eql (.t 4) (.c (.s [105, 110, 116])))⟩,
    ⟨(some 5), none, (.mv (.t 38))⟩]) (.cond (.t 5) .skip (.seq (.reg [
   ⟨(some 39), none, (.bin .eql (.t 4) (.c (.s [98, 111, 111, 108])))⟩,
    ⟨(some 5), none, (.mv (.t 39))⟩]) (.cond (.t 5) .skip (.seq (.reg [
   ⟨(some 40), none, (.bin .eql (.t 4) (.c (.s [116, 101, 120, 116])))⟩,
    ⟨(some 5), none, (.mv (.t 40))⟩]) (.cond (.t 5) .skip (.seq (.reg [
   ⟨(some 41), none, (.bin .eql (.t 4) (.c (.s [99, 111, 117, 110, 116])))⟩,
    ⟨(some 5), none, (.mv (.t 41))⟩]) (.cond (.t 5) .skip (.seq (.reg [
   ⟨(some 42), none, (.bin .eql (.t 4) (.c (.s [115, 117, 109])))⟩,
    ⟨(some 5), none, (.mv (.t 42))⟩]) (.cond (.t 5) .skip (.seq (.reg [
   ⟨(some 43), none, (.bin .eql (.t 4) (.c (.s [109, 105, 110])))⟩,
    ⟨(some 5), none, (.mv (.t 43))⟩]) (.cond (.t 5) .skip (.reg [
   ⟨(some 44), none, (.bin .eql (.t 4) (.c (.s [109, 97, 120])))⟩,
    ⟨(some 5), none, (.mv (.t 44))⟩]))))))))))))))))))))))))))))))))))))))))))))))))))))))))))))))))))))))))))))) (.cond (.t 5) (.seq (.reg [
   ⟨(some 2), none, (.mv (.c (.sc (.bool true))))⟩]) .ret) .skip)))) (.seq (.reg [
   ⟨(some 2), none, (.mv (.c (.sc (.bool false))))⟩]) .ret)))
def sh_ref03_Keyword (a0 : AV) (σ : Hp) (n : Nat) (R : AEnd → Hp → Nat → Prop) : Prop :=
 CALL Try.prog (.fn 183 []) [a0] σ n (kc_ref03_Keyword2 R)
theorem se_ref03_Keyword (a0 : AV) (σ : Hp) (n : Nat) (R : AEnd → Hp → Nat → Prop) : sh_ref03_Keyword a0 σ n R = swp Try.prog sc_ref03_Keyword (retQ [(.t 2)] R) (entry [a0]) σ n := by kernel_rfl
theorem by_ref03_Keyword {a0 : AV} {σ : Hp} {n : Nat} {R : AEnd → Hp → Nat → Prop} (h : sh_ref03_Keyword a0 σ n R) : ConH Try.prog 180 [a0] σ n R := by
  rw [se_ref03_Keyword] at h
  exact conH_of [(.t 2)] (fn := Try.f180) rfl [0, 4, 5, 2] (by kernel_rfl) (by kernel_rfl) (by kernel_rfl) (by kernel_rfl) h
/-- switchback/check.Expr -/
def dk_check_Expr1 (v2 : AV) (v3 : AV) (v4 : AV) (R : AEnd → Hp → Nat → Prop) (σ : Hp) (n : Nat) : Prop :=
 bindP (aLd σ (some 7) v2) fun v41 =>
 bindP (aLd σ none v3) fun v42 =>
 bindP (aLd σ none v4) fun v43 =>
 R (.ret (.tp [v41, v42, v43])) σ n
def dk_check_Expr2 (v2 : AV) (v3 : AV) (v4 : AV) (R : AEnd → Hp → Nat → Prop) (σ : Hp) (n : Nat) : Prop :=
 bindP (aLd σ (some 7) v2) fun v44 =>
 bindP (aLd σ none v3) fun v45 =>
 bindP (aLd σ none v4) fun v46 =>
 R (.ret (.tp [v44, v45, v46])) σ n
def kc_check_Expr3 (v2 : AV) (v3 : AV) (v4 : AV) (R : AEnd → Hp → Nat → Prop) (r : AEnd) (σ : Hp) (n : Nat) : Prop :=
 onEnd r (fun v30 =>
 bindP (aExt v30 0) fun v32 =>
 bindP (aExt v30 1) fun v33 =>
 bindS (hSt σ 7 v2 v32) σ n fun v34 σ n =>
 bindS (hSt σ 1 v3 v33) σ n fun v35 σ n =>
 bindP (aLd σ (some 7) v2) fun v36 =>
 bindP (aLd σ none v3) fun v37 =>
 bindH (hSt σ 7 v2 v36) fun v38 w38 =>
 bindH (hSt (applyW σ w38) 1 v3 v37) fun v39 w39 =>
 bindH (hSt (applyW (applyW σ w38) w39) 1 v4 (.sc (.int .i64 0))) fun v40 w40 =>
 Apt (names []) (rdA v2) (names []) (rdA v3) ∧
 Apt (names []) (rdA v3) (names w38) (names w38) ∧
 ∀ n_, n + 16 * 5 ≤ n_ → (fun n => (fun σ => DEF Try.prog (.fn 50 [v4, v2, v3]) none σ n (dk_check_Expr1 v2 v3 v4 R)) (applyW (applyW (applyW σ w38) w39) w40)) n_) (fun v31 => DEF Try.prog (.fn 50 [v4, v2, v3]) (some v31) σ n (dk_check_Expr2 v2 v3 v4 R))
def kc_check_Expr4 (v2 : AV) (v3 : AV) (v4 : AV) (R : AEnd → Hp → Nat → Prop) (v1 : AV) (a0 : AV) (a2 : AV) (r : AEnd) (σ : Hp) (n : Nat) : Prop :=
 onEnd r (fun v19 =>
 bindP (semBin .neq v19 (.sc (.int .i64 0))) fun v21 =>
 COND v21 (
 bindP (aBuild [(.int .i64 0), (.int .i64 0), (.int .i64 0), (.string ⟨#[]⟩), (.string ⟨#[]⟩), (.string ⟨#[]⟩), (.slice none 0 0)] []) fun v22 =>
 bindS (hSt σ 7 v2 v22) σ n fun v23 σ n =>
 bindS (hSt σ 1 v3 (.sc (.int .i64 0))) σ n fun v24 σ n =>
 bindS (hSt σ 1 v4 v19) σ n fun v25 σ n =>
 bindP (aLd σ (some 7) v2) fun v26 =>
 bindP (aLd σ none v3) fun v27 =>
 bindP (aLd σ none v4) fun v28 =>
 R (.ret (.tp [v26, v27, v28])) σ n) (
 DFN (.fn 50 [v4, v2, v3]) (
 bindP (aLd σ (some 7) v1) fun v29 =>
 CALL Try.prog (.fn 52 []) [a0, v29, a2] σ n (kc_check_Expr3 v2 v3 v4 R)))) (fun v20 => R (.pan v20) σ n)
attribute [go_sem] dk_check_Expr1 dk_check_Expr2 kc_check_Expr3 kc_check_Expr4
def sa_check_Expr : SCode := (.seq (.reg [
   ⟨(some 4), none, (.box (.t 1))⟩,
    ⟨(some 6), none, (.alloc [(.int .i64 0), (.int .i64 0), (.int .i64 0), (.string ⟨#[]⟩), (.string ⟨#[]⟩), (.string ⟨#[]⟩), (.slice none 0 0)])⟩,
    ⟨(some 7), none, (.alloc [(.int .i64 0)])⟩,
    ⟨(some 8), none, (.alloc [(.int .i64 0)])⟩]) (.seq (.seq (.reg [
   ⟨(some 10), none, (.mv (.t 0))⟩,
    ⟨(some 11), none, (.len false (.t 10))⟩,
    ⟨(some 12), none, (.bin .lss (.t 11) (.c (.sc (.int .i64 1))))⟩,
    ⟨(some 13), none, (.mv (.t 12))⟩,
    ⟨(some 14), (some (13, false)), (.mv (.t 0))⟩,
    ⟨(some 15), (some (13, false)), (.len false (.t 14))⟩,
    ⟨(some 16), (some (13, false)), (.bin .gtr (.t 15) (.c (.sc (.int .i64 2))))⟩,
    ⟨(some 17), none, (.pick (.t 13) (.c (.sc (.bool true))) (.t 16))⟩]) (.cond (.t 17) (.seq (.reg [
   ⟨(some 18), none, (.build [(.int .i64 0), (.int .i64 0), (.int .i64 0), (.string ⟨#[]⟩), (.string ⟨#[]⟩), (.string ⟨#[]⟩), (.slice none 0 0)] [])⟩,
    ⟨none, none, (.st 7 (.t 6) (.t 18))⟩,
    ⟨none, none, (.st 1 (.t 7) (.c (.sc (.int .i64 0))))⟩,
    ⟨none, none, (.st 1 (.t 8) (.c (.sc (.int .i64 3))))⟩]) .ret) .skip)) (.seq (.seq (.reg [
   ⟨(some 19), none, (.ld (some 7) (.t 4))⟩,
    ⟨(some 20), none, (.call (.c (.fn 49 [])) [(.t 19)])⟩,
    ⟨(some 9), none, (.mv (.t 20))⟩]) (.seq (.reg [
   ⟨(some 21), none, (.mv (.t 9))⟩,
    ⟨(some 22), none, (.bin .neq (.t 21) (.c (.sc (.int .i64 0))))⟩]) (.cond (.t 22) (.seq (.reg [
   ⟨(some 23), none, (.build [(.int .i64 0), (.int .i64 0), (.int .i64 0), (.string ⟨#[]⟩), (.string ⟨#[]⟩), (.string ⟨#[]⟩), (.slice none 0 0)] [])⟩,
    ⟨(some 24), none, (.mv (.t 9))⟩,
    ⟨none, none, (.st 7 (.t 6) (.t 23))⟩,
    ⟨none, none, (.st 1 (.t 7) (.c (.sc (.int .i64 0))))⟩,
    ⟨none, none, (.st 1 (.t 8) (.t 24))⟩]) .ret) .skip))) (.reg [
   ⟨(some 25), none, (.mkf 50 [(.t 8), (.t 6), (.t 7)])⟩]))))
def sb_check_Expr : SCode := (.seq (.reg [
   ⟨(some 27), none, (.mv (.t 0))⟩,
    ⟨(some 28), none, (.ld (some 7) (.t 4))⟩,
    ⟨(some 29), none, (.mv (.t 2))⟩,
    ⟨(some 30), none, (.call (.c (.fn 52 [])) [(.t 27), (.t 28), (.t 29)])⟩,
    ⟨(some 26), none, (.mv (.t 30))⟩,
    ⟨(some 31), none, (.ext (.t 26) 0)⟩,
    ⟨(some 32), none, (.ext (.t 26) 1)⟩,
    ⟨none, none, (.st 7 (.t 6) (.t 31))⟩,
    ⟨none, none, (.st 1 (.t 7) (.t 32))⟩]) (.seq (.regD [(⟨(some 33), none, (.ld (some 7) (.t 6))⟩, []), (⟨(some 34), none, (.ld none (.t 7))⟩, []), (⟨none, none, (.st 7 (.t 6) (.t 33))⟩, [0]), (⟨none, none, (.st 1 (.t 7) (.t 34))⟩, [1, 2, 0]), (⟨none, none, (.st 1 (.t 8) (.c (.sc (.int .i64 0))))⟩, [3, 1, 2, 0])]) .ret))
def sh_check_Expr (a0 a1 a2 : AV) (σ : Hp) (n : Nat) (R : AEnd → Hp → Nat → Prop) : Prop :=
 bindS (hBox n a1) σ n fun v1 σ n =>
 bindS (hAlloc n [(.int .i64 0), (.int .i64 0), (.int .i64 0), (.string ⟨#[]⟩), (.string ⟨#[]⟩), (.string ⟨#[]⟩), (.slice none 0 0)]) σ n fun v2 σ n =>
 bindS (hAlloc n [(.int .i64 0)]) σ n fun v3 σ n =>
 bindS (hAlloc n [(.int .i64 0)]) σ n fun v4 σ n =>
 bindP (aLen false a0) fun v5 => bnd σ a0 →
 bindP (semBin .lss v5 (.sc (.int .i64 1))) fun v6 =>
 guardP v6 false (some a0) fun v7 =>
 guardP v6 false (aLen false v7) fun v8 =>
 guardP v6 false (semBin .gtr v8 (.sc (.int .i64 2))) fun v9 =>
 bindP (aPick v6 (.sc (.bool true)) v9) fun v10 =>
 COND v10 (
 bindP (aBuild [(.int .i64 0), (.int .i64 0), (.int .i64 0), (.string ⟨#[]⟩), (.string ⟨#[]⟩), (.string ⟨#[]⟩), (.slice none 0 0)] []) fun v11 =>
 bindS (hSt σ 7 v2 v11) σ n fun v12 σ n =>
 bindS (hSt σ 1 v3 (.sc (.int .i64 0))) σ n fun v13 σ n =>
 bindS (hSt σ 1 v4 (.sc (.int .i64 3))) σ n fun v14 σ n =>
 bindP (aLd σ (some 7) v2) fun v15 =>
 bindP (aLd σ none v3) fun v16 =>
 bindP (aLd σ none v4) fun v17 =>
 R (.ret (.tp [v15, v16, v17])) σ n) (
 bindP (aLd σ (some 7) v1) fun v18 =>
 CALL Try.prog (.fn 49 []) [v18] σ n (kc_check_Expr4 v2 v3 v4 R v1 a0 a2))
theorem se_check_Expr (a0 a1 a2 : AV) (σ : Hp) (n : Nat) (R : AEnd → Hp → Nat → Prop) : sh_check_Expr a0 a1 a2 σ n R = swpD Try.prog sa_check_Expr (.t 25) sb_check_Expr [(.c 6 (some 7)), (.c 7 none), (.c 8 none)] R (entry [a0, a1, a2]) σ n := by kernel_rfl
theorem by_check_Expr {a0 a1 a2 : AV} {σ : Hp} {n : Nat} {R : AEnd → Hp → Nat → Prop} (h : sh_check_Expr a0 a1 a2 σ n R) : ConH Try.prog 14 [a0, a1, a2] σ n R := by
  rw [se_check_Expr] at h
  exact conH_of_defer [(.c 6 (some 7)), (.c 7 none), (.c 8 none)] (fn := Try.f14) rfl [1, 17, 22, 9, 0, 4, 2, 6, 7, 8] (by kernel_rfl) (by kernel_rfl) (by kernel_rfl) (by kernel_rfl) h
/-- switchback/check.Expr$1 -/
def kc_check_Expr_c11 (a1 : AV) (a2 : AV) (Rr : Hp → Nat → Prop) (r : AEnd) (σ : Hp) (n : Nat) : Prop :=
 onEnd r (fun v1 =>
 COND v1 (
 bindP (aBuild [(.int .i64 0), (.int .i64 0), (.int .i64 0), (.string ⟨#[]⟩), (.string ⟨#[]⟩), (.string ⟨#[]⟩), (.slice none 0 0)] []) fun v3 =>
 bindS (hSt σ 7 a1 v3) σ n fun v4 σ n =>
 bindS (hSt σ 1 a2 (.sc (.int .i64 0))) σ n fun v5 σ n =>
 Rr σ n) (
 Rr σ n)) (fun v2 => False)
attribute [go_sem] kc_check_Expr_c11
def sc_check_Expr_c1 : SCode := (.seq (.reg [
   ⟨(some 4), none, (.call (.c (.fn 51 [])) [(.t 3), (.t 0)])⟩]) (.cond (.t 4) (.reg [
   ⟨(some 5), none, (.build [(.int .i64 0), (.int .i64 0), (.int .i64 0), (.string ⟨#[]⟩), (.string ⟨#[]⟩), (.string ⟨#[]⟩), (.slice none 0 0)] [])⟩,
    ⟨none, none, (.st 7 (.t 1) (.t 5))⟩,
    ⟨none, none, (.st 1 (.t 2) (.c (.sc (.int .i64 0))))⟩]) .skip))
def sh_check_Expr_c1 (a0 a1 a2 a3 : AV) (σ : Hp) (n : Nat) (Rr : Hp → Nat → Prop) : Prop :=
 CALL Try.prog (.fn 51 []) [a3, a0] σ n (kc_check_Expr_c11 a1 a2 Rr)
theorem se_check_Expr_c1 (a0 a1 a2 a3 : AV) (σ : Hp) (n : Nat) (R : Hp → Nat → Prop) : sh_check_Expr_c1 a0 a1 a2 a3 σ n R = swp Try.prog sc_check_Expr_c1 (recQ R) (put (entry [a0, a1, a2]) (some 3) a3) σ n := by kernel_rfl
theorem by_check_Expr_c1 {a0 a1 a2 : AV} {pv : Option Value} {σ : Hp} {n : Nat} {R : Hp → Nat → Prop} (h : sh_check_Expr_c1 a0 a1 a2 (recV pv) σ n R) : ConR Try.prog 50 [a0, a1, a2] σ n pv R := by
  rw [se_check_Expr_c1] at h
  exact conR_of (fn := Try.f50) rfl [3, 0, 4, 1, 2] (by kernel_rfl) (by kernel_rfl) (by kernel_rfl) rfl h
/-- switchback/syntax.CheckExpr -/
def dk_syntax_CheckExpr1 (v2 : AV) (R : AEnd → Hp → Nat → Prop) (σ : Hp) (n : Nat) : Prop :=
 bindP (aLd σ none v2) fun v8 =>
 R (.ret v8) σ n
def dk_syntax_CheckExpr2 (v2 : AV) (R : AEnd → Hp → Nat → Prop) (σ : Hp) (n : Nat) : Prop :=
 bindP (aLd σ none v2) fun v9 =>
 R (.ret v9) σ n
def kc_syntax_CheckExpr3 (v2 : AV) (R : AEnd → Hp → Nat → Prop) (r : AEnd) (σ : Hp) (n : Nat) : Prop :=
 onEnd r (fun v5 =>
 bindS (hSt σ 1 v2 (.sc (.int .i64 0))) σ n fun v7 σ n =>
 DEF Try.prog (.fn 94 [v2]) none σ n (dk_syntax_CheckExpr1 v2 R)) (fun v6 => DEF Try.prog (.fn 94 [v2]) (some v6) σ n (dk_syntax_CheckExpr2 v2 R))
attribute [go_sem] dk_syntax_CheckExpr1 dk_syntax_CheckExpr2 kc_syntax_CheckExpr3
def sa_syntax_CheckExpr : SCode := (.seq (.reg [
   ⟨(some 1), none, (.box (.t 0))⟩,
    ⟨(some 2), none, (.alloc [(.int .i64 0)])⟩]) (.reg [
   ⟨(some 4), none, (.mkf 94 [(.t 2)])⟩]))
def sb_syntax_CheckExpr : SCode := (.seq (.reg [
   ⟨(some 3), none, (.alloc [(.int .i64 0)])⟩]) (.seq (.reg [
   ⟨(some 5), none, (.ld (some 7) (.t 1))⟩,
    ⟨(some 6), none, (.call (.c (.fn 96 [])) [(.t 3), (.t 5), (.c (.sc (.int .i64 1)))])⟩]) (.seq (.reg [
   ⟨none, none, (.st 1 (.t 2) (.c (.sc (.int .i64 0))))⟩]) .ret)))
def sh_syntax_CheckExpr (a0 : AV) (σ : Hp) (n : Nat) (R : AEnd → Hp → Nat → Prop) : Prop :=
 bindS (hBox n a0) σ n fun v1 σ n =>
 bindS (hAlloc n [(.int .i64 0)]) σ n fun v2 σ n =>
 DFN (.fn 94 [v2]) (
 bindS (hAlloc n [(.int .i64 0)]) σ n fun v3 σ n =>
 bindP (aLd σ (some 7) v1) fun v4 =>
 CALL Try.prog (.fn 96 []) [v3, v4, (.sc (.int .i64 1))] σ n (kc_syntax_CheckExpr3 v2 R))
theorem se_syntax_CheckExpr (a0 : AV) (σ : Hp) (n : Nat) (R : AEnd → Hp → Nat → Prop) : sh_syntax_CheckExpr a0 σ n R = swpD Try.prog sa_syntax_CheckExpr (.t 4) sb_syntax_CheckExpr [(.c 2 none)] R (entry [a0]) σ n := by kernel_rfl
theorem by_syntax_CheckExpr {a0 : AV} {σ : Hp} {n : Nat} {R : AEnd → Hp → Nat → Prop} (h : sh_syntax_CheckExpr a0 σ n R) : ConH Try.prog 49 [a0] σ n R := by
  rw [se_syntax_CheckExpr] at h
  exact conH_of_defer [(.c 2 none)] (fn := Try.f49) rfl [0, 1, 3, 2] (by kernel_rfl) (by kernel_rfl) (by kernel_rfl) (by kernel_rfl) h
/-- switchback/syntax.CheckExpr$1 -/
def kc_syntax_CheckExpr_c11 (Rr : Hp → Nat → Prop) (r : AEnd) (σ : Hp) (n : Nat) : Prop :=
 onEnd r (fun v1 =>
 Rr σ n) (fun v2 => False)
attribute [go_sem] kc_syntax_CheckExpr_c11
def sc_syntax_CheckExpr_c1 : SCode := (.reg [
   ⟨(some 2), none, (.call (.c (.fn 95 [])) [(.t 1), (.t 0)])⟩])
def sh_syntax_CheckExpr_c1 (a0 a1 : AV) (σ : Hp) (n : Nat) (Rr : Hp → Nat → Prop) : Prop :=
 CALL Try.prog (.fn 95 []) [a1, a0] σ n (kc_syntax_CheckExpr_c11 Rr)
theorem se_syntax_CheckExpr_c1 (a0 a1 : AV) (σ : Hp) (n : Nat) (R : Hp → Nat → Prop) : sh_syntax_CheckExpr_c1 a0 a1 σ n R = swp Try.prog sc_syntax_CheckExpr_c1 (recQ R) (put (entry [a0]) (some 1) a1) σ n := by kernel_rfl
theorem by_syntax_CheckExpr_c1 {a0 : AV} {pv : Option Value} {σ : Hp} {n : Nat} {R : Hp → Nat → Prop} (h : sh_syntax_CheckExpr_c1 a0 (recV pv) σ n R) : ConR Try.prog 94 [a0] σ n pv R := by
  rw [se_syntax_CheckExpr_c1] at h
  exact conR_of (fn := Try.f94) rfl [1, 0] (by kernel_rfl) (by kernel_rfl) (by kernel_rfl) rfl h
/-- switchback/switchbackref03.Lower -/
def jk_ref03_Lower1 (s1 : List AV) (K1 : List AV → Hp → Nat → Prop) (v3 : AV) (s5 : List AV) (σ : Hp) (n : Nat) : Prop :=
 bindS (hBsl σ n 1 [(.int .u8 0)] 1 [(0, (s5.getD 1 .any))]) σ n fun v6 σ n =>
 bindS (hApp σ n 1 1 (s1.getD 3 .any) v6) σ n fun v7 σ n =>
 bindP (semBin .add (s1.getD 4 .any) (.sc (.int .i64 1))) fun v8 =>
 K1 [v3, (s5.getD 0 .any), (s5.getD 1 .any), v7, v8] σ n
def lb_ref03_Lower2 (a0 : AV) (R : AEnd → Hp → Nat → Prop) (K1 : List AV → Hp → Nat → Prop) (s1 : List AV) (σ : Hp) (n : Nat) : Prop :=
 bindP (aLen true a0) fun v2 => bnd σ a0 →
 bindP (semBin .lss (s1.getD 4 .any) v2) fun v3 =>
 COND v3 (
 bindP (aIstr a0 (s1.getD 4 .any)) fun v4 =>
 JOIN (jk_ref03_Lower1 s1 K1 v3) fun K5 =>
 bindP (semBin .geq v4 (.sc (.int .u8 65))) fun v9 =>
 guardP v9 true (some v4) fun v10 =>
 guardP v9 true (semBin .leq v10 (.sc (.int .u8 90))) fun v11 =>
 bindP (aPick v9 v11 (.sc (.bool false))) fun v12 =>
 COND v12 (
 bindP (semBin .add v4 (.sc (.int .u8 32))) fun v13 =>
 K5 [v12, v13] σ n) (
 K5 [v12, v4] σ n)) (
 bindP (aCvb σ (s1.getD 3 .any)) fun v14 =>
 R (.ret v14) σ n)
attribute [go_sem] jk_ref03_Lower1 lb_ref03_Lower2
def sc_ref03_Lower : SCode := (.seq (.reg [
   ⟨(some 2), none, (.mv (.c (.s [])))⟩]) (.seq (.reg [
   ⟨(some 3), none, (.mv (.c .em))⟩]) (.seq (.seq (.reg [
   ⟨(some 4), none, (.mv (.c (.sc (.int .i64 0))))⟩]) (.block 0 (.loop [9, 20, 5, 3, 4] [6, 7, 8, 9, 12, 13, 14, 5, 15, 16, 17, 18, 19, 20, 21, 22, 5, 23, 24, 25, 26, 3, 10, 11, 4] (.seq (.seq (.reg [
   ⟨(some 6), none, (.mv (.t 4))⟩,
    ⟨(some 7), none, (.mv (.t 0))⟩,
    ⟨(some 8), none, (.len true (.t 7))⟩,
    ⟨(some 9), none, (.bin .lss (.t 6) (.t 8))⟩]) (.cond (.t 9) .skip (.exit 0))) (.seq (.block 1 (.seq (.reg [
   ⟨(some 12), none, (.mv (.t 0))⟩,
    ⟨(some 13), none, (.mv (.t 4))⟩,
    ⟨(some 14), none, (.istr (.t 12) (.t 13))⟩,
    ⟨(some 5), none, (.mv (.t 14))⟩]) (.seqJ [20, 5] [15, 16, 17, 18, 19, 20, 21, 22, 5] (.seq (.reg [
   ⟨(some 15), none, (.mv (.t 5))⟩,
    ⟨(some 16), none, (.bin .geq (.t 15) (.c (.sc (.int .u8 65))))⟩,
    ⟨(some 17), none, (.mv (.t 16))⟩,
    ⟨(some 18), (some (17, true)), (.mv (.t 5))⟩,
    ⟨(some 19), (some (17, true)), (.bin .leq (.t 18) (.c (.sc (.int .u8 90))))⟩,
    ⟨(some 20), none, (.pick (.t 17) (.t 19) (.c (.sc (.bool false))))⟩]) (.cond (.t 20) (.reg [
   ⟨(some 21), none, (.mv (.t 5))⟩,
    ⟨(some 22), none, (.bin .add (.t 21) (.c (.sc (.int .u8 32))))⟩,
    ⟨(some 5), none, (.mv (.t 22))⟩]) .skip)) (.reg [
   ⟨(some 23), none, (.mv (.t 3))⟩,
    ⟨(some 24), none, (.mv (.t 5))⟩,
    ⟨(some 25), none, (.bsl 1 [(.int .u8 0)] 1 [(0, (.t 24))])⟩,
    ⟨(some 26), none, (.app 1 1 (.t 23) (.t 25))⟩,
    ⟨(some 3), none, (.mv (.t 26))⟩])))) (.reg [
   ⟨(some 10), none, (.mv (.t 4))⟩,
    ⟨(some 11), none, (.bin .add (.t 10) (.c (.sc (.int .i64 1))))⟩,
    ⟨(some 4), none, (.mv (.t 11))⟩])))))) (.seq (.reg [
   ⟨(some 27), none, (.mv (.t 3))⟩,
    ⟨(some 28), none, (.cvb (.t 27))⟩,
    ⟨(some 2), none, (.mv (.t 28))⟩]) .ret))))
def sh_ref03_Lower (a0 : AV) (σ : Hp) (n : Nat) (R : AEnd → Hp → Nat → Prop) : Prop :=
 LOOP (lb_ref03_Lower2 a0 R) [(.tp []), (.tp []), (.tp []), .em, (.sc (.int .i64 0))] σ n
theorem se_ref03_Lower (a0 : AV) (σ : Hp) (n : Nat) (R : AEnd → Hp → Nat → Prop) : sh_ref03_Lower a0 σ n R = swp Try.prog sc_ref03_Lower (retQ [(.t 2)] R) (entry [a0]) σ n := by kernel_rfl
theorem by_ref03_Lower {a0 : AV} {σ : Hp} {n : Nat} {R : AEnd → Hp → Nat → Prop} (h : sh_ref03_Lower a0 σ n R) : ConH Try.prog 183 [a0] σ n R := by
  rw [se_ref03_Lower] at h
  exact conH_of [(.t 2)] (fn := Try.f183) rfl [9, 0, 20, 5, 4, 3, 2] (by kernel_rfl) (by kernel_rfl) (by kernel_rfl) (by kernel_rfl) h
end Go.Proofs.Ytlhnncmflnjinaa
