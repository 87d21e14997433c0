/- Packed by a program of this repo: Sh4b. -/
import Derived.Test.YtodoejfkjimeaaaDoorKSMs
import Derived.Test.YtodoejfkjimeaaaDoorProg
set_option linter.unusedVariables false
set_option maxRecDepth 8000
namespace Go.Proofs.YtodoejfkjimeaaaDoor
open Go Am
def kd_law04_SyntaxSame1 (Kd : AV → Wr → List Nat → Prop) (v25 : AV) (v16 : AV) (v9 : AV) (v10 : AV) (v1 : AV) (w19 : Wr) (d19 : List Nat) (v2 : AV) (σ : Hp) (n : Nat) (R : AEnd → Hp → Nat → Prop) (r : AEnd) (w30 : Wr) (d30 : List Nat) : Prop :=
 onEnd r (fun v30 =>
 Kd v30 w30 d30) (fun v31 => guardP v25 true (some v16) fun v32 =>
 Apt (names []) (rdA v9) (names []) (rdA v10) ∧
 Apt (names []) (rdA v9) (names []) (rdA v1) ∧
 Apt (names []) (rdA v10) (names []) (rdA v1) ∧
 Apt (names w19) d19 (names []) (rdA v1) ∧
 Apt (names []) (rdA v9) (names []) (rdA v2) ∧
 Apt (names []) (rdA v10) (names []) (rdA v2) ∧
 Apt (names w19) d19 (names []) (rdA v2) ∧
 Apt (names []) (rdA v1) (names []) (rdA v2) ∧
 Apt (names []) (rdA v9) (names []) (rdA v1) ∧
 Apt (names []) (rdA v9) (names []) d30 ∧
 ∀ (fr_ : Regs) σ n, R (.pan v31) σ n)
def kd_law04_SyntaxSame2 (Kd : AV → Wr → List Nat → Prop) (v25 : AV) (v16 : AV) (v9 : AV) (v10 : AV) (v1 : AV) (w19 : Wr) (d19 : List Nat) (v2 : AV) (w29 : Wr) (d29 : List Nat) (σ : Hp) (n : Nat) (R : AEnd → Hp → Nat → Prop) (r : AEnd) (w34 : Wr) (d34 : List Nat) : Prop :=
 onEnd r (fun v34 =>
 Kd v34 w34 d34) (fun v35 => guardP v25 true (some v16) fun v36 =>
 Apt (names []) (rdA v9) (names []) (rdA v10) ∧
 Apt (names []) (rdA v9) (names []) (rdA v1) ∧
 Apt (names []) (rdA v10) (names []) (rdA v1) ∧
 Apt (names w19) d19 (names []) (rdA v1) ∧
 Apt (names []) (rdA v9) (names []) (rdA v2) ∧
 Apt (names []) (rdA v10) (names []) (rdA v2) ∧
 Apt (names w19) d19 (names []) (rdA v2) ∧
 Apt (names []) (rdA v1) (names []) (rdA v2) ∧
 Apt (names []) (rdA v9) (names []) (rdA v1) ∧
 Apt (names []) (rdA v9) (names w29) d29 ∧
 ∀ (fr_ : Regs) σ n, R (.pan v35) σ n)
def kd_law04_SyntaxSame3 (Kd : AV → Wr → List Nat → Prop) (v9 : AV) (v10 : AV) (v1 : AV) (w19 : Wr) (d19 : List Nat) (v2 : AV) (w29 : Wr) (d29 : List Nat) (σ : Hp) (n : Nat) (R : AEnd → Hp → Nat → Prop) (r : AEnd) (w42 : Wr) (d42 : List Nat) : Prop :=
 onEnd r (fun v42 =>
 Kd v42 w42 d42) (fun v43 => Apt (names []) (rdA v9) (names []) (rdA v10) ∧
 Apt (names []) (rdA v9) (names []) (rdA v1) ∧
 Apt (names []) (rdA v10) (names []) (rdA v1) ∧
 Apt (names w19) d19 (names []) (rdA v1) ∧
 Apt (names []) (rdA v9) (names []) (rdA v2) ∧
 Apt (names []) (rdA v10) (names []) (rdA v2) ∧
 Apt (names w19) d19 (names []) (rdA v2) ∧
 Apt (names []) (rdA v1) (names []) (rdA v2) ∧
 Apt (names []) (rdA v9) (names []) (rdA v1) ∧
 Apt (names []) (rdA v9) (names w29) d29 ∧
 ∀ (fr_ : Regs) σ n, R (.pan v43) σ n)
def kd_law04_SyntaxSame4 (v19 : AV) (σ : Hp) (w19 : Wr) (v9 : AV) (v1 : AV) (n : Nat) (v16 : AV) (v10 : AV) (d19 : List Nat) (v2 : AV) (R : AEnd → Hp → Nat → Prop) (r : AEnd) (w23 : Wr) (d23 : List Nat) : Prop :=
 onEnd r (fun v23 =>
 bindP (aEqb false v19 v23) fun v25 =>
 guardP v25 true (aLd (applyW (applyW σ w19) w23) (some 14) v9) fun v27 =>
 guardP v25 true (aLd (applyW (applyW σ w19) w23) (some 14) v1) fun v28 =>
 guardD v25 true (fun Kd => callD Tryd.prog (.fn 17 []) [v28] (applyW (applyW σ w19) w23) (n + 16 * 10) (kd_law04_SyntaxSame1 Kd v25 v16 v9 v10 v1 w19 d19 v2 σ n R)) fun v29 w29 d29 =>
 guardD v25 true (fun Kd => callD Tryd.prog (.fn 19 []) [v27, v29] (applyW (applyW (applyW σ w19) w23) w29) (n + 16 * 11) (kd_law04_SyntaxSame2 Kd v25 v16 v9 v10 v1 w19 d19 v2 w29 d29 σ n R)) fun v33 w33 d33 =>
 guardP v25 true (some v16) fun v37 =>
 guardP v25 true (aEqb false v33 v37) fun v38 =>
 bindP (aPick v25 v38 (.sc (.bool false))) fun v39 =>
 guardD v39 true (fun Kd => callD Tryd.prog (.fn 9 []) [] (applyW (applyW (applyW (applyW σ w19) w23) w29) w33) (n + 16 * 16) (kd_law04_SyntaxSame3 Kd v9 v10 v1 w19 d19 v2 w29 d29 σ n R)) fun v41 w41 d41 =>
 bindP (aPick v39 v41 (.sc (.bool false))) fun v44 =>
 Apt (names []) (rdA v9) (names []) (rdA v10) ∧
 Apt (names []) (rdA v9) (names []) (rdA v1) ∧
 Apt (names []) (rdA v10) (names []) (rdA v1) ∧
 Apt (names w19) d19 (names []) (rdA v1) ∧
 Apt (names []) (rdA v9) (names []) (rdA v2) ∧
 Apt (names []) (rdA v10) (names []) (rdA v2) ∧
 Apt (names w19) d19 (names []) (rdA v2) ∧
 Apt (names []) (rdA v1) (names []) (rdA v2) ∧
 Apt (names []) (rdA v9) (names []) (rdA v1) ∧
 Apt (names []) (rdA v9) (names w29) d29 ∧
 ∀ n_, n + 16 * 19 ≤ n_ → (fun n => (fun σ => R (.ret v44) σ n) (applyW (applyW (applyW (applyW (applyW σ w19) w23) w29) w33) w41)) n_) (fun v24 => Apt (names []) (rdA v9) (names []) (rdA v10) ∧
 Apt (names []) (rdA v9) (names []) (rdA v1) ∧
 Apt (names []) (rdA v10) (names []) (rdA v1) ∧
 Apt (names w19) d19 (names []) (rdA v1) ∧
 Apt (names []) (rdA v9) (names []) (rdA v2) ∧
 Apt (names []) (rdA v10) (names []) (rdA v2) ∧
 Apt (names w19) d19 (names []) (rdA v2) ∧
 Apt (names []) (rdA v1) (names []) (rdA v2) ∧
 Apt (names []) [] (names []) [] ∧
 Apt (names []) [] (names []) [] ∧
 ∀ (fr_ : Regs) σ n, R (.pan v24) σ n)
def kd_law04_SyntaxSame5 (σ : Hp) (v1 : AV) (v2 : AV) (n : Nat) (v9 : AV) (v16 : AV) (v10 : AV) (R : AEnd → Hp → Nat → Prop) (r : AEnd) (w19 : Wr) (d19 : List Nat) : Prop :=
 onEnd r (fun v19 =>
 bindP (aLd σ (some 14) v1) fun v21 =>
 bindP (aLd σ (some 14) v2) fun v22 =>
 callD Tryd.prog (.fn 20 []) [v21, v22] (applyW σ w19) (n + 16 * 5) (kd_law04_SyntaxSame4 v19 σ w19 v9 v1 n v16 v10 d19 v2 R)) (fun v20 => bindP (aLd σ (some 14) v1) fun v46 =>
 bindP (aLd σ (some 14) v2) fun v47 =>
 Apt (names []) (rdA v9) (names []) (rdA v10) ∧
 Apt (names []) (rdA v9) (names []) (rdA v1) ∧
 Apt (names []) (rdA v10) (names []) (rdA v1) ∧
 Apt (names []) d19 (names []) (rdA v1) ∧
 Apt (names []) (rdA v9) (names []) (rdA v2) ∧
 Apt (names []) (rdA v10) (names []) (rdA v2) ∧
 Apt (names []) d19 (names []) (rdA v2) ∧
 Apt (names []) (rdA v1) (names []) (rdA v2) ∧
 Apt (names []) [] (names []) [] ∧
 Apt (names []) [] (names []) [] ∧
 ∀ (fr_ : Regs) σ n, R (.pan v20) σ n)
def kc_law04_SyntaxSame6 (v9 : AV) (v10 : AV) (v1 : AV) (v2 : AV) (R : AEnd → Hp → Nat → Prop) (r : AEnd) (σ : Hp) (n : Nat) : Prop :=
 onEnd r (fun v14 =>
 bindP (semBin .eql v14 (.sc (.int .i64 0))) fun v16 =>
 bindP (aLd σ (some 14) v9) fun v17 =>
 bindP (aLd σ (some 14) v10) fun v18 =>
 callD Tryd.prog (.fn 19 []) [v17, v18] σ (n + 16 * 2) (kd_law04_SyntaxSame5 σ v1 v2 n v9 v16 v10 R)) (fun v15 => R (.pan v15) σ n)
def kd_law04_SyntaxSame7 (n : Nat) (σ : Hp) (w4 : Wr) (v4 : AV) (v1 : AV) (v2 : AV) (d4 : List Nat) (R : AEnd → Hp → Nat → Prop) (r : AEnd) (w7 : Wr) (d7 : List Nat) : Prop :=
 onEnd r (fun v7 =>
 bindH (hAlloc (n + 16 * 4) [(.int .i64 0), (.string ⟨#[]⟩), (.slice none 0 0), (.string ⟨#[]⟩), (.string ⟨#[]⟩), (.slice none 0 0), (.slice none 0 0), (.slice none 0 0), (.string ⟨#[]⟩), (.slice none 0 0), (.slice none 0 0), (.slice none 0 0), (.slice none 0 0), (.int .i64 0)]) fun v9 w9 =>
 bindH (hAlloc (n + 16 * 5) [(.int .i64 0), (.string ⟨#[]⟩), (.slice none 0 0), (.string ⟨#[]⟩), (.string ⟨#[]⟩), (.slice none 0 0), (.slice none 0 0), (.slice none 0 0), (.string ⟨#[]⟩), (.slice none 0 0), (.slice none 0 0), (.slice none 0 0), (.slice none 0 0), (.int .i64 0)]) fun v10 w10 =>
 bindH (hSt (applyW (applyW (applyW (applyW σ w4) w7) w9) w10) 14 v9 v4) fun v11 w11 =>
 bindH (hSt (applyW (applyW (applyW (applyW (applyW σ w4) w7) w9) w10) w11) 14 v10 v7) fun v12 w12 =>
 Apt (names []) (rdA v1) (names []) (rdA v2) ∧
 Apt (names w4) d4 (names []) (rdA v2) ∧
 Apt (names []) (rdA v1) (names w9) (names w9) ∧
 Apt (names w4) d4 (names w9) (names w9) ∧
 Apt (names []) (rdA v2) (names w9) (names w9) ∧
 Apt (names w7) d7 (names w9) (names w9) ∧
 Apt (names []) (rdA v1) (names w10) (names w10) ∧
 Apt (names w4) d4 (names w10) (names w10) ∧
 Apt (names []) (rdA v2) (names w10) (names w10) ∧
 Apt (names w7) d7 (names w10) (names w10) ∧
 Apt (names w9) (names w9) (names w10) (names w10) ∧
 ∀ n_, n + 16 * 8 ≤ n_ → (fun n => (fun σ => bindP (aLd σ (some 14) v1) fun v13 =>
 CALL Tryd.prog (.fn 18 []) [v13] σ n (kc_law04_SyntaxSame6 v9 v10 v1 v2 R)) (applyW (applyW (applyW (applyW (applyW (applyW σ w4) w7) w9) w10) w11) w12)) n_) (fun v8 => bindH (hAlloc (n + 16 * 4) [(.int .i64 0), (.string ⟨#[]⟩), (.slice none 0 0), (.string ⟨#[]⟩), (.string ⟨#[]⟩), (.slice none 0 0), (.slice none 0 0), (.slice none 0 0), (.string ⟨#[]⟩), (.slice none 0 0), (.slice none 0 0), (.slice none 0 0), (.slice none 0 0), (.int .i64 0)]) fun v48 w48 =>
 bindH (hAlloc (n + 16 * 5) [(.int .i64 0), (.string ⟨#[]⟩), (.slice none 0 0), (.string ⟨#[]⟩), (.string ⟨#[]⟩), (.slice none 0 0), (.slice none 0 0), (.slice none 0 0), (.string ⟨#[]⟩), (.slice none 0 0), (.slice none 0 0), (.slice none 0 0), (.slice none 0 0), (.int .i64 0)]) fun v49 w49 =>
 Apt (names []) (rdA v1) (names []) (rdA v2) ∧
 Apt (names w4) d4 (names []) (rdA v2) ∧
 Apt (names []) (rdA v1) (names w48) (names w48) ∧
 Apt (names w4) d4 (names w48) (names w48) ∧
 Apt (names []) (rdA v2) (names w48) (names w48) ∧
 Apt (names []) d7 (names w48) (names w48) ∧
 Apt (names []) (rdA v1) (names w49) (names w49) ∧
 Apt (names w4) d4 (names w49) (names w49) ∧
 Apt (names []) (rdA v2) (names w49) (names w49) ∧
 Apt (names []) d7 (names w49) (names w49) ∧
 Apt (names w48) (names w48) (names w49) (names w49) ∧
 ∀ (fr_ : Regs) σ n, R (.pan v8) σ n)
def kd_law04_SyntaxSame8 (σ : Hp) (v2 : AV) (n : Nat) (v1 : AV) (R : AEnd → Hp → Nat → Prop) (r : AEnd) (w4 : Wr) (d4 : List Nat) : Prop :=
 onEnd r (fun v4 =>
 bindP (aLd σ (some 14) v2) fun v6 =>
 callD Tryd.prog (.fn 17 []) [v6] (applyW σ w4) (n + 16 * 3) (kd_law04_SyntaxSame7 n σ w4 v4 v1 v2 d4 R)) (fun v5 => bindP (aLd σ (some 14) v2) fun v50 =>
 bindH (hAlloc (n + 16 * 4) [(.int .i64 0), (.string ⟨#[]⟩), (.slice none 0 0), (.string ⟨#[]⟩), (.string ⟨#[]⟩), (.slice none 0 0), (.slice none 0 0), (.slice none 0 0), (.string ⟨#[]⟩), (.slice none 0 0), (.slice none 0 0), (.slice none 0 0), (.slice none 0 0), (.int .i64 0)]) fun v51 w51 =>
 bindH (hAlloc (n + 16 * 5) [(.int .i64 0), (.string ⟨#[]⟩), (.slice none 0 0), (.string ⟨#[]⟩), (.string ⟨#[]⟩), (.slice none 0 0), (.slice none 0 0), (.slice none 0 0), (.string ⟨#[]⟩), (.slice none 0 0), (.slice none 0 0), (.slice none 0 0), (.slice none 0 0), (.int .i64 0)]) fun v52 w52 =>
 Apt (names []) (rdA v1) (names []) (rdA v2) ∧
 Apt (names []) d4 (names []) (rdA v2) ∧
 Apt (names []) (rdA v1) (names w51) (names w51) ∧
 Apt (names []) d4 (names w51) (names w51) ∧
 Apt (names []) (rdA v2) (names w51) (names w51) ∧
 Apt (names []) [] (names w51) (names w51) ∧
 Apt (names []) (rdA v1) (names w52) (names w52) ∧
 Apt (names []) d4 (names w52) (names w52) ∧
 Apt (names []) (rdA v2) (names w52) (names w52) ∧
 Apt (names []) [] (names w52) (names w52) ∧
 Apt (names w51) (names w51) (names w52) (names w52) ∧
 ∀ (fr_ : Regs) σ n, R (.pan v5) σ n)
attribute [go_sem] kd_law04_SyntaxSame1 kd_law04_SyntaxSame2 kd_law04_SyntaxSame3 kd_law04_SyntaxSame4 kd_law04_SyntaxSame5 kc_law04_SyntaxSame6 kd_law04_SyntaxSame7 kd_law04_SyntaxSame8
def sc_law04_SyntaxSame : SCode := (.seq (.reg [ ⟨some 2,none,.box (.t 0)⟩,⟨some 3,none,.box (.t 1)⟩,⟨some 4,none,.mv (.c (.sc (.bool false)))⟩]) (.seq (.regD [(⟨some 8,none,.ld (some 14) (.t 2)⟩,[]),(⟨some 9,none,.call (.c (.fn 17 [])) [(.t 8)]⟩,[0]),(⟨some 10,none,.ld (some 14) (.t 3)⟩,[]),(⟨some 11,none,.call (.c (.fn 17 [])) [(.t 10)]⟩,[2,1,0]),(⟨some 5,none,.alloc [(.int .i64 0),(.string ⟨#[]⟩),(.slice none 0 0),(.string ⟨#[]⟩),(.string ⟨#[]⟩),(.slice none 0 0),(.slice none 0 0),(.slice none 0 0),(.string ⟨#[]⟩),(.slice none 0 0),(.slice none 0 0),(.slice none 0 0),(.slice none 0 0),(.int .i64 0)]⟩,[]),(⟨some 6,none,.alloc [(.int .i64 0),(.string ⟨#[]⟩),(.slice none 0 0),(.string ⟨#[]⟩),(.string ⟨#[]⟩),(.slice none 0 0),(.slice none 0 0),(.slice none 0 0),(.string ⟨#[]⟩),(.slice none 0 0),(.slice none 0 0),(.slice none 0 0),(.slice none 0 0),(.int .i64 0)]⟩,[]),(⟨none,none,(.st 14 (.t 5) (.t 9))⟩,[4,1,0,3,2,5]),(⟨none,none,(.st 14 (.t 6) (.t 11))⟩,[5,3,2,1,0,6,4])]) (.seq (.reg [ ⟨some 12,none,.ld (some 14) (.t 2)⟩,⟨some 13,none,.call (.c (.fn 18 [])) [(.t 12)]⟩,⟨some 14,none,.bin .eql (.t 13) (.c (.sc (.int .i64 0)))⟩,⟨some 7,none,.mv (.t 14)⟩]) (.seq (.regD [(⟨some 15,none,.ld (some 14) (.t 5)⟩,[]),(⟨some 16,none,.ld (some 14) (.t 6)⟩,[]),(⟨some 17,none,.call (.c (.fn 19 [])) [(.t 15),(.t 16)]⟩,[0,1]),(⟨some 18,none,.ld (some 14) (.t 2)⟩,[]),(⟨some 19,none,.ld (some 14) (.t 3)⟩,[]),(⟨some 20,none,.call (.c (.fn 20 [])) [(.t 18),(.t 19)]⟩,[3,4,2,0,1]),(⟨some 21,none,.eqb false (.t 17) (.t 20)⟩,[2,0,1,5,3,4]),(⟨some 22,none,.mv (.t 21)⟩,[6,2,0,1,5,3,4]),(⟨(some 23),(some (22,true)),(.ld (some 14) (.t 5))⟩,[7,6,2,0,1,5,3,4]),(⟨(some 24),(some (22,true)),(.ld (some 14) (.t 2))⟩,[7,6,2,0,1,5,3,4]),(⟨(some 25),(some (22,true)),(.call (.c (.fn 17 [])) [(.t 24)])⟩,[9,7,6,2,0,1,5,3,4]),(⟨(some 26),(some (22,true)),(.call (.c (.fn 19 [])) [(.t 23),(.t 25)])⟩,[8,7,6,2,0,1,5,3,4,10,9]),(⟨(some 27),(some (22,true)),(.mv (.t 7))⟩,[7,6,2,0,1,5,3,4]),(⟨(some 28),(some (22,true)),(.eqb false (.t 26) (.t 27))⟩,[11,8,7,6,2,0,1,5,3,4,10,9,12]),(⟨some 29,none,.pick (.t 22) (.t 28) (.c (.sc (.bool false)))⟩,[7,6,2,0,1,5,3,4,13,11,8,10,9,12]),(⟨some 30,none,.mv (.t 29)⟩,[14,7,6,2,0,1,5,3,4,13,11,8,10,9,12]),(⟨(some 31),(some (30,true)),(.call (.c (.fn 9 [])) [])⟩,[15,14,7,6,2,0,1,5,3,4,13,11,8,10,9,12]),(⟨some 32,none,.pick (.t 30) (.t 31) (.c (.sc (.bool false)))⟩,[15,14,7,6,2,0,1,5,3,4,13,11,8,10,9,12,16]),(⟨some 4,none,.mv (.t 32)⟩,[17,15,14,7,6,2,0,1,5,3,4,13,11,8,10,9,12,16])]) .ret))))
def sh_law04_SyntaxSame (a0 a1 : AV) (σ : Hp) (n : Nat) (R : AEnd → Hp → Nat → Prop) : Prop :=
 bindS (hBox n a0) σ n fun v1 σ n =>
 bindS (hBox n a1) σ n fun v2 σ n =>
 bindP (aLd σ (some 14) v1) fun v3 =>
 callD Tryd.prog (.fn 17 []) [v3] σ (n + 16 * 1) (kd_law04_SyntaxSame8 σ v2 n v1 R)
theorem se_law04_SyntaxSame (a0 a1 : AV) (σ : Hp) (n : Nat) (R : AEnd → Hp → Nat → Prop) : sh_law04_SyntaxSame a0 a1 σ n R = swp Tryd.prog sc_law04_SyntaxSame (retQ [(.t 4)] R) (entry [a0, a1]) σ n := by kernel_rfl
theorem by_law04_SyntaxSame {a0 a1 : AV} {σ : Hp} {n : Nat} {R : AEnd → Hp → Nat → Prop} (h : sh_law04_SyntaxSame a0 a1 σ n R) : ConH Tryd.prog 5 [a0, a1] σ n R := by
  rw [se_law04_SyntaxSame] at h
  exact conH_of [(.t 4)] (fn := Tryd.f5) rfl [0, 1, 6, 3, 5, 2, 7, 4] (by kernel_rfl) (by kernel_rfl) (by kernel_rfl) (by kernel_rfl) h
def kc_syntax_Same1 (Kg : AV → Hp → Nat → Prop) (R : AEnd → Hp → Nat → Prop) (r : AEnd) (σ : Hp) (n : Nat) : Prop :=
 onEnd r (fun v9 =>
 Kg v9 σ n) (fun v10 => R (.pan v10) σ n)
def kc_syntax_Same2 (Kg : AV → Hp → Nat → Prop) (R : AEnd → Hp → Nat → Prop) (r : AEnd) (σ : Hp) (n : Nat) : Prop :=
 onEnd r (fun v53 =>
 Kg v53 σ n) (fun v54 => R (.pan v54) σ n)
def kc_syntax_Same3 (Kg : AV → Hp → Nat → Prop) (R : AEnd → Hp → Nat → Prop) (r : AEnd) (σ : Hp) (n : Nat) : Prop :=
 onEnd r (fun v61 =>
 Kg v61 σ n) (fun v62 => R (.pan v62) σ n)
def kc_syntax_Same4 (Kg : AV → Hp → Nat → Prop) (R : AEnd → Hp → Nat → Prop) (r : AEnd) (σ : Hp) (n : Nat) : Prop :=
 onEnd r (fun v70 =>
 Kg v70 σ n) (fun v71 => R (.pan v71) σ n)
def kc_syntax_Same5 (Kg : AV → Hp → Nat → Prop) (R : AEnd → Hp → Nat → Prop) (r : AEnd) (σ : Hp) (n : Nat) : Prop :=
 onEnd r (fun v78 =>
 Kg v78 σ n) (fun v79 => R (.pan v79) σ n)
def kc_syntax_Same6 (Kg : AV → Hp → Nat → Prop) (R : AEnd → Hp → Nat → Prop) (r : AEnd) (σ : Hp) (n : Nat) : Prop :=
 onEnd r (fun v87 =>
 Kg v87 σ n) (fun v88 => R (.pan v88) σ n)
def kc_syntax_Same7 (Kg : AV → Hp → Nat → Prop) (R : AEnd → Hp → Nat → Prop) (r : AEnd) (σ : Hp) (n : Nat) : Prop :=
 onEnd r (fun v96 =>
 Kg v96 σ n) (fun v97 => R (.pan v97) σ n)
def kc_syntax_Same8 (Kg : AV → Hp → Nat → Prop) (R : AEnd → Hp → Nat → Prop) (r : AEnd) (σ : Hp) (n : Nat) : Prop :=
 onEnd r (fun v105 =>
 Kg v105 σ n) (fun v106 => R (.pan v106) σ n)
def kc_syntax_Same9 (Kg : AV → Hp → Nat → Prop) (R : AEnd → Hp → Nat → Prop) (r : AEnd) (σ : Hp) (n : Nat) : Prop :=
 onEnd r (fun v114 =>
 Kg v114 σ n) (fun v115 => R (.pan v115) σ n)
def kc_syntax_Same10 (v2 : AV) (R : AEnd → Hp → Nat → Prop) (v1 : AV) (r : AEnd) (σ : Hp) (n : Nat) : Prop :=
 onEnd r (fun v4 =>
 bindP (semBin .neq v4 (.sc (.int .i64 0))) fun v6 =>
 guardP v6 false (aLd σ (some 14) v2) fun v7 =>
 guardK v6 false (fun Kg => CALL Tryd.prog (.fn 26 []) [v7] σ n (kc_syntax_Same1 Kg R)) σ n fun v8 σ n =>
 guardP v6 false (semBin .neq v8 (.sc (.int .i64 0))) fun v11 =>
 bindP (aPick v6 (.sc (.bool true)) v11) fun v12 =>
 COND v12 (
 R (.ret (.sc (.bool false))) σ n) (
 bindP (aFad 0 v1) fun v13 =>
 bindP (aLd σ none v13) fun v14 =>
 bindP (aFad 0 v2) fun v15 =>
 bindP (aLd σ none v15) fun v16 =>
 bindP (semBin .eql v14 v16) fun v17 =>
 guardP v17 true (aFad 1 v1) fun v18 =>
 guardP v17 true (aLd σ none v18) fun v19 =>
 guardP v17 true (aFad 1 v2) fun v20 =>
 guardP v17 true (aLd σ none v20) fun v21 =>
 guardP v17 true (semBin .eql v19 v21) fun v22 =>
 bindP (aPick v17 v22 (.sc (.bool false))) fun v23 =>
 guardP v23 true (aFad 3 v1) fun v24 =>
 guardP v23 true (aLd σ none v24) fun v25 =>
 guardP v23 true (aFad 3 v2) fun v26 =>
 guardP v23 true (aLd σ none v26) fun v27 =>
 guardP v23 true (semBin .eql v25 v27) fun v28 =>
 bindP (aPick v23 v28 (.sc (.bool false))) fun v29 =>
 guardP v29 true (aFad 4 v1) fun v30 =>
 guardP v29 true (aLd σ none v30) fun v31 =>
 guardP v29 true (aFad 4 v2) fun v32 =>
 guardP v29 true (aLd σ none v32) fun v33 =>
 guardP v29 true (semBin .eql v31 v33) fun v34 =>
 bindP (aPick v29 v34 (.sc (.bool false))) fun v35 =>
 guardP v35 true (aFad 8 v1) fun v36 =>
 guardP v35 true (aLd σ none v36) fun v37 =>
 guardP v35 true (aFad 8 v2) fun v38 =>
 guardP v35 true (aLd σ none v38) fun v39 =>
 guardP v35 true (semBin .eql v37 v39) fun v40 =>
 bindP (aPick v35 v40 (.sc (.bool false))) fun v41 =>
 guardP v41 true (aFad 13 v1) fun v42 =>
 guardP v41 true (aLd σ none v42) fun v43 =>
 guardP v41 true (aFad 13 v2) fun v44 =>
 guardP v41 true (aLd σ none v44) fun v45 =>
 guardP v41 true (semBin .eql v43 v45) fun v46 =>
 bindP (aPick v41 v46 (.sc (.bool false))) fun v47 =>
 guardP v47 true (aFad 2 v1) fun v48 =>
 guardP v47 true (aLd σ none v48) fun v49 =>
 guardP v47 true (aFad 2 v2) fun v50 =>
 guardP v47 true (aLd σ none v50) fun v51 =>
 guardK v47 true (fun Kg => CALL Tryd.prog (.fn 42 []) [v49, v51] σ n (kc_syntax_Same2 Kg R)) σ n fun v52 σ n =>
 bindP (aPick v47 v52 (.sc (.bool false))) fun v55 =>
 guardP v55 true (aFad 12 v1) fun v56 =>
 guardP v55 true (aLd σ none v56) fun v57 =>
 guardP v55 true (aFad 12 v2) fun v58 =>
 guardP v55 true (aLd σ none v58) fun v59 =>
 guardK v55 true (fun Kg => CALL Tryd.prog (.fn 43 []) [v57, v59] σ n (kc_syntax_Same3 Kg R)) σ n fun v60 σ n =>
 bindP (aPick v55 v60 (.sc (.bool false))) fun v63 =>
 guardP v63 true (aFad 5 v1) fun v64 =>
 guardP v63 true (aLd σ none v64) fun v65 =>
 guardP v63 true (aFad 5 v2) fun v66 =>
 guardP v63 true (aLd σ none v66) fun v67 =>
 guardP v63 true (some (.fn 39 [])) fun v68 =>
 guardK v63 true (fun Kg => CALL Tryd.prog (.fn 44 []) [v65, v67, v68] σ n (kc_syntax_Same4 Kg R)) σ n fun v69 σ n =>
 bindP (aPick v63 v69 (.sc (.bool false))) fun v72 =>
 guardP v72 true (aFad 6 v1) fun v73 =>
 guardP v72 true (aLd σ none v73) fun v74 =>
 guardP v72 true (aFad 6 v2) fun v75 =>
 guardP v72 true (aLd σ none v75) fun v76 =>
 guardK v72 true (fun Kg => CALL Tryd.prog (.fn 45 []) [v74, v76, (.fn 46 [])] σ n (kc_syntax_Same5 Kg R)) σ n fun v77 σ n =>
 bindP (aPick v72 v77 (.sc (.bool false))) fun v80 =>
 guardP v80 true (some (.fn 39 [])) fun v81 =>
 guardP v80 true (aFad 7 v1) fun v82 =>
 guardP v80 true (aLd σ none v82) fun v83 =>
 guardP v80 true (aFad 7 v2) fun v84 =>
 guardP v80 true (aLd σ none v84) fun v85 =>
 guardK v80 true (fun Kg => CALL Tryd.prog v81 [v83, v85] σ n (kc_syntax_Same6 Kg R)) σ n fun v86 σ n =>
 bindP (aPick v80 v86 (.sc (.bool false))) fun v89 =>
 guardP v89 true (some (.fn 39 [])) fun v90 =>
 guardP v89 true (aFad 9 v1) fun v91 =>
 guardP v89 true (aLd σ none v91) fun v92 =>
 guardP v89 true (aFad 9 v2) fun v93 =>
 guardP v89 true (aLd σ none v93) fun v94 =>
 guardK v89 true (fun Kg => CALL Tryd.prog v90 [v92, v94] σ n (kc_syntax_Same7 Kg R)) σ n fun v95 σ n =>
 bindP (aPick v89 v95 (.sc (.bool false))) fun v98 =>
 guardP v98 true (some (.fn 39 [])) fun v99 =>
 guardP v98 true (aFad 10 v1) fun v100 =>
 guardP v98 true (aLd σ none v100) fun v101 =>
 guardP v98 true (aFad 10 v2) fun v102 =>
 guardP v98 true (aLd σ none v102) fun v103 =>
 guardK v98 true (fun Kg => CALL Tryd.prog v99 [v101, v103] σ n (kc_syntax_Same8 Kg R)) σ n fun v104 σ n =>
 bindP (aPick v98 v104 (.sc (.bool false))) fun v107 =>
 guardP v107 true (some (.fn 39 [])) fun v108 =>
 guardP v107 true (aFad 11 v1) fun v109 =>
 guardP v107 true (aLd σ none v109) fun v110 =>
 guardP v107 true (aFad 11 v2) fun v111 =>
 guardP v107 true (aLd σ none v111) fun v112 =>
 guardK v107 true (fun Kg => CALL Tryd.prog v108 [v110, v112] σ n (kc_syntax_Same9 Kg R)) σ n fun v113 σ n =>
 bindP (aPick v107 v113 (.sc (.bool false))) fun v116 =>
 R (.ret v116) σ n)) (fun v5 => R (.pan v5) σ n)
attribute [go_sem] kc_syntax_Same1 kc_syntax_Same2 kc_syntax_Same3 kc_syntax_Same4 kc_syntax_Same5 kc_syntax_Same6 kc_syntax_Same7 kc_syntax_Same8 kc_syntax_Same9 kc_syntax_Same10
def sc_syntax_Same : SCode := (.seq (.reg [ ⟨some 2,none,.box (.t 0)⟩,⟨some 3,none,.box (.t 1)⟩,⟨some 4,none,.mv (.c (.sc (.bool false)))⟩]) (.seq (.seq (.reg [ ⟨some 7,none,.ld (some 14) (.t 2)⟩,⟨some 8,none,.call (.c (.fn 26 [])) [(.t 7)]⟩,⟨some 9,none,.bin .neq (.t 8) (.c (.sc (.int .i64 0)))⟩,⟨some 10,none,.mv (.t 9)⟩,⟨(some 11),(some (10,false)),(.ld (some 14) (.t 3))⟩,⟨(some 12),(some (10,false)),(.call (.c (.fn 26 [])) [(.t 11)])⟩,⟨(some 13),(some (10,false)),(.bin .neq (.t 12) (.c (.sc (.int .i64 0))))⟩,⟨some 14,none,.pick (.t 10) (.c (.sc (.bool true))) (.t 13)⟩]) (.cond (.t 14) (.seq (.reg [ ⟨some 4,none,.mv (.c (.sc (.bool false)))⟩]) .ret) .skip)) (.seq (.reg [ ⟨some 5,none,.mv (.c (.fn 39 []))⟩]) (.seq (.reg [ ⟨some 15,none,.fad 0 (.t 2)⟩,⟨some 16,none,.ld none (.t 15)⟩,⟨some 17,none,.fad 0 (.t 3)⟩,⟨some 18,none,.ld none (.t 17)⟩,⟨some 19,none,.bin .eql (.t 16) (.t 18)⟩,⟨some 20,none,.mv (.t 19)⟩,⟨(some 21),(some (20,true)),(.fad 1 (.t 2))⟩,⟨(some 22),(some (20,true)),(.ld none (.t 21))⟩,⟨(some 23),(some (20,true)),(.fad 1 (.t 3))⟩,⟨(some 24),(some (20,true)),(.ld none (.t 23))⟩,⟨(some 25),(some (20,true)),(.bin .eql (.t 22) (.t 24))⟩,⟨some 26,none,.pick (.t 20) (.t 25) (.c (.sc (.bool false)))⟩,⟨some 27,none,.mv (.t 26)⟩,⟨(some 28),(some (27,true)),(.fad 3 (.t 2))⟩,⟨(some 29),(some (27,true)),(.ld none (.t 28))⟩,⟨(some 30),(some (27,true)),(.fad 3 (.t 3))⟩,⟨(some 31),(some (27,true)),(.ld none (.t 30))⟩,⟨(some 32),(some (27,true)),(.bin .eql (.t 29) (.t 31))⟩,⟨some 33,none,.pick (.t 27) (.t 32) (.c (.sc (.bool false)))⟩,⟨some 34,none,.mv (.t 33)⟩,⟨(some 35),(some (34,true)),(.fad 4 (.t 2))⟩,⟨(some 36),(some (34,true)),(.ld none (.t 35))⟩,⟨(some 37),(some (34,true)),(.fad 4 (.t 3))⟩,⟨(some 38),(some (34,true)),(.ld none (.t 37))⟩,⟨(some 39),(some (34,true)),(.bin .eql (.t 36) (.t 38))⟩,⟨some 40,none,.pick (.t 34) (.t 39) (.c (.sc (.bool false)))⟩,⟨some 41,none,.mv (.t 40)⟩,⟨(some 42),(some (41,true)),(.fad 8 (.t 2))⟩,⟨(some 43),(some (41,true)),(.ld none (.t 42))⟩,⟨(some 44),(some (41,true)),(.fad 8 (.t 3))⟩,⟨(some 45),(some (41,true)),(.ld none (.t 44))⟩,⟨(some 46),(some (41,true)),(.bin .eql (.t 43) (.t 45))⟩,⟨some 47,none,.pick (.t 41) (.t 46) (.c (.sc (.bool false)))⟩,⟨some 48,none,.mv (.t 47)⟩,⟨(some 49),(some (48,true)),(.fad 13 (.t 2))⟩,⟨(some 50),(some (48,true)),(.ld none (.t 49))⟩,⟨(some 51),(some (48,true)),(.fad 13 (.t 3))⟩,⟨(some 52),(some (48,true)),(.ld none (.t 51))⟩,⟨(some 53),(some (48,true)),(.bin .eql (.t 50) (.t 52))⟩,⟨some 54,none,.pick (.t 48) (.t 53) (.c (.sc (.bool false)))⟩,⟨some 6,none,.mv (.t 54)⟩]) (.seq (.reg [ ⟨some 55,none,.mv (.t 6)⟩,⟨some 56,none,.mv (.t 55)⟩,⟨(some 57),(some (56,true)),(.fad 2 (.t 2))⟩,⟨(some 58),(some (56,true)),(.ld none (.t 57))⟩,⟨(some 59),(some (56,true)),(.fad 2 (.t 3))⟩,⟨(some 60),(some (56,true)),(.ld none (.t 59))⟩,⟨(some 61),(some (56,true)),(.call (.c (.fn 42 [])) [(.t 58),(.t 60)])⟩,⟨some 62,none,.pick (.t 56) (.t 61) (.c (.sc (.bool false)))⟩,⟨some 63,none,.mv (.t 62)⟩,⟨(some 64),(some (63,true)),(.fad 12 (.t 2))⟩,⟨(some 65),(some (63,true)),(.ld none (.t 64))⟩,⟨(some 66),(some (63,true)),(.fad 12 (.t 3))⟩,⟨(some 67),(some (63,true)),(.ld none (.t 66))⟩,⟨(some 68),(some (63,true)),(.call (.c (.fn 43 [])) [(.t 65),(.t 67)])⟩,⟨some 69,none,.pick (.t 63) (.t 68) (.c (.sc (.bool false)))⟩,⟨some 70,none,.mv (.t 69)⟩,⟨(some 71),(some (70,true)),(.fad 5 (.t 2))⟩,⟨(some 72),(some (70,true)),(.ld none (.t 71))⟩,⟨(some 73),(some (70,true)),(.fad 5 (.t 3))⟩,⟨(some 74),(some (70,true)),(.ld none (.t 73))⟩,⟨(some 75),(some (70,true)),(.mv (.t 5))⟩,⟨(some 76),(some (70,true)),(.call (.c (.fn 44 [])) [(.t 72),(.t 74),(.t 75)])⟩,⟨some 77,none,.pick (.t 70) (.t 76) (.c (.sc (.bool false)))⟩,⟨some 78,none,.mv (.t 77)⟩,⟨(some 79),(some (78,true)),(.fad 6 (.t 2))⟩,⟨(some 80),(some (78,true)),(.ld none (.t 79))⟩,⟨(some 81),(some (78,true)),(.fad 6 (.t 3))⟩,⟨(some 82),(some (78,true)),(.ld none (.t 81))⟩,⟨(some 83),(some (78,true)),(.call (.c (.fn 45 [])) [(.t 80),(.t 82),(.c (.fn 46 []))])⟩,⟨some 84,none,.pick (.t 78) (.t 83) (.c (.sc (.bool false)))⟩,⟨some 85,none,.mv (.t 84)⟩,⟨(some 86),(some (85,true)),(.mv (.t 5))⟩,⟨(some 87),(some (85,true)),(.fad 7 (.t 2))⟩,⟨(some 88),(some (85,true)),(.ld none (.t 87))⟩,⟨(some 89),(some (85,true)),(.fad 7 (.t 3))⟩,⟨(some 90),(some (85,true)),(.ld none (.t 89))⟩,⟨(some 91),(some (85,true)),(.call (.t 86) [(.t 88),(.t 90)])⟩,⟨some 92,none,.pick (.t 85) (.t 91) (.c (.sc (.bool false)))⟩,⟨some 93,none,.mv (.t 92)⟩,⟨(some 94),(some (93,true)),(.mv (.t 5))⟩,⟨(some 95),(some (93,true)),(.fad 9 (.t 2))⟩,⟨(some 96),(some (93,true)),(.ld none (.t 95))⟩,⟨(some 97),(some (93,true)),(.fad 9 (.t 3))⟩,⟨(some 98),(some (93,true)),(.ld none (.t 97))⟩,⟨(some 99),(some (93,true)),(.call (.t 94) [(.t 96),(.t 98)])⟩,⟨some 100,none,.pick (.t 93) (.t 99) (.c (.sc (.bool false)))⟩,⟨some 101,none,.mv (.t 100)⟩,⟨(some 102),(some (101,true)),(.mv (.t 5))⟩,⟨(some 103),(some (101,true)),(.fad 10 (.t 2))⟩,⟨(some 104),(some (101,true)),(.ld none (.t 103))⟩,⟨(some 105),(some (101,true)),(.fad 10 (.t 3))⟩,⟨(some 106),(some (101,true)),(.ld none (.t 105))⟩,⟨(some 107),(some (101,true)),(.call (.t 102) [(.t 104),(.t 106)])⟩,⟨some 108,none,.pick (.t 101) (.t 107) (.c (.sc (.bool false)))⟩,⟨some 109,none,.mv (.t 108)⟩,⟨(some 110),(some (109,true)),(.mv (.t 5))⟩,⟨(some 111),(some (109,true)),(.fad 11 (.t 2))⟩,⟨(some 112),(some (109,true)),(.ld none (.t 111))⟩,⟨(some 113),(some (109,true)),(.fad 11 (.t 3))⟩,⟨(some 114),(some (109,true)),(.ld none (.t 113))⟩,⟨(some 115),(some (109,true)),(.call (.t 110) [(.t 112),(.t 114)])⟩,⟨some 116,none,.pick (.t 109) (.t 115) (.c (.sc (.bool false)))⟩,⟨some 4,none,.mv (.t 116)⟩]) .ret)))))
def sh_syntax_Same (a0 a1 : AV) (σ : Hp) (n : Nat) (R : AEnd → Hp → Nat → Prop) : Prop :=
 bindS (hBox n a0) σ n fun v1 σ n =>
 bindS (hBox n a1) σ n fun v2 σ n =>
 bindP (aLd σ (some 14) v1) fun v3 =>
 CALL Tryd.prog (.fn 26 []) [v3] σ n (kc_syntax_Same10 v2 R v1)
theorem se_syntax_Same (a0 a1 : AV) (σ : Hp) (n : Nat) (R : AEnd → Hp → Nat → Prop) : sh_syntax_Same a0 a1 σ n R = swp Tryd.prog sc_syntax_Same (retQ [(.t 4)] R) (entry [a0, a1]) σ n := by kernel_rfl
theorem by_syntax_Same {a0 a1 : AV} {σ : Hp} {n : Nat} {R : AEnd → Hp → Nat → Prop} (h : sh_syntax_Same a0 a1 σ n R) : ConH Tryd.prog 19 [a0, a1] σ n R := by
  rw [se_syntax_Same] at h
  exact conH_of [(.t 4)] (fn := Tryd.f19) rfl [0, 1, 14, 6, 5, 2, 3, 4] (by kernel_rfl) (by kernel_rfl) (by kernel_rfl) (by kernel_rfl) h
def kc_syntax_Same_c11 (R : AEnd → Hp → Nat → Prop) (r : AEnd) (σ : Hp) (n : Nat) : Prop :=
 onEnd r (fun v1 =>
 R (.ret v1) σ n) (fun v2 => R (.pan v2) σ n)
attribute [go_sem] kc_syntax_Same_c11
def sc_syntax_Same_c1 : SCode := (.seq (.reg [ ⟨some 4,none,.mv (.c (.sc (.bool false)))⟩]) (.seq (.reg [ ⟨some 5,none,.mv (.t 0)⟩,⟨some 6,none,.mv (.t 1)⟩,⟨some 7,none,.call (.c (.fn 40 [])) [(.t 5),(.t 6),(.c (.fn 41 []))]⟩,⟨some 4,none,.mv (.t 7)⟩]) .ret))
def sh_syntax_Same_c1 (a0 a1 : AV) (σ : Hp) (n : Nat) (R : AEnd → Hp → Nat → Prop) : Prop :=
 CALL Tryd.prog (.fn 40 []) [a0, a1, (.fn 41 [])] σ n (kc_syntax_Same_c11 R)
theorem se_syntax_Same_c1 (a0 a1 : AV) (σ : Hp) (n : Nat) (R : AEnd → Hp → Nat → Prop) : sh_syntax_Same_c1 a0 a1 σ n R = swp Tryd.prog sc_syntax_Same_c1 (retQ [(.t 4)] R) (entry [a0, a1]) σ n := by kernel_rfl
theorem by_syntax_Same_c1 {a0 a1 : AV} {σ : Hp} {n : Nat} {R : AEnd → Hp → Nat → Prop} (h : sh_syntax_Same_c1 a0 a1 σ n R) : ConH Tryd.prog 39 [a0, a1] σ n R := by
  rw [se_syntax_Same_c1] at h
  exact conH_of [(.t 4)] (fn := Tryd.f39) rfl [0, 1, 4] (by kernel_rfl) (by kernel_rfl) (by kernel_rfl) (by kernel_rfl) h
def kc_syntax_Same_c21 (Kg : AV → Hp → Nat → Prop) (R : AEnd → Hp → Nat → Prop) (r : AEnd) (σ : Hp) (n : Nat) : Prop :=
 onEnd r (fun v13 =>
 Kg v13 σ n) (fun v14 => R (.pan v14) σ n)
attribute [go_sem] kc_syntax_Same_c21
def sc_syntax_Same_c2 : SCode := (.seq (.reg [ ⟨some 2,none,.box (.t 0)⟩,⟨some 3,none,.box (.t 1)⟩,⟨some 4,none,.mv (.c (.sc (.bool false)))⟩]) (.seq (.reg [ ⟨some 5,none,.fad 0 (.t 2)⟩,⟨some 6,none,.ld none (.t 5)⟩,⟨some 7,none,.fad 0 (.t 3)⟩,⟨some 8,none,.ld none (.t 7)⟩,⟨some 9,none,.bin .eql (.t 6) (.t 8)⟩,⟨some 10,none,.mv (.t 9)⟩,⟨(some 11),(some (10,true)),(.fad 1 (.t 2))⟩,⟨(some 12),(some (10,true)),(.ld (some 7) (.t 11))⟩,⟨(some 13),(some (10,true)),(.fad 1 (.t 3))⟩,⟨(some 14),(some (10,true)),(.ld (some 7) (.t 13))⟩,⟨(some 15),(some (10,true)),(.call (.c (.fn 41 [])) [(.t 12),(.t 14)])⟩,⟨some 16,none,.pick (.t 10) (.t 15) (.c (.sc (.bool false)))⟩,⟨some 4,none,.mv (.t 16)⟩]) .ret))
def sh_syntax_Same_c2 (a0 a1 : AV) (σ : Hp) (n : Nat) (R : AEnd → Hp → Nat → Prop) : Prop :=
 bindS (hBox n a0) σ n fun v1 σ n =>
 bindS (hBox n a1) σ n fun v2 σ n =>
 bindP (aFad 0 v1) fun v3 =>
 bindP (aLd σ none v3) fun v4 =>
 bindP (aFad 0 v2) fun v5 =>
 bindP (aLd σ none v5) fun v6 =>
 bindP (semBin .eql v4 v6) fun v7 =>
 guardP v7 true (aFad 1 v1) fun v8 =>
 guardP v7 true (aLd σ (some 7) v8) fun v9 =>
 guardP v7 true (aFad 1 v2) fun v10 =>
 guardP v7 true (aLd σ (some 7) v10) fun v11 =>
 guardK v7 true (fun Kg => CALL Tryd.prog (.fn 41 []) [v9, v11] σ n (kc_syntax_Same_c21 Kg R)) σ n fun v12 σ n =>
 bindP (aPick v7 v12 (.sc (.bool false))) fun v15 =>
 R (.ret v15) σ n
theorem se_syntax_Same_c2 (a0 a1 : AV) (σ : Hp) (n : Nat) (R : AEnd → Hp → Nat → Prop) : sh_syntax_Same_c2 a0 a1 σ n R = swp Tryd.prog sc_syntax_Same_c2 (retQ [(.t 4)] R) (entry [a0, a1]) σ n := by kernel_rfl
theorem by_syntax_Same_c2 {a0 a1 : AV} {σ : Hp} {n : Nat} {R : AEnd → Hp → Nat → Prop} (h : sh_syntax_Same_c2 a0 a1 σ n R) : ConH Tryd.prog 46 [a0, a1] σ n R := by
  rw [se_syntax_Same_c2] at h
  exact conH_of [(.t 4)] (fn := Tryd.f46) rfl [0, 1, 2, 3, 4] (by kernel_rfl) (by kernel_rfl) (by kernel_rfl) (by kernel_rfl) h
def kc_syntax_Alike1 (Kg : AV → Hp → Nat → Prop) (R : AEnd → Hp → Nat → Prop) (r : AEnd) (σ : Hp) (n : Nat) : Prop :=
 onEnd r (fun v31 =>
 Kg v31 σ n) (fun v32 => R (.pan v32) σ n)
attribute [go_sem] kc_syntax_Alike1
def sc_syntax_Alike : SCode := (.seq (.reg [ ⟨some 2,none,.box (.t 0)⟩,⟨some 3,none,.box (.t 1)⟩,⟨some 4,none,.mv (.c (.sc (.bool false)))⟩]) (.seq (.reg [ ⟨some 5,none,.fad 0 (.t 2)⟩,⟨some 6,none,.ld none (.t 5)⟩,⟨some 7,none,.fad 0 (.t 3)⟩,⟨some 8,none,.ld none (.t 7)⟩,⟨some 9,none,.bin .eql (.t 6) (.t 8)⟩,⟨some 10,none,.mv (.t 9)⟩,⟨(some 11),(some (10,true)),(.fad 1 (.t 2))⟩,⟨(some 12),(some (10,true)),(.ld (some 3) (.t 11))⟩,⟨(some 13),(some (10,true)),(.fad 1 (.t 3))⟩,⟨(some 14),(some (10,true)),(.ld (some 3) (.t 13))⟩,⟨(some 15),(some (10,true)),(.eqs [0,0,2] false (.t 12) (.t 14))⟩,⟨some 16,none,.pick (.t 10) (.t 15) (.c (.sc (.bool false)))⟩,⟨some 17,none,.mv (.t 16)⟩,⟨(some 18),(some (17,true)),(.fad 4 (.t 2))⟩,⟨(some 19),(some (17,true)),(.ld none (.t 18))⟩,⟨(some 20),(some (17,true)),(.fad 4 (.t 3))⟩,⟨(some 21),(some (17,true)),(.ld none (.t 20))⟩,⟨(some 22),(some (17,true)),(.bin .eql (.t 19) (.t 21))⟩,⟨some 23,none,.pick (.t 17) (.t 22) (.c (.sc (.bool false)))⟩,⟨some 24,none,.mv (.t 23)⟩,⟨(some 25),(some (24,true)),(.fad 5 (.t 2))⟩,⟨(some 26),(some (24,true)),(.ld none (.t 25))⟩,⟨(some 27),(some (24,true)),(.fad 5 (.t 3))⟩,⟨(some 28),(some (24,true)),(.ld none (.t 27))⟩,⟨(some 29),(some (24,true)),(.bin .eql (.t 26) (.t 28))⟩,⟨some 30,none,.pick (.t 24) (.t 29) (.c (.sc (.bool false)))⟩,⟨some 31,none,.mv (.t 30)⟩,⟨(some 32),(some (31,true)),(.fad 6 (.t 2))⟩,⟨(some 33),(some (31,true)),(.ld none (.t 32))⟩,⟨(some 34),(some (31,true)),(.fad 6 (.t 3))⟩,⟨(some 35),(some (31,true)),(.ld none (.t 34))⟩,⟨(some 36),(some (31,true)),(.call (.c (.fn 40 [])) [(.t 33),(.t 35),(.c (.fn 41 []))])⟩,⟨some 37,none,.pick (.t 31) (.t 36) (.c (.sc (.bool false)))⟩,⟨some 4,none,.mv (.t 37)⟩]) .ret))
def sh_syntax_Alike (a0 a1 : AV) (σ : Hp) (n : Nat) (R : AEnd → Hp → Nat → Prop) : Prop :=
 bindS (hBox n a0) σ n fun v1 σ n =>
 bindS (hBox n a1) σ n fun v2 σ n =>
 bindP (aFad 0 v1) fun v3 =>
 bindP (aLd σ none v3) fun v4 =>
 bindP (aFad 0 v2) fun v5 =>
 bindP (aLd σ none v5) fun v6 =>
 bindP (semBin .eql v4 v6) fun v7 =>
 guardP v7 true (aFad 1 v1) fun v8 =>
 guardP v7 true (aLd σ (some 3) v8) fun v9 =>
 guardP v7 true (aFad 1 v2) fun v10 =>
 guardP v7 true (aLd σ (some 3) v10) fun v11 =>
 guardP v7 true (aEqs [0, 0, 2] false v9 v11) fun v12 =>
 bindP (aPick v7 v12 (.sc (.bool false))) fun v13 =>
 guardP v13 true (aFad 4 v1) fun v14 =>
 guardP v13 true (aLd σ none v14) fun v15 =>
 guardP v13 true (aFad 4 v2) fun v16 =>
 guardP v13 true (aLd σ none v16) fun v17 =>
 guardP v13 true (semBin .eql v15 v17) fun v18 =>
 bindP (aPick v13 v18 (.sc (.bool false))) fun v19 =>
 guardP v19 true (aFad 5 v1) fun v20 =>
 guardP v19 true (aLd σ none v20) fun v21 =>
 guardP v19 true (aFad 5 v2) fun v22 =>
 guardP v19 true (aLd σ none v22) fun v23 =>
 guardP v19 true (semBin .eql v21 v23) fun v24 =>
 bindP (aPick v19 v24 (.sc (.bool false))) fun v25 =>
 guardP v25 true (aFad 6 v1) fun v26 =>
 guardP v25 true (aLd σ none v26) fun v27 =>
 guardP v25 true (aFad 6 v2) fun v28 =>
 guardP v25 true (aLd σ none v28) fun v29 =>
 guardK v25 true (fun Kg => CALL Tryd.prog (.fn 40 []) [v27, v29, (.fn 41 [])] σ n (kc_syntax_Alike1 Kg R)) σ n fun v30 σ n =>
 bindP (aPick v25 v30 (.sc (.bool false))) fun v33 =>
 R (.ret v33) σ n
theorem se_syntax_Alike (a0 a1 : AV) (σ : Hp) (n : Nat) (R : AEnd → Hp → Nat → Prop) : sh_syntax_Alike a0 a1 σ n R = swp Tryd.prog sc_syntax_Alike (retQ [(.t 4)] R) (entry [a0, a1]) σ n := by kernel_rfl
theorem by_syntax_Alike {a0 a1 : AV} {σ : Hp} {n : Nat} {R : AEnd → Hp → Nat → Prop} (h : sh_syntax_Alike a0 a1 σ n R) : ConH Tryd.prog 41 [a0, a1] σ n R := by
  rw [se_syntax_Alike] at h
  exact conH_of [(.t 4)] (fn := Tryd.f41) rfl [0, 1, 2, 3, 4] (by kernel_rfl) (by kernel_rfl) (by kernel_rfl) (by kernel_rfl) h
def kc_slices_EqualFunc_lapi_Expr_lapi_Expr_api_Expr_api_Expr1 (R : AEnd → Hp → Nat → Prop) (s5 : List AV) (K5 : List AV → Hp → Nat → Prop) (v6 : AV) (v9 : AV) (v13 : AV) (r : AEnd) (σ : Hp) (n : Nat) : Prop :=
 onEnd r (fun v17 =>
 bindP (aUn .not v17) fun v19 =>
 COND v19 (
 R (.ret (.sc (.bool false))) σ n) (
 bindP (semBin .add (s5.getD 6 .any) (.sc (.int .i64 1))) fun v20 =>
 K5 [v6, v9, (s5.getD 6 .any), v13, v19, (s5.getD 5 .any), v20] σ n)) (fun v18 => R (.pan v18) σ n)
def lb_slices_EqualFunc_lapi_Expr_lapi_Expr_api_Expr_api_Expr2 (v4 : AV) (a0 : AV) (a1 : AV) (a2 : AV) (R : AEnd → Hp → Nat → Prop) (K5 : List AV → Hp → Nat → Prop) (s5 : List AV) (σ : Hp) (n : Nat) : Prop :=
 bindP (semBin .lss (s5.getD 6 .any) v4) fun v6 =>
 COND v6 (
 bindP (aIad 7 a0 (s5.getD 6 .any)) fun v7 =>
 bindP (aLd σ (some 7) v7) fun v8 =>
 bindS (hAlloc n [(.int .i64 0), (.int .i64 0), (.int .i64 0), (.string ⟨#[]⟩), (.string ⟨#[]⟩), (.string ⟨#[]⟩), (.slice none 0 0)]) σ n fun v9 σ n =>
 bindS (hSt σ 7 v9 v8) σ n fun v10 σ n =>
 bindP (aIad 7 a1 (s5.getD 6 .any)) fun v11 =>
 bindP (aLd σ (some 7) v11) fun v12 =>
 bindS (hAlloc n [(.int .i64 0), (.int .i64 0), (.int .i64 0), (.string ⟨#[]⟩), (.string ⟨#[]⟩), (.string ⟨#[]⟩), (.slice none 0 0)]) σ n fun v13 σ n =>
 bindS (hSt σ 7 v13 v12) σ n fun v14 σ n =>
 bindP (aLd σ (some 7) v9) fun v15 =>
 bindP (aLd σ (some 7) v13) fun v16 =>
 CALL Tryd.prog a2 [v15, v16] σ n (kc_slices_EqualFunc_lapi_Expr_lapi_Expr_api_Expr_api_Expr1 R s5 K5 v6 v9 v13)) (
 R (.ret (.sc (.bool true))) σ n)
attribute [go_sem] kc_slices_EqualFunc_lapi_Expr_lapi_Expr_api_Expr_api_Expr1 lb_slices_EqualFunc_lapi_Expr_lapi_Expr_api_Expr_api_Expr2
def sc_slices_EqualFunc_lapi_Expr_lapi_Expr_api_Expr_api_Expr : SCode := (.seq (.reg [ ⟨some 6,none,.mv (.c (.sc (.bool false)))⟩]) (.seq (.seq (.reg [ ⟨some 10,none,.mv (.t 0)⟩,⟨some 11,none,.len false (.t 10)⟩,⟨some 12,none,.mv (.t 1)⟩,⟨some 13,none,.len false (.t 12)⟩,⟨some 14,none,.bin .neq (.t 11) (.t 13)⟩]) (.cond (.t 14) (.seq (.reg [ ⟨some 6,none,.mv (.c (.sc (.bool false)))⟩]) .ret) .skip)) (.seq (.seq (.reg [ ⟨some 15,none,.mv (.t 0)⟩,⟨some 16,none,.len false (.t 15)⟩,⟨some 17,none,.mv (.c (.sc (.int .i64 0)))⟩]) (.block 0 (.loop [18,8,7,9,30,6,17] [18,19,20,21,8,7,22,23,24,25,9,26,27,28,29,30,6,31,17] (.seq (.reg [ ⟨some 18,none,.bin .lss (.t 17) (.t 16)⟩]) (.seq (.cond (.t 18) .skip (.exit 0)) (.seq (.block 1 (.seq (.reg [ ⟨some 19,none,.mv (.t 17)⟩,⟨some 20,none,.iad 7 (.t 15) (.t 17)⟩,⟨some 21,none,.ld (some 7) (.t 20)⟩,⟨some 8,none,.alloc [(.int .i64 0),(.int .i64 0),(.int .i64 0),(.string ⟨#[]⟩),(.string ⟨#[]⟩),(.string ⟨#[]⟩),(.slice none 0 0)]⟩,⟨some 7,none,.mv (.t 19)⟩,⟨none,none,(.st 7 (.t 8) (.t 21))⟩]) (.seq (.reg [ ⟨some 22,none,.mv (.t 1)⟩,⟨some 23,none,.mv (.t 7)⟩,⟨some 24,none,.iad 7 (.t 22) (.t 23)⟩,⟨some 25,none,.ld (some 7) (.t 24)⟩,⟨some 9,none,.alloc [(.int .i64 0),(.int .i64 0),(.int .i64 0),(.string ⟨#[]⟩),(.string ⟨#[]⟩),(.string ⟨#[]⟩),(.slice none 0 0)]⟩,⟨none,none,(.st 7 (.t 9) (.t 25))⟩]) (.seq (.reg [ ⟨some 26,none,.mv (.t 2)⟩,⟨some 27,none,.ld (some 7) (.t 8)⟩,⟨some 28,none,.ld (some 7) (.t 9)⟩,⟨some 29,none,.call (.t 26) [(.t 27),(.t 28)]⟩,⟨some 30,none,.un .not (.t 29)⟩]) (.cond (.t 30) (.seq (.reg [ ⟨some 6,none,.mv (.c (.sc (.bool false)))⟩]) .ret) .skip))))) (.reg [ ⟨some 31,none,.bin .add (.t 17) (.c (.sc (.int .i64 1)))⟩,⟨some 17,none,.mv (.t 31)⟩]))))))) (.seq (.reg [ ⟨some 6,none,.mv (.c (.sc (.bool true)))⟩]) .ret))))
def sh_slices_EqualFunc_lapi_Expr_lapi_Expr_api_Expr_api_Expr (a0 a1 a2 : AV) (σ : Hp) (n : Nat) (R : AEnd → Hp → Nat → Prop) : Prop :=
 bindP (aLen false a0) fun v1 => bnd σ a0 →
 bindP (aLen false a1) fun v2 => bnd σ a1 →
 bindP (semBin .neq v1 v2) fun v3 =>
 COND v3 (
 R (.ret (.sc (.bool false))) σ n) (
 bindP (aLen false a0) fun v4 => bnd σ a0 →
 LOOP (lb_slices_EqualFunc_lapi_Expr_lapi_Expr_api_Expr_api_Expr2 v4 a0 a1 a2 R) [(.tp []), (.tp []), (.tp []), (.tp []), (.tp []), (.sc (.bool false)), (.sc (.int .i64 0))] σ n)
theorem se_slices_EqualFunc_lapi_Expr_lapi_Expr_api_Expr_api_Expr (a0 a1 a2 : AV) (σ : Hp) (n : Nat) (R : AEnd → Hp → Nat → Prop) : sh_slices_EqualFunc_lapi_Expr_lapi_Expr_api_Expr_api_Expr a0 a1 a2 σ n R = swp Tryd.prog sc_slices_EqualFunc_lapi_Expr_lapi_Expr_api_Expr_api_Expr (retQ [(.t 6)] R) (entry [a0, a1, a2]) σ n := by kernel_rfl
theorem by_slices_EqualFunc_lapi_Expr_lapi_Expr_api_Expr_api_Expr {a0 a1 a2 : AV} {σ : Hp} {n : Nat} {R : AEnd → Hp → Nat → Prop} (h : sh_slices_EqualFunc_lapi_Expr_lapi_Expr_api_Expr_api_Expr a0 a1 a2 σ n R) : ConH Tryd.prog 40 [a0, a1, a2] σ n R := by
  rw [se_slices_EqualFunc_lapi_Expr_lapi_Expr_api_Expr_api_Expr] at h
  exact conH_of [(.t 6)] (fn := Tryd.f40) rfl [14, 0, 16, 18, 15, 1, 7, 2, 8, 9, 30, 17, 6] (by kernel_rfl) (by kernel_rfl) (by kernel_rfl) (by kernel_rfl) h
def kc_slices_EqualFunc_llapi_Expr_llapi_Expr_lapi_Expr_lapi_Expr1 (R : AEnd → Hp → Nat → Prop) (s5 : List AV) (K5 : List AV → Hp → Nat → Prop) (v6 : AV) (v8 : AV) (v10 : AV) (r : AEnd) (σ : Hp) (n : Nat) : Prop :=
 onEnd r (fun v11 =>
 bindP (aUn .not v11) fun v13 =>
 COND v13 (
 R (.ret (.sc (.bool false))) σ n) (
 bindP (semBin .add (s5.getD 6 .any) (.sc (.int .i64 1))) fun v14 =>
 K5 [v6, (s5.getD 6 .any), v8, v10, v13, (s5.getD 5 .any), v14] σ n)) (fun v12 => R (.pan v12) σ n)
def lb_slices_EqualFunc_llapi_Expr_llapi_Expr_lapi_Expr_lapi_Expr2 (v4 : AV) (a0 : AV) (a1 : AV) (a2 : AV) (R : AEnd → Hp → Nat → Prop) (K5 : List AV → Hp → Nat → Prop) (s5 : List AV) (σ : Hp) (n : Nat) : Prop :=
 bindP (semBin .lss (s5.getD 6 .any) v4) fun v6 =>
 COND v6 (
 bindP (aIad 1 a0 (s5.getD 6 .any)) fun v7 =>
 bindP (aLd σ none v7) fun v8 =>
 bindP (aIad 1 a1 (s5.getD 6 .any)) fun v9 =>
 bindP (aLd σ none v9) fun v10 =>
 CALL Tryd.prog a2 [v8, v10] σ n (kc_slices_EqualFunc_llapi_Expr_llapi_Expr_lapi_Expr_lapi_Expr1 R s5 K5 v6 v8 v10)) (
 R (.ret (.sc (.bool true))) σ n)
attribute [go_sem] kc_slices_EqualFunc_llapi_Expr_llapi_Expr_lapi_Expr_lapi_Expr1 lb_slices_EqualFunc_llapi_Expr_llapi_Expr_lapi_Expr_lapi_Expr2
def sc_slices_EqualFunc_llapi_Expr_llapi_Expr_lapi_Expr_lapi_Expr : SCode := (.seq (.reg [ ⟨some 6,none,.mv (.c (.sc (.bool false)))⟩]) (.seq (.seq (.reg [ ⟨some 10,none,.mv (.t 0)⟩,⟨some 11,none,.len false (.t 10)⟩,⟨some 12,none,.mv (.t 1)⟩,⟨some 13,none,.len false (.t 12)⟩,⟨some 14,none,.bin .neq (.t 11) (.t 13)⟩]) (.cond (.t 14) (.seq (.reg [ ⟨some 6,none,.mv (.c (.sc (.bool false)))⟩]) .ret) .skip)) (.seq (.seq (.reg [ ⟨some 15,none,.mv (.t 0)⟩,⟨some 16,none,.len false (.t 15)⟩,⟨some 17,none,.mv (.c (.sc (.int .i64 0)))⟩]) (.block 0 (.loop [18,7,8,9,30,6,17] [18,19,20,21,7,8,22,23,24,25,9,26,27,28,29,30,6,31,17] (.seq (.reg [ ⟨some 18,none,.bin .lss (.t 17) (.t 16)⟩]) (.seq (.cond (.t 18) .skip (.exit 0)) (.seq (.block 1 (.seq (.reg [ ⟨some 19,none,.mv (.t 17)⟩,⟨some 20,none,.iad 1 (.t 15) (.t 17)⟩,⟨some 21,none,.ld none (.t 20)⟩,⟨some 7,none,.mv (.t 19)⟩,⟨some 8,none,.mv (.t 21)⟩]) (.seq (.reg [ ⟨some 22,none,.mv (.t 1)⟩,⟨some 23,none,.mv (.t 7)⟩,⟨some 24,none,.iad 1 (.t 22) (.t 23)⟩,⟨some 25,none,.ld none (.t 24)⟩,⟨some 9,none,.mv (.t 25)⟩]) (.seq (.reg [ ⟨some 26,none,.mv (.t 2)⟩,⟨some 27,none,.mv (.t 8)⟩,⟨some 28,none,.mv (.t 9)⟩,⟨some 29,none,.call (.t 26) [(.t 27),(.t 28)]⟩,⟨some 30,none,.un .not (.t 29)⟩]) (.cond (.t 30) (.seq (.reg [ ⟨some 6,none,.mv (.c (.sc (.bool false)))⟩]) .ret) .skip))))) (.reg [ ⟨some 31,none,.bin .add (.t 17) (.c (.sc (.int .i64 1)))⟩,⟨some 17,none,.mv (.t 31)⟩]))))))) (.seq (.reg [ ⟨some 6,none,.mv (.c (.sc (.bool true)))⟩]) .ret))))
def sh_slices_EqualFunc_llapi_Expr_llapi_Expr_lapi_Expr_lapi_Expr (a0 a1 a2 : AV) (σ : Hp) (n : Nat) (R : AEnd → Hp → Nat → Prop) : Prop :=
 bindP (aLen false a0) fun v1 => bnd σ a0 →
 bindP (aLen false a1) fun v2 => bnd σ a1 →
 bindP (semBin .neq v1 v2) fun v3 =>
 COND v3 (
 R (.ret (.sc (.bool false))) σ n) (
 bindP (aLen false a0) fun v4 => bnd σ a0 →
 LOOP (lb_slices_EqualFunc_llapi_Expr_llapi_Expr_lapi_Expr_lapi_Expr2 v4 a0 a1 a2 R) [(.tp []), (.tp []), (.tp []), (.tp []), (.tp []), (.sc (.bool false)), (.sc (.int .i64 0))] σ n)
theorem se_slices_EqualFunc_llapi_Expr_llapi_Expr_lapi_Expr_lapi_Expr (a0 a1 a2 : AV) (σ : Hp) (n : Nat) (R : AEnd → Hp → Nat → Prop) : sh_slices_EqualFunc_llapi_Expr_llapi_Expr_lapi_Expr_lapi_Expr a0 a1 a2 σ n R = swp Tryd.prog sc_slices_EqualFunc_llapi_Expr_llapi_Expr_lapi_Expr_lapi_Expr (retQ [(.t 6)] R) (entry [a0, a1, a2]) σ n := by kernel_rfl
theorem by_slices_EqualFunc_llapi_Expr_llapi_Expr_lapi_Expr_lapi_Expr {a0 a1 a2 : AV} {σ : Hp} {n : Nat} {R : AEnd → Hp → Nat → Prop} (h : sh_slices_EqualFunc_llapi_Expr_llapi_Expr_lapi_Expr_lapi_Expr a0 a1 a2 σ n R) : ConH Tryd.prog 44 [a0, a1, a2] σ n R := by
  rw [se_slices_EqualFunc_llapi_Expr_llapi_Expr_lapi_Expr_lapi_Expr] at h
  exact conH_of [(.t 6)] (fn := Tryd.f44) rfl [14, 0, 16, 18, 15, 1, 7, 2, 8, 9, 30, 17, 6] (by kernel_rfl) (by kernel_rfl) (by kernel_rfl) (by kernel_rfl) h
def kc_slices_EqualFunc_lapi_Set_lapi_Set_api_Set_api_Set1 (R : AEnd → Hp → Nat → Prop) (s5 : List AV) (K5 : List AV → Hp → Nat → Prop) (v6 : AV) (v9 : AV) (v13 : AV) (r : AEnd) (σ : Hp) (n : Nat) : Prop :=
 onEnd r (fun v17 =>
 bindP (aUn .not v17) fun v19 =>
 COND v19 (
 R (.ret (.sc (.bool false))) σ n) (
 bindP (semBin .add (s5.getD 6 .any) (.sc (.int .i64 1))) fun v20 =>
 K5 [v6, v9, (s5.getD 6 .any), v13, v19, (s5.getD 5 .any), v20] σ n)) (fun v18 => R (.pan v18) σ n)
def lb_slices_EqualFunc_lapi_Set_lapi_Set_api_Set_api_Set2 (v4 : AV) (a0 : AV) (a1 : AV) (a2 : AV) (R : AEnd → Hp → Nat → Prop) (K5 : List AV → Hp → Nat → Prop) (s5 : List AV) (σ : Hp) (n : Nat) : Prop :=
 bindP (semBin .lss (s5.getD 6 .any) v4) fun v6 =>
 COND v6 (
 bindP (aIad 8 a0 (s5.getD 6 .any)) fun v7 =>
 bindP (aLd σ (some 8) v7) fun v8 =>
 bindS (hAlloc n [(.string ⟨#[]⟩), (.int .i64 0), (.int .i64 0), (.int .i64 0), (.string ⟨#[]⟩), (.string ⟨#[]⟩), (.string ⟨#[]⟩), (.slice none 0 0)]) σ n fun v9 σ n =>
 bindS (hSt σ 8 v9 v8) σ n fun v10 σ n =>
 bindP (aIad 8 a1 (s5.getD 6 .any)) fun v11 =>
 bindP (aLd σ (some 8) v11) fun v12 =>
 bindS (hAlloc n [(.string ⟨#[]⟩), (.int .i64 0), (.int .i64 0), (.int .i64 0), (.string ⟨#[]⟩), (.string ⟨#[]⟩), (.string ⟨#[]⟩), (.slice none 0 0)]) σ n fun v13 σ n =>
 bindS (hSt σ 8 v13 v12) σ n fun v14 σ n =>
 bindP (aLd σ (some 8) v9) fun v15 =>
 bindP (aLd σ (some 8) v13) fun v16 =>
 CALL Tryd.prog a2 [v15, v16] σ n (kc_slices_EqualFunc_lapi_Set_lapi_Set_api_Set_api_Set1 R s5 K5 v6 v9 v13)) (
 R (.ret (.sc (.bool true))) σ n)
attribute [go_sem] kc_slices_EqualFunc_lapi_Set_lapi_Set_api_Set_api_Set1 lb_slices_EqualFunc_lapi_Set_lapi_Set_api_Set_api_Set2
def sc_slices_EqualFunc_lapi_Set_lapi_Set_api_Set_api_Set : SCode := (.seq (.reg [ ⟨some 6,none,.mv (.c (.sc (.bool false)))⟩]) (.seq (.seq (.reg [ ⟨some 10,none,.mv (.t 0)⟩,⟨some 11,none,.len false (.t 10)⟩,⟨some 12,none,.mv (.t 1)⟩,⟨some 13,none,.len false (.t 12)⟩,⟨some 14,none,.bin .neq (.t 11) (.t 13)⟩]) (.cond (.t 14) (.seq (.reg [ ⟨some 6,none,.mv (.c (.sc (.bool false)))⟩]) .ret) .skip)) (.seq (.seq (.reg [ ⟨some 15,none,.mv (.t 0)⟩,⟨some 16,none,.len false (.t 15)⟩,⟨some 17,none,.mv (.c (.sc (.int .i64 0)))⟩]) (.block 0 (.loop [18,8,7,9,30,6,17] [18,19,20,21,8,7,22,23,24,25,9,26,27,28,29,30,6,31,17] (.seq (.reg [ ⟨some 18,none,.bin .lss (.t 17) (.t 16)⟩]) (.seq (.cond (.t 18) .skip (.exit 0)) (.seq (.block 1 (.seq (.reg [ ⟨some 19,none,.mv (.t 17)⟩,⟨some 20,none,.iad 8 (.t 15) (.t 17)⟩,⟨some 21,none,.ld (some 8) (.t 20)⟩,⟨some 8,none,.alloc [(.string ⟨#[]⟩),(.int .i64 0),(.int .i64 0),(.int .i64 0),(.string ⟨#[]⟩),(.string ⟨#[]⟩),(.string ⟨#[]⟩),(.slice none 0 0)]⟩,⟨some 7,none,.mv (.t 19)⟩,⟨none,none,(.st 8 (.t 8) (.t 21))⟩]) (.seq (.reg [ ⟨some 22,none,.mv (.t 1)⟩,⟨some 23,none,.mv (.t 7)⟩,⟨some 24,none,.iad 8 (.t 22) (.t 23)⟩,⟨some 25,none,.ld (some 8) (.t 24)⟩,⟨some 9,none,.alloc [(.string ⟨#[]⟩),(.int .i64 0),(.int .i64 0),(.int .i64 0),(.string ⟨#[]⟩),(.string ⟨#[]⟩),(.string ⟨#[]⟩),(.slice none 0 0)]⟩,⟨none,none,(.st 8 (.t 9) (.t 25))⟩]) (.seq (.reg [ ⟨some 26,none,.mv (.t 2)⟩,⟨some 27,none,.ld (some 8) (.t 8)⟩,⟨some 28,none,.ld (some 8) (.t 9)⟩,⟨some 29,none,.call (.t 26) [(.t 27),(.t 28)]⟩,⟨some 30,none,.un .not (.t 29)⟩]) (.cond (.t 30) (.seq (.reg [ ⟨some 6,none,.mv (.c (.sc (.bool false)))⟩]) .ret) .skip))))) (.reg [ ⟨some 31,none,.bin .add (.t 17) (.c (.sc (.int .i64 1)))⟩,⟨some 17,none,.mv (.t 31)⟩]))))))) (.seq (.reg [ ⟨some 6,none,.mv (.c (.sc (.bool true)))⟩]) .ret))))
def sh_slices_EqualFunc_lapi_Set_lapi_Set_api_Set_api_Set (a0 a1 a2 : AV) (σ : Hp) (n : Nat) (R : AEnd → Hp → Nat → Prop) : Prop :=
 bindP (aLen false a0) fun v1 => bnd σ a0 →
 bindP (aLen false a1) fun v2 => bnd σ a1 →
 bindP (semBin .neq v1 v2) fun v3 =>
 COND v3 (
 R (.ret (.sc (.bool false))) σ n) (
 bindP (aLen false a0) fun v4 => bnd σ a0 →
 LOOP (lb_slices_EqualFunc_lapi_Set_lapi_Set_api_Set_api_Set2 v4 a0 a1 a2 R) [(.tp []), (.tp []), (.tp []), (.tp []), (.tp []), (.sc (.bool false)), (.sc (.int .i64 0))] σ n)
theorem se_slices_EqualFunc_lapi_Set_lapi_Set_api_Set_api_Set (a0 a1 a2 : AV) (σ : Hp) (n : Nat) (R : AEnd → Hp → Nat → Prop) : sh_slices_EqualFunc_lapi_Set_lapi_Set_api_Set_api_Set a0 a1 a2 σ n R = swp Tryd.prog sc_slices_EqualFunc_lapi_Set_lapi_Set_api_Set_api_Set (retQ [(.t 6)] R) (entry [a0, a1, a2]) σ n := by kernel_rfl
theorem by_slices_EqualFunc_lapi_Set_lapi_Set_api_Set_api_Set {a0 a1 a2 : AV} {σ : Hp} {n : Nat} {R : AEnd → Hp → Nat → Prop} (h : sh_slices_EqualFunc_lapi_Set_lapi_Set_api_Set_api_Set a0 a1 a2 σ n R) : ConH Tryd.prog 45 [a0, a1, a2] σ n R := by
  rw [se_slices_EqualFunc_lapi_Set_lapi_Set_api_Set_api_Set] at h
  exact conH_of [(.t 6)] (fn := Tryd.f45) rfl [14, 0, 16, 18, 15, 1, 7, 2, 8, 9, 30, 17, 6] (by kernel_rfl) (by kernel_rfl) (by kernel_rfl) (by kernel_rfl) h
def lb_slices_Equal_lapi_Column_api_Column1 (v4 : AV) (a0 : AV) (a1 : AV) (R : AEnd → Hp → Nat → Prop) (K5 : List AV → Hp → Nat → Prop) (s5 : List AV) (σ : Hp) (n : Nat) : Prop :=
 bindP (semBin .lss (s5.getD 4 .any) v4) fun v6 =>
 COND v6 (
 bindP (aIad 3 a0 (s5.getD 4 .any)) fun v9 =>
 bindP (aLd σ (some 3) v9) fun v10 =>
 bindP (aIad 3 a1 (s5.getD 4 .any)) fun v13 =>
 bindP (aLd σ (some 3) v13) fun v14 =>
 bindP (aEqs [2, 0, 1] true v10 v14) fun v15 =>
 Apt (names []) (rdA v9) (names []) (rdA v13) ∧
 ∀ n_, n + 16 * 9 ≤ n_ → (fun n => COND v15 (
 R (.ret (.sc (.bool false))) σ n) (
 bindP (semBin .add (s5.getD 4 .any) (.sc (.int .i64 1))) fun v16 =>
 K5 [v6, (s5.getD 4 .any), v15, (s5.getD 3 .any), v16] σ n)) n_) (
 R (.ret (.sc (.bool true))) σ n)
attribute [go_sem] lb_slices_Equal_lapi_Column_api_Column1
def sc_slices_Equal_lapi_Column_api_Column : SCode := (.seq (.reg [ ⟨some 4,none,.mv (.c (.sc (.bool false)))⟩]) (.seq (.seq (.reg [ ⟨some 6,none,.mv (.t 0)⟩,⟨some 7,none,.len false (.t 6)⟩,⟨some 8,none,.mv (.t 1)⟩,⟨some 9,none,.len false (.t 8)⟩,⟨some 10,none,.bin .neq (.t 7) (.t 9)⟩]) (.cond (.t 10) (.seq (.reg [ ⟨some 4,none,.mv (.c (.sc (.bool false)))⟩]) .ret) .skip)) (.seq (.seq (.reg [ ⟨some 11,none,.mv (.t 0)⟩,⟨some 12,none,.len false (.t 11)⟩,⟨some 13,none,.mv (.c (.sc (.int .i64 0)))⟩]) (.block 0 (.loop [14,5,24,4,13] [14,15,5,16,17,18,19,20,21,22,23,24,4,25,13] (.seq (.reg [ ⟨some 14,none,.bin .lss (.t 13) (.t 12)⟩]) (.seq (.cond (.t 14) .skip (.exit 0)) (.seq (.block 1 (.seq (.reg [ ⟨some 15,none,.mv (.t 13)⟩,⟨some 5,none,.mv (.t 15)⟩]) (.seq (.regD [(⟨some 16,none,.mv (.t 0)⟩,[]),(⟨some 17,none,.mv (.t 5)⟩,[]),(⟨some 18,none,.iad 3 (.t 16) (.t 17)⟩,[0,1]),(⟨some 19,none,.ld (some 3) (.t 18)⟩,[2,0,1]),(⟨some 20,none,.mv (.t 1)⟩,[]),(⟨some 21,none,.mv (.t 5)⟩,[]),(⟨some 22,none,.iad 3 (.t 20) (.t 21)⟩,[4,5]),(⟨some 23,none,.ld (some 3) (.t 22)⟩,[6,4,5]),(⟨some 24,none,.eqs [2,0,1] true (.t 19) (.t 23)⟩,[3,2,0,1,7,6,4,5])]) (.cond (.t 24) (.seq (.reg [ ⟨some 4,none,.mv (.c (.sc (.bool false)))⟩]) .ret) .skip)))) (.reg [ ⟨some 25,none,.bin .add (.t 13) (.c (.sc (.int .i64 1)))⟩,⟨some 13,none,.mv (.t 25)⟩]))))))) (.seq (.reg [ ⟨some 4,none,.mv (.c (.sc (.bool true)))⟩]) .ret))))
def sh_slices_Equal_lapi_Column_api_Column (a0 a1 : AV) (σ : Hp) (n : Nat) (R : AEnd → Hp → Nat → Prop) : Prop :=
 bindP (aLen false a0) fun v1 => bnd σ a0 →
 bindP (aLen false a1) fun v2 => bnd σ a1 →
 bindP (semBin .neq v1 v2) fun v3 =>
 COND v3 (
 R (.ret (.sc (.bool false))) σ n) (
 bindP (aLen false a0) fun v4 => bnd σ a0 →
 LOOP (lb_slices_Equal_lapi_Column_api_Column1 v4 a0 a1 R) [(.tp []), (.tp []), (.tp []), (.sc (.bool false)), (.sc (.int .i64 0))] σ n)
theorem se_slices_Equal_lapi_Column_api_Column (a0 a1 : AV) (σ : Hp) (n : Nat) (R : AEnd → Hp → Nat → Prop) : sh_slices_Equal_lapi_Column_api_Column a0 a1 σ n R = swp Tryd.prog sc_slices_Equal_lapi_Column_api_Column (retQ [(.t 4)] R) (entry [a0, a1]) σ n := by kernel_rfl
theorem by_slices_Equal_lapi_Column_api_Column {a0 a1 : AV} {σ : Hp} {n : Nat} {R : AEnd → Hp → Nat → Prop} (h : sh_slices_Equal_lapi_Column_api_Column a0 a1 σ n R) : ConH Tryd.prog 42 [a0, a1] σ n R := by
  rw [se_slices_Equal_lapi_Column_api_Column] at h
  exact conH_of [(.t 4)] (fn := Tryd.f42) rfl [10, 12, 14, 0, 1, 5, 24, 13, 4] (by kernel_rfl) (by kernel_rfl) (by kernel_rfl) (by kernel_rfl) h
def lb_slices_Equal_lapi_Order_api_Order1 (v4 : AV) (a0 : AV) (a1 : AV) (R : AEnd → Hp → Nat → Prop) (K5 : List AV → Hp → Nat → Prop) (s5 : List AV) (σ : Hp) (n : Nat) : Prop :=
 bindP (semBin .lss (s5.getD 4 .any) v4) fun v6 =>
 COND v6 (
 bindP (aIad 2 a0 (s5.getD 4 .any)) fun v9 =>
 bindP (aLd σ (some 2) v9) fun v10 =>
 bindP (aIad 2 a1 (s5.getD 4 .any)) fun v13 =>
 bindP (aLd σ (some 2) v13) fun v14 =>
 bindP (aEqs [0, 1] true v10 v14) fun v15 =>
 Apt (names []) (rdA v9) (names []) (rdA v13) ∧
 ∀ n_, n + 16 * 9 ≤ n_ → (fun n => COND v15 (
 R (.ret (.sc (.bool false))) σ n) (
 bindP (semBin .add (s5.getD 4 .any) (.sc (.int .i64 1))) fun v16 =>
 K5 [v6, (s5.getD 4 .any), v15, (s5.getD 3 .any), v16] σ n)) n_) (
 R (.ret (.sc (.bool true))) σ n)
attribute [go_sem] lb_slices_Equal_lapi_Order_api_Order1
def sc_slices_Equal_lapi_Order_api_Order : SCode := (.seq (.reg [ ⟨some 4,none,.mv (.c (.sc (.bool false)))⟩]) (.seq (.seq (.reg [ ⟨some 6,none,.mv (.t 0)⟩,⟨some 7,none,.len false (.t 6)⟩,⟨some 8,none,.mv (.t 1)⟩,⟨some 9,none,.len false (.t 8)⟩,⟨some 10,none,.bin .neq (.t 7) (.t 9)⟩]) (.cond (.t 10) (.seq (.reg [ ⟨some 4,none,.mv (.c (.sc (.bool false)))⟩]) .ret) .skip)) (.seq (.seq (.reg [ ⟨some 11,none,.mv (.t 0)⟩,⟨some 12,none,.len false (.t 11)⟩,⟨some 13,none,.mv (.c (.sc (.int .i64 0)))⟩]) (.block 0 (.loop [14,5,24,4,13] [14,15,5,16,17,18,19,20,21,22,23,24,4,25,13] (.seq (.reg [ ⟨some 14,none,.bin .lss (.t 13) (.t 12)⟩]) (.seq (.cond (.t 14) .skip (.exit 0)) (.seq (.block 1 (.seq (.reg [ ⟨some 15,none,.mv (.t 13)⟩,⟨some 5,none,.mv (.t 15)⟩]) (.seq (.regD [(⟨some 16,none,.mv (.t 0)⟩,[]),(⟨some 17,none,.mv (.t 5)⟩,[]),(⟨some 18,none,.iad 2 (.t 16) (.t 17)⟩,[0,1]),(⟨some 19,none,.ld (some 2) (.t 18)⟩,[2,0,1]),(⟨some 20,none,.mv (.t 1)⟩,[]),(⟨some 21,none,.mv (.t 5)⟩,[]),(⟨some 22,none,.iad 2 (.t 20) (.t 21)⟩,[4,5]),(⟨some 23,none,.ld (some 2) (.t 22)⟩,[6,4,5]),(⟨some 24,none,.eqs [0,1] true (.t 19) (.t 23)⟩,[3,2,0,1,7,6,4,5])]) (.cond (.t 24) (.seq (.reg [ ⟨some 4,none,.mv (.c (.sc (.bool false)))⟩]) .ret) .skip)))) (.reg [ ⟨some 25,none,.bin .add (.t 13) (.c (.sc (.int .i64 1)))⟩,⟨some 13,none,.mv (.t 25)⟩]))))))) (.seq (.reg [ ⟨some 4,none,.mv (.c (.sc (.bool true)))⟩]) .ret))))
def sh_slices_Equal_lapi_Order_api_Order (a0 a1 : AV) (σ : Hp) (n : Nat) (R : AEnd → Hp → Nat → Prop) : Prop :=
 bindP (aLen false a0) fun v1 => bnd σ a0 →
 bindP (aLen false a1) fun v2 => bnd σ a1 →
 bindP (semBin .neq v1 v2) fun v3 =>
 COND v3 (
 R (.ret (.sc (.bool false))) σ n) (
 bindP (aLen false a0) fun v4 => bnd σ a0 →
 LOOP (lb_slices_Equal_lapi_Order_api_Order1 v4 a0 a1 R) [(.tp []), (.tp []), (.tp []), (.sc (.bool false)), (.sc (.int .i64 0))] σ n)
theorem se_slices_Equal_lapi_Order_api_Order (a0 a1 : AV) (σ : Hp) (n : Nat) (R : AEnd → Hp → Nat → Prop) : sh_slices_Equal_lapi_Order_api_Order a0 a1 σ n R = swp Tryd.prog sc_slices_Equal_lapi_Order_api_Order (retQ [(.t 4)] R) (entry [a0, a1]) σ n := by kernel_rfl
theorem by_slices_Equal_lapi_Order_api_Order {a0 a1 : AV} {σ : Hp} {n : Nat} {R : AEnd → Hp → Nat → Prop} (h : sh_slices_Equal_lapi_Order_api_Order a0 a1 σ n R) : ConH Tryd.prog 43 [a0, a1] σ n R := by
  rw [se_slices_Equal_lapi_Order_api_Order] at h
  exact conH_of [(.t 4)] (fn := Tryd.f43) rfl [10, 12, 14, 0, 1, 5, 24, 13, 4] (by kernel_rfl) (by kernel_rfl) (by kernel_rfl) (by kernel_rfl) h
def kc_ref04_Same1 (Kg : AV → Hp → Nat → Prop) (R : AEnd → Hp → Nat → Prop) (r : AEnd) (σ : Hp) (n : Nat) : Prop :=
 onEnd r (fun v9 =>
 Kg v9 σ n) (fun v10 => R (.pan v10) σ n)
def kc_ref04_Same2 (Kg : AV → Hp → Nat → Prop) (R : AEnd → Hp → Nat → Prop) (r : AEnd) (σ : Hp) (n : Nat) : Prop :=
 onEnd r (fun v16 =>
 Kg v16 σ n) (fun v17 => R (.pan v17) σ n)
def kc_ref04_Same3 (v2 : AV) (R : AEnd → Hp → Nat → Prop) (v1 : AV) (r : AEnd) (σ : Hp) (n : Nat) : Prop :=
 onEnd r (fun v4 =>
 bindP (semBin .eql v4 (.sc (.int .i64 0))) fun v6 =>
 guardP v6 true (aLd σ (some 14) v2) fun v7 =>
 guardK v6 true (fun Kg => CALL Tryd.prog (.fn 18 []) [v7] σ n (kc_ref04_Same1 Kg R)) σ n fun v8 σ n =>
 guardP v6 true (semBin .eql v8 (.sc (.int .i64 0))) fun v11 =>
 bindP (aPick v6 v11 (.sc (.bool false))) fun v12 =>
 guardP v12 true (aLd σ (some 14) v1) fun v13 =>
 guardP v12 true (aLd σ (some 14) v2) fun v14 =>
 guardK v12 true (fun Kg => CALL Tryd.prog (.fn 47 []) [v13, v14] σ n (kc_ref04_Same2 Kg R)) σ n fun v15 σ n =>
 bindP (aPick v12 v15 (.sc (.bool false))) fun v18 =>
 R (.ret v18) σ n) (fun v5 => R (.pan v5) σ n)
attribute [go_sem] kc_ref04_Same1 kc_ref04_Same2 kc_ref04_Same3
def sc_ref04_Same : SCode := (.seq (.reg [ ⟨some 2,none,.box (.t 0)⟩,⟨some 3,none,.box (.t 1)⟩,⟨some 4,none,.mv (.c (.sc (.bool false)))⟩]) (.seq (.reg [ ⟨some 5,none,.ld (some 14) (.t 2)⟩,⟨some 6,none,.call (.c (.fn 18 [])) [(.t 5)]⟩,⟨some 7,none,.bin .eql (.t 6) (.c (.sc (.int .i64 0)))⟩,⟨some 8,none,.mv (.t 7)⟩,⟨(some 9),(some (8,true)),(.ld (some 14) (.t 3))⟩,⟨(some 10),(some (8,true)),(.call (.c (.fn 18 [])) [(.t 9)])⟩,⟨(some 11),(some (8,true)),(.bin .eql (.t 10) (.c (.sc (.int .i64 0))))⟩,⟨some 12,none,.pick (.t 8) (.t 11) (.c (.sc (.bool false)))⟩,⟨some 13,none,.mv (.t 12)⟩,⟨(some 14),(some (13,true)),(.ld (some 14) (.t 2))⟩,⟨(some 15),(some (13,true)),(.ld (some 14) (.t 3))⟩,⟨(some 16),(some (13,true)),(.call (.c (.fn 47 [])) [(.t 14),(.t 15)])⟩,⟨some 17,none,.pick (.t 13) (.t 16) (.c (.sc (.bool false)))⟩,⟨some 4,none,.mv (.t 17)⟩]) .ret))
def sh_ref04_Same (a0 a1 : AV) (σ : Hp) (n : Nat) (R : AEnd → Hp → Nat → Prop) : Prop :=
 bindS (hBox n a0) σ n fun v1 σ n =>
 bindS (hBox n a1) σ n fun v2 σ n =>
 bindP (aLd σ (some 14) v1) fun v3 =>
 CALL Tryd.prog (.fn 18 []) [v3] σ n (kc_ref04_Same3 v2 R v1)
theorem se_ref04_Same (a0 a1 : AV) (σ : Hp) (n : Nat) (R : AEnd → Hp → Nat → Prop) : sh_ref04_Same a0 a1 σ n R = swp Tryd.prog sc_ref04_Same (retQ [(.t 4)] R) (entry [a0, a1]) σ n := by kernel_rfl
theorem by_ref04_Same {a0 a1 : AV} {σ : Hp} {n : Nat} {R : AEnd → Hp → Nat → Prop} (h : sh_ref04_Same a0 a1 σ n R) : ConH Tryd.prog 20 [a0, a1] σ n R := by
  rw [se_ref04_Same] at h
  exact conH_of [(.t 4)] (fn := Tryd.f20) rfl [0, 1, 2, 3, 4] (by kernel_rfl) (by kernel_rfl) (by kernel_rfl) (by kernel_rfl) h
def kd_ref04_Alike1 (v91 : AV) (v96 : AV) (v94 : AV) (v99 : AV) (n : Nat) (σ : Hp) (R : AEnd → Hp → Nat → Prop) (s86 : List AV) (K86 : List AV → Hp → Nat → Prop) (v90 : AV) (r : AEnd) (w101 : Wr) (d101 : List Nat) : Prop :=
 onEnd r (fun v101 =>
 bindP (aUn .not v101) fun v103 =>
 Apt (names []) (rdA v91) (names []) (rdA v96) ∧
 Apt (names []) (rdA v94) (names []) (rdA v96) ∧
 Apt (names []) (rdA v91) (names []) (rdA v99) ∧
 Apt (names []) (rdA v94) (names []) (rdA v99) ∧
 ∀ n_, n + 16 * 12 ≤ n_ → (fun n => (fun σ => COND v103 (
 R (.ret (.sc (.bool false))) σ n) (
 bindP (semBin .add (s86.getD 3 .any) (.sc (.int .i64 1))) fun v104 =>
 K86 [v90, v103, (s86.getD 2 .any), v104] σ n)) (applyW σ w101)) n_) (fun v102 => Apt (names []) (rdA v91) (names []) (rdA v96) ∧
 Apt (names []) (rdA v94) (names []) (rdA v96) ∧
 Apt (names []) (rdA v91) (names []) (rdA v99) ∧
 Apt (names []) (rdA v94) (names []) (rdA v99) ∧
 ∀ (fr_ : Regs) σ n, R (.pan v102) σ n)
def kd_ref04_Alike2 (Kd : AV → Wr → List Nat → Prop) (v110 : AV) (v116 : AV) (v114 : AV) (v120 : AV) (v124 : AV) (v130 : AV) (v128 : AV) (v134 : AV) (σ : Hp) (n : Nat) (R : AEnd → Hp → Nat → Prop) (r : AEnd) (w137 : Wr) (d137 : List Nat) : Prop :=
 onEnd r (fun v137 =>
 Kd v137 w137 d137) (fun v138 => Apt (names []) (rdA v110) (names []) (rdA v116) ∧
 Apt (names []) (rdA v114) (names []) (rdA v116) ∧
 Apt (names []) (rdA v110) (names []) (rdA v120) ∧
 Apt (names []) (rdA v114) (names []) (rdA v120) ∧
 Apt (names []) (rdA v124) (names []) (rdA v130) ∧
 Apt (names []) (rdA v128) (names []) (rdA v130) ∧
 Apt (names []) (rdA v124) (names []) (rdA v134) ∧
 Apt (names []) (rdA v128) (names []) (rdA v134) ∧
 ∀ (fr_ : Regs) σ n, R (.pan v138) σ n)
def kc_ref04_Alike3 (Kg : AV → Hp → Nat → Prop) (R : AEnd → Hp → Nat → Prop) (r : AEnd) (σ : Hp) (n : Nat) : Prop :=
 onEnd r (fun v170 =>
 Kg v170 σ n) (fun v171 => R (.pan v171) σ n)
def kc_ref04_Alike4 (Kg : AV → Hp → Nat → Prop) (R : AEnd → Hp → Nat → Prop) (r : AEnd) (σ : Hp) (n : Nat) : Prop :=
 onEnd r (fun v178 =>
 Kg v178 σ n) (fun v179 => R (.pan v179) σ n)
def kc_ref04_Alike5 (Kg : AV → Hp → Nat → Prop) (R : AEnd → Hp → Nat → Prop) (r : AEnd) (σ : Hp) (n : Nat) : Prop :=
 onEnd r (fun v186 =>
 Kg v186 σ n) (fun v187 => R (.pan v187) σ n)
def kc_ref04_Alike6 (v1 : AV) (v2 : AV) (R : AEnd → Hp → Nat → Prop) (r : AEnd) (σ : Hp) (n : Nat) : Prop :=
 onEnd r (fun v163 =>
 guardP v163 true (aFad 9 v1) fun v165 =>
 guardP v163 true (aLd σ none v165) fun v166 =>
 guardP v163 true (aFad 9 v2) fun v167 =>
 guardP v163 true (aLd σ none v167) fun v168 =>
 guardK v163 true (fun Kg => CALL Tryd.prog (.fn 67 []) [v166, v168] σ n (kc_ref04_Alike3 Kg R)) σ n fun v169 σ n =>
 bindP (aPick v163 v169 (.sc (.bool false))) fun v172 =>
 guardP v172 true (aFad 10 v1) fun v173 =>
 guardP v172 true (aLd σ none v173) fun v174 =>
 guardP v172 true (aFad 10 v2) fun v175 =>
 guardP v172 true (aLd σ none v175) fun v176 =>
 guardK v172 true (fun Kg => CALL Tryd.prog (.fn 67 []) [v174, v176] σ n (kc_ref04_Alike4 Kg R)) σ n fun v177 σ n =>
 bindP (aPick v172 v177 (.sc (.bool false))) fun v180 =>
 guardP v180 true (aFad 11 v1) fun v181 =>
 guardP v180 true (aLd σ none v181) fun v182 =>
 guardP v180 true (aFad 11 v2) fun v183 =>
 guardP v180 true (aLd σ none v183) fun v184 =>
 guardK v180 true (fun Kg => CALL Tryd.prog (.fn 67 []) [v182, v184] σ n (kc_ref04_Alike5 Kg R)) σ n fun v185 σ n =>
 bindP (aPick v180 v185 (.sc (.bool false))) fun v188 =>
 R (.ret v188) σ n) (fun v164 => R (.pan v164) σ n)
def lb_ref04_Alike7 (v1 : AV) (v2 : AV) (R : AEnd → Hp → Nat → Prop) (K142 : List AV → Hp → Nat → Prop) (s142 : List AV) (σ : Hp) (n : Nat) : Prop :=
 bindP (aFad 12 v1) fun v143 =>
 bindP (aLd σ none v143) fun v144 =>
 bindP (aLen false v144) fun v145 => bnd σ v144 →
 bindP (semBin .lss (s142.getD 3 .any) v145) fun v146 =>
 COND v146 (
 bindP (aFad 12 v1) fun v147 =>
 bindP (aLd σ none v147) fun v148 =>
 bindP (aIad 2 v148 (s142.getD 3 .any)) fun v150 =>
 bindP (aLd σ (some 2) v150) fun v151 =>
 bindP (aFad 12 v2) fun v152 =>
 bindP (aLd σ none v152) fun v153 =>
 bindP (aIad 2 v153 (s142.getD 3 .any)) fun v155 =>
 bindP (aLd σ (some 2) v155) fun v156 =>
 bindP (aEqs [0, 1] true v151 v156) fun v157 =>
 Apt (names []) (rdA v147) (names []) (rdA v152) ∧
 Apt (names []) (rdA v150) (names []) (rdA v152) ∧
 Apt (names []) (rdA v147) (names []) (rdA v155) ∧
 Apt (names []) (rdA v150) (names []) (rdA v155) ∧
 ∀ n_, n + 16 * 11 ≤ n_ → (fun n => COND v157 (
 R (.ret (.sc (.bool false))) σ n) (
 bindP (semBin .add (s142.getD 3 .any) (.sc (.int .i64 1))) fun v158 =>
 K142 [v146, v157, (s142.getD 2 .any), v158] σ n)) n_) (
 bindP (aFad 7 v1) fun v159 =>
 bindP (aLd σ none v159) fun v160 =>
 bindP (aFad 7 v2) fun v161 =>
 bindP (aLd σ none v161) fun v162 =>
 CALL Tryd.prog (.fn 67 []) [v160, v162] σ n (kc_ref04_Alike6 v1 v2 R))
def lb_ref04_Alike8 (v1 : AV) (v2 : AV) (R : AEnd → Hp → Nat → Prop) (K105 : List AV → Hp → Nat → Prop) (s105 : List AV) (σ : Hp) (n : Nat) : Prop :=
 bindP (aFad 6 v1) fun v106 =>
 bindP (aLd σ none v106) fun v107 =>
 bindP (aLen false v107) fun v108 => bnd σ v107 →
 bindP (semBin .lss (s105.getD 3 .any) v108) fun v109 =>
 COND v109 (
 bindP (aFad 6 v1) fun v110 =>
 bindP (aLd σ none v110) fun v111 =>
 bindP (aIad 8 v111 (s105.getD 3 .any)) fun v113 =>
 bindP (aFad 0 v113) fun v114 =>
 bindP (aLd σ none v114) fun v115 =>
 bindP (aFad 6 v2) fun v116 =>
 bindP (aLd σ none v116) fun v117 =>
 bindP (aIad 8 v117 (s105.getD 3 .any)) fun v119 =>
 bindP (aFad 0 v119) fun v120 =>
 bindP (aLd σ none v120) fun v121 =>
 bindP (semBin .neq v115 v121) fun v122 =>
 guardP v122 false (aFad 6 v1) fun v124 =>
 guardP v122 false (aLd σ none v124) fun v125 =>
 guardP v122 false (some (s105.getD 3 .any)) fun v126 =>
 guardP v122 false (aIad 8 v125 v126) fun v127 =>
 guardP v122 false (aFad 1 v127) fun v128 =>
 guardP v122 false (aLd σ (some 7) v128) fun v129 =>
 guardP v122 false (aFad 6 v2) fun v130 =>
 guardP v122 false (aLd σ none v130) fun v131 =>
 guardP v122 false (some (s105.getD 3 .any)) fun v132 =>
 guardP v122 false (aIad 8 v131 v132) fun v133 =>
 guardP v122 false (aFad 1 v133) fun v134 =>
 guardP v122 false (aLd σ (some 7) v134) fun v135 =>
 guardD v122 false (fun Kd => callD Tryd.prog (.fn 68 []) [v129, v135] σ (n + 16 * 26) (kd_ref04_Alike2 Kd v110 v116 v114 v120 v124 v130 v128 v134 σ n R)) fun v136 w136 d136 =>
 guardP v122 false (aUn .not v136) fun v139 =>
 bindP (aPick v122 (.sc (.bool true)) v139) fun v140 =>
 Apt (names []) (rdA v110) (names []) (rdA v116) ∧
 Apt (names []) (rdA v114) (names []) (rdA v116) ∧
 Apt (names []) (rdA v110) (names []) (rdA v120) ∧
 Apt (names []) (rdA v114) (names []) (rdA v120) ∧
 Apt (names []) (rdA v124) (names []) (rdA v130) ∧
 Apt (names []) (rdA v128) (names []) (rdA v130) ∧
 Apt (names []) (rdA v124) (names []) (rdA v134) ∧
 Apt (names []) (rdA v128) (names []) (rdA v134) ∧
 ∀ n_, n + 16 * 29 ≤ n_ → (fun n => (fun σ => COND v140 (
 R (.ret (.sc (.bool false))) σ n) (
 bindP (semBin .add (s105.getD 3 .any) (.sc (.int .i64 1))) fun v141 =>
 K105 [v109, v140, (s105.getD 2 .any), v141] σ n)) (applyW σ w136)) n_) (
 LOOP (lb_ref04_Alike7 v1 v2 R) [(.tp []), (.tp []), (s105.getD 2 .any), (.sc (.int .i64 0))] σ n)
def lb_ref04_Alike9 (v1 : AV) (v2 : AV) (R : AEnd → Hp → Nat → Prop) (K86 : List AV → Hp → Nat → Prop) (s86 : List AV) (σ : Hp) (n : Nat) : Prop :=
 bindP (aFad 5 v1) fun v87 =>
 bindP (aLd σ none v87) fun v88 =>
 bindP (aLen false v88) fun v89 => bnd σ v88 →
 bindP (semBin .lss (s86.getD 3 .any) v89) fun v90 =>
 COND v90 (
 bindP (aFad 5 v1) fun v91 =>
 bindP (aLd σ none v91) fun v92 =>
 bindP (aIad 1 v92 (s86.getD 3 .any)) fun v94 =>
 bindP (aLd σ none v94) fun v95 =>
 bindP (aFad 5 v2) fun v96 =>
 bindP (aLd σ none v96) fun v97 =>
 bindP (aIad 1 v97 (s86.getD 3 .any)) fun v99 =>
 bindP (aLd σ none v99) fun v100 =>
 callD Tryd.prog (.fn 67 []) [v95, v100] σ (n + 16 * 10) (kd_ref04_Alike1 v91 v96 v94 v99 n σ R s86 K86 v90)) (
 LOOP (lb_ref04_Alike8 v1 v2 R) [(.tp []), (.tp []), (s86.getD 2 .any), (.sc (.int .i64 0))] σ n)
def lb_ref04_Alike10 (v1 : AV) (v2 : AV) (R : AEnd → Hp → Nat → Prop) (K69 : List AV → Hp → Nat → Prop) (s69 : List AV) (σ : Hp) (n : Nat) : Prop :=
 bindP (aFad 2 v1) fun v70 =>
 bindP (aLd σ none v70) fun v71 =>
 bindP (aLen false v71) fun v72 => bnd σ v71 →
 bindP (semBin .lss (s69.getD 3 .any) v72) fun v73 =>
 COND v73 (
 bindP (aFad 2 v1) fun v74 =>
 bindP (aLd σ none v74) fun v75 =>
 bindP (aIad 3 v75 (s69.getD 3 .any)) fun v77 =>
 bindP (aLd σ (some 3) v77) fun v78 =>
 bindP (aFad 2 v2) fun v79 =>
 bindP (aLd σ none v79) fun v80 =>
 bindP (aIad 3 v80 (s69.getD 3 .any)) fun v82 =>
 bindP (aLd σ (some 3) v82) fun v83 =>
 bindP (aEqs [2, 0, 1] true v78 v83) fun v84 =>
 Apt (names []) (rdA v74) (names []) (rdA v79) ∧
 Apt (names []) (rdA v77) (names []) (rdA v79) ∧
 Apt (names []) (rdA v74) (names []) (rdA v82) ∧
 Apt (names []) (rdA v77) (names []) (rdA v82) ∧
 ∀ n_, n + 16 * 11 ≤ n_ → (fun n => COND v84 (
 R (.ret (.sc (.bool false))) σ n) (
 bindP (semBin .add (s69.getD 3 .any) (.sc (.int .i64 1))) fun v85 =>
 K69 [v73, v84, (s69.getD 2 .any), v85] σ n)) n_) (
 LOOP (lb_ref04_Alike9 v1 v2 R) [(.tp []), (.tp []), (s69.getD 2 .any), (.sc (.int .i64 0))] σ n)
attribute [go_sem] kd_ref04_Alike1 kd_ref04_Alike2 kc_ref04_Alike3 kc_ref04_Alike4 kc_ref04_Alike5 kc_ref04_Alike6 lb_ref04_Alike7 lb_ref04_Alike8 lb_ref04_Alike9 lb_ref04_Alike10
def sc_ref04_Alike : SCode := (.seq (.reg [ ⟨some 2,none,.box (.t 0)⟩,⟨some 3,none,.box (.t 1)⟩,⟨some 4,none,.mv (.c (.sc (.bool false)))⟩]) (.seq (.seq (.reg [ ⟨some 9,none,.fad 0 (.t 2)⟩,⟨some 10,none,.ld none (.t 9)⟩,⟨some 11,none,.fad 0 (.t 3)⟩,⟨some 12,none,.ld none (.t 11)⟩,⟨some 13,none,.bin .neq (.t 10) (.t 12)⟩,⟨some 14,none,.mv (.t 13)⟩,⟨(some 15),(some (14,false)),(.fad 1 (.t 2))⟩,⟨(some 16),(some (14,false)),(.ld none (.t 15))⟩,⟨(some 17),(some (14,false)),(.fad 1 (.t 3))⟩,⟨(some 18),(some (14,false)),(.ld none (.t 17))⟩,⟨(some 19),(some (14,false)),(.bin .neq (.t 16) (.t 18))⟩,⟨some 20,none,.pick (.t 14) (.c (.sc (.bool true))) (.t 19)⟩,⟨some 21,none,.mv (.t 20)⟩,⟨(some 22),(some (21,false)),(.fad 3 (.t 2))⟩,⟨(some 23),(some (21,false)),(.ld none (.t 22))⟩,⟨(some 24),(some (21,false)),(.fad 3 (.t 3))⟩,⟨(some 25),(some (21,false)),(.ld none (.t 24))⟩,⟨(some 26),(some (21,false)),(.bin .neq (.t 23) (.t 25))⟩,⟨some 27,none,.pick (.t 21) (.c (.sc (.bool true))) (.t 26)⟩,⟨some 28,none,.mv (.t 27)⟩,⟨(some 29),(some (28,false)),(.fad 4 (.t 2))⟩,⟨(some 30),(some (28,false)),(.ld none (.t 29))⟩,⟨(some 31),(some (28,false)),(.fad 4 (.t 3))⟩,⟨(some 32),(some (28,false)),(.ld none (.t 31))⟩,⟨(some 33),(some (28,false)),(.bin .neq (.t 30) (.t 32))⟩,⟨some 34,none,.pick (.t 28) (.c (.sc (.bool true))) (.t 33)⟩,⟨some 35,none,.mv (.t 34)⟩,⟨(some 36),(some (35,false)),(.fad 8 (.t 2))⟩,⟨(some 37),(some (35,false)),(.ld none (.t 36))⟩,⟨(some 38),(some (35,false)),(.fad 8 (.t 3))⟩,⟨(some 39),(some (35,false)),(.ld none (.t 38))⟩,⟨(some 40),(some (35,false)),(.bin .neq (.t 37) (.t 39))⟩,⟨some 41,none,.pick (.t 35) (.c (.sc (.bool true))) (.t 40)⟩,⟨some 42,none,.mv (.t 41)⟩,⟨(some 43),(some (42,false)),(.fad 13 (.t 2))⟩,⟨(some 44),(some (42,false)),(.ld none (.t 43))⟩,⟨(some 45),(some (42,false)),(.fad 13 (.t 3))⟩,⟨(some 46),(some (42,false)),(.ld none (.t 45))⟩,⟨(some 47),(some (42,false)),(.bin .neq (.t 44) (.t 46))⟩,⟨some 48,none,.pick (.t 42) (.c (.sc (.bool true))) (.t 47)⟩]) (.cond (.t 48) (.seq (.reg [ ⟨some 4,none,.mv (.c (.sc (.bool false)))⟩]) .ret) .skip)) (.seq (.seq (.reg [ ⟨some 49,none,.fad 2 (.t 2)⟩,⟨some 50,none,.ld none (.t 49)⟩,⟨some 51,none,.len false (.t 50)⟩,⟨some 52,none,.fad 2 (.t 3)⟩,⟨some 53,none,.ld none (.t 52)⟩,⟨some 54,none,.len false (.t 53)⟩,⟨some 55,none,.bin .neq (.t 51) (.t 54)⟩,⟨some 56,none,.mv (.t 55)⟩,⟨(some 57),(some (56,false)),(.fad 5 (.t 2))⟩,⟨(some 58),(some (56,false)),(.ld none (.t 57))⟩,⟨(some 59),(some (56,false)),(.len false (.t 58))⟩,⟨(some 60),(some (56,false)),(.fad 5 (.t 3))⟩,⟨(some 61),(some (56,false)),(.ld none (.t 60))⟩,⟨(some 62),(some (56,false)),(.len false (.t 61))⟩,⟨(some 63),(some (56,false)),(.bin .neq (.t 59) (.t 62))⟩,⟨some 64,none,.pick (.t 56) (.c (.sc (.bool true))) (.t 63)⟩,⟨some 65,none,.mv (.t 64)⟩,⟨(some 66),(some (65,false)),(.fad 6 (.t 2))⟩,⟨(some 67),(some (65,false)),(.ld none (.t 66))⟩,⟨(some 68),(some (65,false)),(.len false (.t 67))⟩,⟨(some 69),(some (65,false)),(.fad 6 (.t 3))⟩,⟨(some 70),(some (65,false)),(.ld none (.t 69))⟩,⟨(some 71),(some (65,false)),(.len false (.t 70))⟩,⟨(some 72),(some (65,false)),(.bin .neq (.t 68) (.t 71))⟩,⟨some 73,none,.pick (.t 65) (.c (.sc (.bool true))) (.t 72)⟩,⟨some 74,none,.mv (.t 73)⟩,⟨(some 75),(some (74,false)),(.fad 12 (.t 2))⟩,⟨(some 76),(some (74,false)),(.ld none (.t 75))⟩,⟨(some 77),(some (74,false)),(.len false (.t 76))⟩,⟨(some 78),(some (74,false)),(.fad 12 (.t 3))⟩,⟨(some 79),(some (74,false)),(.ld none (.t 78))⟩,⟨(some 80),(some (74,false)),(.len false (.t 79))⟩,⟨(some 81),(some (74,false)),(.bin .neq (.t 77) (.t 80))⟩,⟨some 82,none,.pick (.t 74) (.c (.sc (.bool true))) (.t 81)⟩]) (.cond (.t 82) (.seq (.reg [ ⟨some 4,none,.mv (.c (.sc (.bool false)))⟩]) .ret) .skip)) (.seq (.seq (.reg [ ⟨some 5,none,.mv (.c (.sc (.int .i64 0)))⟩]) (.block 0 (.loop [87,100,4,5] [83,84,85,86,87,90,91,92,93,94,95,96,97,98,99,100,4,88,89,5] (.seq (.seq (.reg [ ⟨some 83,none,.mv (.t 5)⟩,⟨some 84,none,.fad 2 (.t 2)⟩,⟨some 85,none,.ld none (.t 84)⟩,⟨some 86,none,.len false (.t 85)⟩,⟨some 87,none,.bin .lss (.t 83) (.t 86)⟩]) (.cond (.t 87) .skip (.exit 0))) (.seq (.block 1 (.seq (.regD [(⟨some 90,none,.fad 2 (.t 2)⟩,[]),(⟨some 91,none,.ld none (.t 90)⟩,[0]),(⟨some 92,none,.mv (.t 5)⟩,[]),(⟨some 93,none,.iad 3 (.t 91) (.t 92)⟩,[1,0,2]),(⟨some 94,none,.ld (some 3) (.t 93)⟩,[3,1,0,2]),(⟨some 95,none,.fad 2 (.t 3)⟩,[]),(⟨some 96,none,.ld none (.t 95)⟩,[5]),(⟨some 97,none,.mv (.t 5)⟩,[]),(⟨some 98,none,.iad 3 (.t 96) (.t 97)⟩,[6,5,7]),(⟨some 99,none,.ld (some 3) (.t 98)⟩,[8,6,5,7]),(⟨some 100,none,.eqs [2,0,1] true (.t 94) (.t 99)⟩,[4,3,1,0,2,9,8,6,5,7])]) (.cond (.t 100) (.seq (.reg [ ⟨some 4,none,.mv (.c (.sc (.bool false)))⟩]) .ret) .skip))) (.reg [ ⟨some 88,none,.mv (.t 5)⟩,⟨some 89,none,.bin .add (.t 88) (.c (.sc (.int .i64 1)))⟩,⟨some 5,none,.mv (.t 89)⟩])))))) (.seq (.seq (.reg [ ⟨some 6,none,.mv (.c (.sc (.int .i64 0)))⟩]) (.block 2 (.loop [105,119,4,6] [101,102,103,104,105,108,109,110,111,112,113,114,115,116,117,118,119,4,106,107,6] (.seq (.seq (.reg [ ⟨some 101,none,.mv (.t 6)⟩,⟨some 102,none,.fad 5 (.t 2)⟩,⟨some 103,none,.ld none (.t 102)⟩,⟨some 104,none,.len false (.t 103)⟩,⟨some 105,none,.bin .lss (.t 101) (.t 104)⟩]) (.cond (.t 105) .skip (.exit 2))) (.seq (.block 3 (.seq (.regD [(⟨some 108,none,.fad 5 (.t 2)⟩,[]),(⟨some 109,none,.ld none (.t 108)⟩,[0]),(⟨some 110,none,.mv (.t 6)⟩,[]),(⟨some 111,none,.iad 1 (.t 109) (.t 110)⟩,[1,0,2]),(⟨some 112,none,.ld none (.t 111)⟩,[3,1,0,2]),(⟨some 113,none,.fad 5 (.t 3)⟩,[]),(⟨some 114,none,.ld none (.t 113)⟩,[5]),(⟨some 115,none,.mv (.t 6)⟩,[]),(⟨some 116,none,.iad 1 (.t 114) (.t 115)⟩,[6,5,7]),(⟨some 117,none,.ld none (.t 116)⟩,[8,6,5,7]),(⟨some 118,none,.call (.c (.fn 67 [])) [(.t 112),(.t 117)]⟩,[4,3,1,0,2,9,8,6,5,7]),(⟨some 119,none,.un .not (.t 118)⟩,[10,4,3,1,0,2,9,8,6,5,7])]) (.cond (.t 119) (.seq (.reg [ ⟨some 4,none,.mv (.c (.sc (.bool false)))⟩]) .ret) .skip))) (.reg [ ⟨some 106,none,.mv (.t 6)⟩,⟨some 107,none,.bin .add (.t 106) (.c (.sc (.int .i64 1)))⟩,⟨some 6,none,.mv (.t 107)⟩])))))) (.seq (.seq (.reg [ ⟨some 7,none,.mv (.c (.sc (.int .i64 0)))⟩]) (.block 4 (.loop [124,155,4,7] [120,121,122,123,124,127,128,129,130,131,132,133,134,135,136,137,138,139,140,141,142,143,144,145,146,147,148,149,150,151,152,153,154,155,4,125,126,7] (.seq (.seq (.reg [ ⟨some 120,none,.mv (.t 7)⟩,⟨some 121,none,.fad 6 (.t 2)⟩,⟨some 122,none,.ld none (.t 121)⟩,⟨some 123,none,.len false (.t 122)⟩,⟨some 124,none,.bin .lss (.t 120) (.t 123)⟩]) (.cond (.t 124) .skip (.exit 4))) (.seq (.block 5 (.seq (.regD [(⟨some 127,none,.fad 6 (.t 2)⟩,[]),(⟨some 128,none,.ld none (.t 127)⟩,[0]),(⟨some 129,none,.mv (.t 7)⟩,[]),(⟨some 130,none,.iad 8 (.t 128) (.t 129)⟩,[1,0,2]),(⟨some 131,none,.fad 0 (.t 130)⟩,[3,1,0,2]),(⟨some 132,none,.ld none (.t 131)⟩,[4,3,1,0,2]),(⟨some 133,none,.fad 6 (.t 3)⟩,[]),(⟨some 134,none,.ld none (.t 133)⟩,[6]),(⟨some 135,none,.mv (.t 7)⟩,[]),(⟨some 136,none,.iad 8 (.t 134) (.t 135)⟩,[7,6,8]),(⟨some 137,none,.fad 0 (.t 136)⟩,[9,7,6,8]),(⟨some 138,none,.ld none (.t 137)⟩,[10,9,7,6,8]),(⟨some 139,none,.bin .neq (.t 132) (.t 138)⟩,[5,4,3,1,0,2,11,10,9,7,6,8]),(⟨some 140,none,.mv (.t 139)⟩,[12,5,4,3,1,0,2,11,10,9,7,6,8]),(⟨(some 141),(some (140,false)),(.fad 6 (.t 2))⟩,[13,12,5,4,3,1,0,2,11,10,9,7,6,8]),(⟨(some 142),(some (140,false)),(.ld none (.t 141))⟩,[14,13,12,5,4,3,1,0,2,11,10,9,7,6,8]),(⟨(some 143),(some (140,false)),(.mv (.t 7))⟩,[13,12,5,4,3,1,0,2,11,10,9,7,6,8]),(⟨(some 144),(some (140,false)),(.iad 8 (.t 142) (.t 143))⟩,[15,14,13,12,5,4,3,1,0,2,11,10,9,7,6,8,16]),(⟨(some 145),(some (140,false)),(.fad 1 (.t 144))⟩,[17,15,14,13,12,5,4,3,1,0,2,11,10,9,7,6,8,16]),(⟨(some 146),(some (140,false)),(.ld (some 7) (.t 145))⟩,[18,17,15,14,13,12,5,4,3,1,0,2,11,10,9,7,6,8,16]),(⟨(some 147),(some (140,false)),(.fad 6 (.t 3))⟩,[13,12,5,4,3,1,0,2,11,10,9,7,6,8]),(⟨(some 148),(some (140,false)),(.ld none (.t 147))⟩,[20,13,12,5,4,3,1,0,2,11,10,9,7,6,8]),(⟨(some 149),(some (140,false)),(.mv (.t 7))⟩,[13,12,5,4,3,1,0,2,11,10,9,7,6,8]),(⟨(some 150),(some (140,false)),(.iad 8 (.t 148) (.t 149))⟩,[21,20,13,12,5,4,3,1,0,2,11,10,9,7,6,8,22]),(⟨(some 151),(some (140,false)),(.fad 1 (.t 150))⟩,[23,21,20,13,12,5,4,3,1,0,2,11,10,9,7,6,8,22]),(⟨(some 152),(some (140,false)),(.ld (some 7) (.t 151))⟩,[24,23,21,20,13,12,5,4,3,1,0,2,11,10,9,7,6,8,22]),(⟨(some 153),(some (140,false)),(.call (.c (.fn 68 [])) [(.t 146),(.t 152)])⟩,[19,18,17,15,14,13,12,5,4,3,1,0,2,11,10,9,7,6,8,16,25,24,23,21,20,22]),(⟨(some 154),(some (140,false)),(.un .not (.t 153))⟩,[26,19,18,17,15,14,13,12,5,4,3,1,0,2,11,10,9,7,6,8,16,25,24,23,21,20,22]),(⟨some 155,none,.pick (.t 140) (.c (.sc (.bool true))) (.t 154)⟩,[13,12,5,4,3,1,0,2,11,10,9,7,6,8,27,26,19,18,17,15,14,16,25,24,23,21,20,22])]) (.cond (.t 155) (.seq (.reg [ ⟨some 4,none,.mv (.c (.sc (.bool false)))⟩]) .ret) .skip))) (.reg [ ⟨some 125,none,.mv (.t 7)⟩,⟨some 126,none,.bin .add (.t 125) (.c (.sc (.int .i64 1)))⟩,⟨some 7,none,.mv (.t 126)⟩])))))) (.seq (.seq (.reg [ ⟨some 8,none,.mv (.c (.sc (.int .i64 0)))⟩]) (.block 6 (.loop [160,173,4,8] [156,157,158,159,160,163,164,165,166,167,168,169,170,171,172,173,4,161,162,8] (.seq (.seq (.reg [ ⟨some 156,none,.mv (.t 8)⟩,⟨some 157,none,.fad 12 (.t 2)⟩,⟨some 158,none,.ld none (.t 157)⟩,⟨some 159,none,.len false (.t 158)⟩,⟨some 160,none,.bin .lss (.t 156) (.t 159)⟩]) (.cond (.t 160) .skip (.exit 6))) (.seq (.block 7 (.seq (.regD [(⟨some 163,none,.fad 12 (.t 2)⟩,[]),(⟨some 164,none,.ld none (.t 163)⟩,[0]),(⟨some 165,none,.mv (.t 8)⟩,[]),(⟨some 166,none,.iad 2 (.t 164) (.t 165)⟩,[1,0,2]),(⟨some 167,none,.ld (some 2) (.t 166)⟩,[3,1,0,2]),(⟨some 168,none,.fad 12 (.t 3)⟩,[]),(⟨some 169,none,.ld none (.t 168)⟩,[5]),(⟨some 170,none,.mv (.t 8)⟩,[]),(⟨some 171,none,.iad 2 (.t 169) (.t 170)⟩,[6,5,7]),(⟨some 172,none,.ld (some 2) (.t 171)⟩,[8,6,5,7]),(⟨some 173,none,.eqs [0,1] true (.t 167) (.t 172)⟩,[4,3,1,0,2,9,8,6,5,7])]) (.cond (.t 173) (.seq (.reg [ ⟨some 4,none,.mv (.c (.sc (.bool false)))⟩]) .ret) .skip))) (.reg [ ⟨some 161,none,.mv (.t 8)⟩,⟨some 162,none,.bin .add (.t 161) (.c (.sc (.int .i64 1)))⟩,⟨some 8,none,.mv (.t 162)⟩])))))) (.seq (.reg [ ⟨some 174,none,.fad 7 (.t 2)⟩,⟨some 175,none,.ld none (.t 174)⟩,⟨some 176,none,.fad 7 (.t 3)⟩,⟨some 177,none,.ld none (.t 176)⟩,⟨some 178,none,.call (.c (.fn 67 [])) [(.t 175),(.t 177)]⟩,⟨some 179,none,.mv (.t 178)⟩,⟨(some 180),(some (179,true)),(.fad 9 (.t 2))⟩,⟨(some 181),(some (179,true)),(.ld none (.t 180))⟩,⟨(some 182),(some (179,true)),(.fad 9 (.t 3))⟩,⟨(some 183),(some (179,true)),(.ld none (.t 182))⟩,⟨(some 184),(some (179,true)),(.call (.c (.fn 67 [])) [(.t 181),(.t 183)])⟩,⟨some 185,none,.pick (.t 179) (.t 184) (.c (.sc (.bool false)))⟩,⟨some 186,none,.mv (.t 185)⟩,⟨(some 187),(some (186,true)),(.fad 10 (.t 2))⟩,⟨(some 188),(some (186,true)),(.ld none (.t 187))⟩,⟨(some 189),(some (186,true)),(.fad 10 (.t 3))⟩,⟨(some 190),(some (186,true)),(.ld none (.t 189))⟩,⟨(some 191),(some (186,true)),(.call (.c (.fn 67 [])) [(.t 188),(.t 190)])⟩,⟨some 192,none,.pick (.t 186) (.t 191) (.c (.sc (.bool false)))⟩,⟨some 193,none,.mv (.t 192)⟩,⟨(some 194),(some (193,true)),(.fad 11 (.t 2))⟩,⟨(some 195),(some (193,true)),(.ld none (.t 194))⟩,⟨(some 196),(some (193,true)),(.fad 11 (.t 3))⟩,⟨(some 197),(some (193,true)),(.ld none (.t 196))⟩,⟨(some 198),(some (193,true)),(.call (.c (.fn 67 [])) [(.t 195),(.t 197)])⟩,⟨some 199,none,.pick (.t 193) (.t 198) (.c (.sc (.bool false)))⟩,⟨some 4,none,.mv (.t 199)⟩]) .ret))))))))
def sh_ref04_Alike (a0 a1 : AV) (σ : Hp) (n : Nat) (R : AEnd → Hp → Nat → Prop) : Prop :=
 bindS (hBox n a0) σ n fun v1 σ n =>
 bindS (hBox n a1) σ n fun v2 σ n =>
 bindP (aFad 0 v1) fun v3 =>
 bindP (aLd σ none v3) fun v4 =>
 bindP (aFad 0 v2) fun v5 =>
 bindP (aLd σ none v5) fun v6 =>
 bindP (semBin .neq v4 v6) fun v7 =>
 guardP v7 false (aFad 1 v1) fun v8 =>
 guardP v7 false (aLd σ none v8) fun v9 =>
 guardP v7 false (aFad 1 v2) fun v10 =>
 guardP v7 false (aLd σ none v10) fun v11 =>
 guardP v7 false (semBin .neq v9 v11) fun v12 =>
 bindP (aPick v7 (.sc (.bool true)) v12) fun v13 =>
 guardP v13 false (aFad 3 v1) fun v14 =>
 guardP v13 false (aLd σ none v14) fun v15 =>
 guardP v13 false (aFad 3 v2) fun v16 =>
 guardP v13 false (aLd σ none v16) fun v17 =>
 guardP v13 false (semBin .neq v15 v17) fun v18 =>
 bindP (aPick v13 (.sc (.bool true)) v18) fun v19 =>
 guardP v19 false (aFad 4 v1) fun v20 =>
 guardP v19 false (aLd σ none v20) fun v21 =>
 guardP v19 false (aFad 4 v2) fun v22 =>
 guardP v19 false (aLd σ none v22) fun v23 =>
 guardP v19 false (semBin .neq v21 v23) fun v24 =>
 bindP (aPick v19 (.sc (.bool true)) v24) fun v25 =>
 guardP v25 false (aFad 8 v1) fun v26 =>
 guardP v25 false (aLd σ none v26) fun v27 =>
 guardP v25 false (aFad 8 v2) fun v28 =>
 guardP v25 false (aLd σ none v28) fun v29 =>
 guardP v25 false (semBin .neq v27 v29) fun v30 =>
 bindP (aPick v25 (.sc (.bool true)) v30) fun v31 =>
 guardP v31 false (aFad 13 v1) fun v32 =>
 guardP v31 false (aLd σ none v32) fun v33 =>
 guardP v31 false (aFad 13 v2) fun v34 =>
 guardP v31 false (aLd σ none v34) fun v35 =>
 guardP v31 false (semBin .neq v33 v35) fun v36 =>
 bindP (aPick v31 (.sc (.bool true)) v36) fun v37 =>
 COND v37 (
 R (.ret (.sc (.bool false))) σ n) (
 bindP (aFad 2 v1) fun v38 =>
 bindP (aLd σ none v38) fun v39 =>
 bindP (aLen false v39) fun v40 => bnd σ v39 →
 bindP (aFad 2 v2) fun v41 =>
 bindP (aLd σ none v41) fun v42 =>
 bindP (aLen false v42) fun v43 => bnd σ v42 →
 bindP (semBin .neq v40 v43) fun v44 =>
 guardP v44 false (aFad 5 v1) fun v45 =>
 guardP v44 false (aLd σ none v45) fun v46 =>
 guardP v44 false (aLen false v46) fun v47 =>
 guardP v44 false (aFad 5 v2) fun v48 =>
 guardP v44 false (aLd σ none v48) fun v49 =>
 guardP v44 false (aLen false v49) fun v50 =>
 guardP v44 false (semBin .neq v47 v50) fun v51 =>
 bindP (aPick v44 (.sc (.bool true)) v51) fun v52 =>
 guardP v52 false (aFad 6 v1) fun v53 =>
 guardP v52 false (aLd σ none v53) fun v54 =>
 guardP v52 false (aLen false v54) fun v55 =>
 guardP v52 false (aFad 6 v2) fun v56 =>
 guardP v52 false (aLd σ none v56) fun v57 =>
 guardP v52 false (aLen false v57) fun v58 =>
 guardP v52 false (semBin .neq v55 v58) fun v59 =>
 bindP (aPick v52 (.sc (.bool true)) v59) fun v60 =>
 guardP v60 false (aFad 12 v1) fun v61 =>
 guardP v60 false (aLd σ none v61) fun v62 =>
 guardP v60 false (aLen false v62) fun v63 =>
 guardP v60 false (aFad 12 v2) fun v64 =>
 guardP v60 false (aLd σ none v64) fun v65 =>
 guardP v60 false (aLen false v65) fun v66 =>
 guardP v60 false (semBin .neq v63 v66) fun v67 =>
 bindP (aPick v60 (.sc (.bool true)) v67) fun v68 =>
 COND v68 (
 R (.ret (.sc (.bool false))) σ n) (
 LOOP (lb_ref04_Alike10 v1 v2 R) [(.tp []), (.tp []), (.sc (.bool false)), (.sc (.int .i64 0))] σ n))
theorem se_ref04_Alike (a0 a1 : AV) (σ : Hp) (n : Nat) (R : AEnd → Hp → Nat → Prop) : sh_ref04_Alike a0 a1 σ n R = swp Tryd.prog sc_ref04_Alike (retQ [(.t 4)] R) (entry [a0, a1]) σ n := by kernel_rfl
theorem by_ref04_Alike {a0 a1 : AV} {σ : Hp} {n : Nat} {R : AEnd → Hp → Nat → Prop} (h : sh_ref04_Alike a0 a1 σ n R) : ConH Tryd.prog 47 [a0, a1] σ n R := by
  rw [se_ref04_Alike] at h
  exact conH_of [(.t 4)] (fn := Tryd.f47) rfl [0, 1, 48, 82, 87, 100, 5, 105, 119, 6, 124, 155, 7, 160, 173, 8, 2, 3, 4] (by kernel_rfl) (by kernel_rfl) (by kernel_rfl) (by kernel_rfl) h
def kd_ref04_alikes1 (v9 : AV) (v13 : AV) (n : Nat) (σ : Hp) (R : AEnd → Hp → Nat → Prop) (s4 : List AV) (K4 : List AV → Hp → Nat → Prop) (v6 : AV) (r : AEnd) (w15 : Wr) (d15 : List Nat) : Prop :=
 onEnd r (fun v15 =>
 bindP (aUn .not v15) fun v17 =>
 Apt (names []) (rdA v9) (names []) (rdA v13) ∧
 ∀ n_, n + 16 * 10 ≤ n_ → (fun n => (fun σ => COND v17 (
 R (.ret (.sc (.bool false))) σ n) (
 bindP (semBin .add (s4.getD 3 .any) (.sc (.int .i64 1))) fun v18 =>
 K4 [v6, v17, (s4.getD 2 .any), v18] σ n)) (applyW σ w15)) n_) (fun v16 => Apt (names []) (rdA v9) (names []) (rdA v13) ∧
 ∀ (fr_ : Regs) σ n, R (.pan v16) σ n)
def lb_ref04_alikes2 (a0 : AV) (a1 : AV) (R : AEnd → Hp → Nat → Prop) (K4 : List AV → Hp → Nat → Prop) (s4 : List AV) (σ : Hp) (n : Nat) : Prop :=
 bindP (aLen false a0) fun v5 => bnd σ a0 →
 bindP (semBin .lss (s4.getD 3 .any) v5) fun v6 =>
 COND v6 (
 bindP (aIad 7 a0 (s4.getD 3 .any)) fun v9 =>
 bindP (aLd σ (some 7) v9) fun v10 =>
 bindP (aIad 7 a1 (s4.getD 3 .any)) fun v13 =>
 bindP (aLd σ (some 7) v13) fun v14 =>
 callD Tryd.prog (.fn 68 []) [v10, v14] σ (n + 16 * 8) (kd_ref04_alikes1 v9 v13 n σ R s4 K4 v6)) (
 R (.ret (.sc (.bool true))) σ n)
attribute [go_sem] kd_ref04_alikes1 lb_ref04_alikes2
def sc_ref04_alikes : SCode := (.seq (.reg [ ⟨some 4,none,.mv (.c (.sc (.bool false)))⟩]) (.seq (.seq (.reg [ ⟨some 6,none,.mv (.t 0)⟩,⟨some 7,none,.len false (.t 6)⟩,⟨some 8,none,.mv (.t 1)⟩,⟨some 9,none,.len false (.t 8)⟩,⟨some 10,none,.bin .neq (.t 7) (.t 9)⟩]) (.cond (.t 10) (.seq (.reg [ ⟨some 4,none,.mv (.c (.sc (.bool false)))⟩]) .ret) .skip)) (.seq (.seq (.reg [ ⟨some 5,none,.mv (.c (.sc (.int .i64 0)))⟩]) (.block 0 (.loop [14,26,4,5] [11,12,13,14,17,18,19,20,21,22,23,24,25,26,4,15,16,5] (.seq (.seq (.reg [ ⟨some 11,none,.mv (.t 5)⟩,⟨some 12,none,.mv (.t 0)⟩,⟨some 13,none,.len false (.t 12)⟩,⟨some 14,none,.bin .lss (.t 11) (.t 13)⟩]) (.cond (.t 14) .skip (.exit 0))) (.seq (.block 1 (.seq (.regD [(⟨some 17,none,.mv (.t 0)⟩,[]),(⟨some 18,none,.mv (.t 5)⟩,[]),(⟨some 19,none,.iad 7 (.t 17) (.t 18)⟩,[0,1]),(⟨some 20,none,.ld (some 7) (.t 19)⟩,[2,0,1]),(⟨some 21,none,.mv (.t 1)⟩,[]),(⟨some 22,none,.mv (.t 5)⟩,[]),(⟨some 23,none,.iad 7 (.t 21) (.t 22)⟩,[4,5]),(⟨some 24,none,.ld (some 7) (.t 23)⟩,[6,4,5]),(⟨some 25,none,.call (.c (.fn 68 [])) [(.t 20),(.t 24)]⟩,[3,2,0,1,7,6,4,5]),(⟨some 26,none,.un .not (.t 25)⟩,[8,3,2,0,1,7,6,4,5])]) (.cond (.t 26) (.seq (.reg [ ⟨some 4,none,.mv (.c (.sc (.bool false)))⟩]) .ret) .skip))) (.reg [ ⟨some 15,none,.mv (.t 5)⟩,⟨some 16,none,.bin .add (.t 15) (.c (.sc (.int .i64 1)))⟩,⟨some 5,none,.mv (.t 16)⟩])))))) (.seq (.reg [ ⟨some 4,none,.mv (.c (.sc (.bool true)))⟩]) .ret))))
def sh_ref04_alikes (a0 a1 : AV) (σ : Hp) (n : Nat) (R : AEnd → Hp → Nat → Prop) : Prop :=
 bindP (aLen false a0) fun v1 => bnd σ a0 →
 bindP (aLen false a1) fun v2 => bnd σ a1 →
 bindP (semBin .neq v1 v2) fun v3 =>
 COND v3 (
 R (.ret (.sc (.bool false))) σ n) (
 LOOP (lb_ref04_alikes2 a0 a1 R) [(.tp []), (.tp []), (.sc (.bool false)), (.sc (.int .i64 0))] σ n)
theorem se_ref04_alikes (a0 a1 : AV) (σ : Hp) (n : Nat) (R : AEnd → Hp → Nat → Prop) : sh_ref04_alikes a0 a1 σ n R = swp Tryd.prog sc_ref04_alikes (retQ [(.t 4)] R) (entry [a0, a1]) σ n := by kernel_rfl
theorem by_ref04_alikes {a0 a1 : AV} {σ : Hp} {n : Nat} {R : AEnd → Hp → Nat → Prop} (h : sh_ref04_alikes a0 a1 σ n R) : ConH Tryd.prog 67 [a0, a1] σ n R := by
  rw [se_ref04_alikes] at h
  exact conH_of [(.t 4)] (fn := Tryd.f67) rfl [10, 14, 0, 1, 26, 5, 4] (by kernel_rfl) (by kernel_rfl) (by kernel_rfl) (by kernel_rfl) h
def kc_ref04_AlikeExpr1 (R : AEnd → Hp → Nat → Prop) (r : AEnd) (σ : Hp) (n : Nat) : Prop :=
 onEnd r (fun v30 =>
 R (.ret v30) σ n) (fun v31 => R (.pan v31) σ n)
attribute [go_sem] kc_ref04_AlikeExpr1
def sc_ref04_AlikeExpr : SCode := (.seq (.reg [ ⟨some 2,none,.box (.t 0)⟩,⟨some 3,none,.box (.t 1)⟩,⟨some 4,none,.mv (.c (.sc (.bool false)))⟩]) (.seq (.seq (.reg [ ⟨some 5,none,.fad 0 (.t 2)⟩,⟨some 6,none,.ld none (.t 5)⟩,⟨some 7,none,.fad 0 (.t 3)⟩,⟨some 8,none,.ld none (.t 7)⟩,⟨some 9,none,.bin .neq (.t 6) (.t 8)⟩,⟨some 10,none,.mv (.t 9)⟩,⟨(some 11),(some (10,false)),(.fad 1 (.t 2))⟩,⟨(some 12),(some (10,false)),(.ld (some 3) (.t 11))⟩,⟨(some 13),(some (10,false)),(.fad 1 (.t 3))⟩,⟨(some 14),(some (10,false)),(.ld (some 3) (.t 13))⟩,⟨(some 15),(some (10,false)),(.eqs [0,0,2] true (.t 12) (.t 14))⟩,⟨some 16,none,.pick (.t 10) (.c (.sc (.bool true))) (.t 15)⟩,⟨some 17,none,.mv (.t 16)⟩,⟨(some 18),(some (17,false)),(.fad 4 (.t 2))⟩,⟨(some 19),(some (17,false)),(.ld none (.t 18))⟩,⟨(some 20),(some (17,false)),(.fad 4 (.t 3))⟩,⟨(some 21),(some (17,false)),(.ld none (.t 20))⟩,⟨(some 22),(some (17,false)),(.bin .neq (.t 19) (.t 21))⟩,⟨some 23,none,.pick (.t 17) (.c (.sc (.bool true))) (.t 22)⟩,⟨some 24,none,.mv (.t 23)⟩,⟨(some 25),(some (24,false)),(.fad 5 (.t 2))⟩,⟨(some 26),(some (24,false)),(.ld none (.t 25))⟩,⟨(some 27),(some (24,false)),(.fad 5 (.t 3))⟩,⟨(some 28),(some (24,false)),(.ld none (.t 27))⟩,⟨(some 29),(some (24,false)),(.bin .neq (.t 26) (.t 28))⟩,⟨some 30,none,.pick (.t 24) (.c (.sc (.bool true))) (.t 29)⟩]) (.cond (.t 30) (.seq (.reg [ ⟨some 4,none,.mv (.c (.sc (.bool false)))⟩]) .ret) .skip)) (.seq (.reg [ ⟨some 31,none,.fad 6 (.t 2)⟩,⟨some 32,none,.ld none (.t 31)⟩,⟨some 33,none,.fad 6 (.t 3)⟩,⟨some 34,none,.ld none (.t 33)⟩,⟨some 35,none,.call (.c (.fn 67 [])) [(.t 32),(.t 34)]⟩,⟨some 4,none,.mv (.t 35)⟩]) .ret)))
def sh_ref04_AlikeExpr (a0 a1 : AV) (σ : Hp) (n : Nat) (R : AEnd → Hp → Nat → Prop) : Prop :=
 bindS (hBox n a0) σ n fun v1 σ n =>
 bindS (hBox n a1) σ n fun v2 σ n =>
 bindP (aFad 0 v1) fun v3 =>
 bindP (aLd σ none v3) fun v4 =>
 bindP (aFad 0 v2) fun v5 =>
 bindP (aLd σ none v5) fun v6 =>
 bindP (semBin .neq v4 v6) fun v7 =>
 guardP v7 false (aFad 1 v1) fun v8 =>
 guardP v7 false (aLd σ (some 3) v8) fun v9 =>
 guardP v7 false (aFad 1 v2) fun v10 =>
 guardP v7 false (aLd σ (some 3) v10) fun v11 =>
 guardP v7 false (aEqs [0, 0, 2] true v9 v11) fun v12 =>
 bindP (aPick v7 (.sc (.bool true)) v12) fun v13 =>
 guardP v13 false (aFad 4 v1) fun v14 =>
 guardP v13 false (aLd σ none v14) fun v15 =>
 guardP v13 false (aFad 4 v2) fun v16 =>
 guardP v13 false (aLd σ none v16) fun v17 =>
 guardP v13 false (semBin .neq v15 v17) fun v18 =>
 bindP (aPick v13 (.sc (.bool true)) v18) fun v19 =>
 guardP v19 false (aFad 5 v1) fun v20 =>
 guardP v19 false (aLd σ none v20) fun v21 =>
 guardP v19 false (aFad 5 v2) fun v22 =>
 guardP v19 false (aLd σ none v22) fun v23 =>
 guardP v19 false (semBin .neq v21 v23) fun v24 =>
 bindP (aPick v19 (.sc (.bool true)) v24) fun v25 =>
 COND v25 (
 R (.ret (.sc (.bool false))) σ n) (
 bindP (aFad 6 v1) fun v26 =>
 bindP (aLd σ none v26) fun v27 =>
 bindP (aFad 6 v2) fun v28 =>
 bindP (aLd σ none v28) fun v29 =>
 CALL Tryd.prog (.fn 67 []) [v27, v29] σ n (kc_ref04_AlikeExpr1 R))
theorem se_ref04_AlikeExpr (a0 a1 : AV) (σ : Hp) (n : Nat) (R : AEnd → Hp → Nat → Prop) : sh_ref04_AlikeExpr a0 a1 σ n R = swp Tryd.prog sc_ref04_AlikeExpr (retQ [(.t 4)] R) (entry [a0, a1]) σ n := by kernel_rfl
theorem by_ref04_AlikeExpr {a0 a1 : AV} {σ : Hp} {n : Nat} {R : AEnd → Hp → Nat → Prop} (h : sh_ref04_AlikeExpr a0 a1 σ n R) : ConH Tryd.prog 68 [a0, a1] σ n R := by
  rw [se_ref04_AlikeExpr] at h
  exact conH_of [(.t 4)] (fn := Tryd.f68) rfl [0, 1, 30, 2, 3, 4] (by kernel_rfl) (by kernel_rfl) (by kernel_rfl) (by kernel_rfl) h
end Go.Proofs.YtodoejfkjimeaaaDoor
