/- Packed by a program of this repo: Sh6. -/
import Derived.Test.YtodoejfkjimeaaaDoorKSMs
import Derived.Test.YtodoejfkjimeaaaDoorProg
set_option linter.unusedVariables false
set_option maxRecDepth 8000
namespace Go.Proofs.YtodoejfkjimeaaaDoor
open Go Am
def kc_plain_CopyStmt1 (s3 : List AV) (K3 : List AV → Hp → Nat → Prop) (v7 : AV) (R : AEnd → Hp → Nat → Prop) (r : AEnd) (σ : Hp) (n : Nat) : Prop :=
 onEnd r (fun v12 =>
 bindS (hBsl σ n 1 [(.slice none 0 0)] 1 [(0, v12)]) σ n fun v14 σ n =>
 bindS (hApp σ n 1 24 (s3.getD 1 .any) v14) σ n fun v15 σ n =>
 bindP (semBin .add (s3.getD 2 .any) (.sc (.int .i64 1))) fun v16 =>
 K3 [v7, v15, v16] σ n) (fun v13 => R (.pan v13) σ n)
def kd_plain_CopyStmt2 (v28 : AV) (σ : Hp) (n : Nat) (s17 : List AV) (v23 : AV) (v29 : AV) (v27 : AV) (v33 : AV) (K17 : List AV → Hp → Nat → Prop) (v21 : AV) (R : AEnd → Hp → Nat → Prop) (r : AEnd) (w35 : Wr) (d35 : List Nat) : Prop :=
 onEnd r (fun v35 =>
 bindP (aBuild [(.string ⟨#[]⟩), (.int .i64 0), (.int .i64 0), (.int .i64 0), (.string ⟨#[]⟩), (.string ⟨#[]⟩), (.string ⟨#[]⟩), (.slice none 0 0)] [(0, 1, v28), (1, 7, v35)]) fun v37 =>
 bindH (hBsl (applyW σ w35) (n + 16 * 15) 8 [(.string ⟨#[]⟩), (.int .i64 0), (.int .i64 0), (.int .i64 0), (.string ⟨#[]⟩), (.string ⟨#[]⟩), (.string ⟨#[]⟩), (.slice none 0 0)] 1 [(0, v37)]) fun v38 w38 =>
 bindH (hApp (applyW (applyW σ w35) w38) (n + 16 * 16) 8 112 (s17.getD 1 .any) v38) fun v39 w39 =>
 Apt (names []) (rdA v23) (names []) (rdA v29) ∧
 Apt (names []) (rdA v27) (names []) (rdA v29) ∧
 Apt (names []) (rdA v23) (names []) (rdA v33) ∧
 Apt (names []) (rdA v27) (names []) (rdA v33) ∧
 Apt (names []) (rdA v23) (names w35) d35 ∧
 Apt (names []) (rdA v27) (names w35) d35 ∧
 ∀ n_, n + 16 * 18 ≤ n_ → (fun n => (fun σ => bindP (semBin .add (s17.getD 2 .any) (.sc (.int .i64 1))) fun v41 =>
 K17 [v21, v39, v41] σ n) (applyW (applyW (applyW σ w35) w38) w39)) n_) (fun v36 => Apt (names []) (rdA v23) (names []) (rdA v29) ∧
 Apt (names []) (rdA v27) (names []) (rdA v29) ∧
 Apt (names []) (rdA v23) (names []) (rdA v33) ∧
 Apt (names []) (rdA v27) (names []) (rdA v33) ∧
 Apt (names []) (rdA v23) (names []) d35 ∧
 Apt (names []) (rdA v27) (names []) d35 ∧
 ∀ (fr_ : Regs) σ n, R (.pan v36) σ n)
def kd_plain_CopyStmt3 (v1 : AV) (σ : Hp) (w62 : Wr) (w66 : Wr) (w70 : Wr) (v62 : AV) (v66 : AV) (v70 : AV) (v60 : AV) (v64 : AV) (d62 : List Nat) (v68 : AV) (d66 : List Nat) (v72 : AV) (d70 : List Nat) (n : Nat) (v2 : AV) (R : AEnd → Hp → Nat → Prop) (r : AEnd) (w74 : Wr) (d74 : List Nat) : Prop :=
 onEnd r (fun v74 =>
 bindP (aFad 7 v1) fun v76 =>
 bindH (hSt (applyW (applyW (applyW (applyW σ w62) w66) w70) w74) 1 v76 v62) fun v77 w77 =>
 bindP (aFad 9 v1) fun v78 =>
 bindH (hSt (applyW (applyW (applyW (applyW (applyW σ w62) w66) w70) w74) w77) 1 v78 v66) fun v79 w79 =>
 bindP (aFad 10 v1) fun v80 =>
 bindH (hSt (applyW (applyW (applyW (applyW (applyW (applyW σ w62) w66) w70) w74) w77) w79) 1 v80 v70) fun v81 w81 =>
 bindP (aFad 11 v1) fun v82 =>
 bindH (hSt (applyW (applyW (applyW (applyW (applyW (applyW (applyW σ w62) w66) w70) w74) w77) w79) w81) 1 v82 v74) fun v83 w83 =>
 Apt (names []) (rdA v60) (names []) (rdA v64) ∧
 Apt (names w62) d62 (names []) (rdA v64) ∧
 Apt (names []) (rdA v60) (names []) (rdA v68) ∧
 Apt (names w62) d62 (names []) (rdA v68) ∧
 Apt (names []) (rdA v64) (names []) (rdA v68) ∧
 Apt (names w66) d66 (names []) (rdA v68) ∧
 Apt (names []) (rdA v60) (names []) (rdA v72) ∧
 Apt (names w62) d62 (names []) (rdA v72) ∧
 Apt (names []) (rdA v64) (names []) (rdA v72) ∧
 Apt (names w66) d66 (names []) (rdA v72) ∧
 Apt (names []) (rdA v68) (names []) (rdA v72) ∧
 Apt (names w70) d70 (names []) (rdA v72) ∧
 ∀ n_, n + 16 * 20 ≤ n_ → (fun n => (fun σ => bindP (aLd σ (some 14) v1) fun v84 =>
 bindS (hSt σ 14 v2 v84) σ n fun v85 σ n =>
 bindP (aLd σ (some 14) v2) fun v86 =>
 R (.ret v86) σ n) (applyW (applyW (applyW (applyW (applyW (applyW (applyW (applyW σ w62) w66) w70) w74) w77) w79) w81) w83)) n_) (fun v75 => bindP (aFad 7 v1) fun v87 =>
 Apt (names []) (rdA v60) (names []) (rdA v64) ∧
 Apt (names w62) d62 (names []) (rdA v64) ∧
 Apt (names []) (rdA v60) (names []) (rdA v68) ∧
 Apt (names w62) d62 (names []) (rdA v68) ∧
 Apt (names []) (rdA v64) (names []) (rdA v68) ∧
 Apt (names w66) d66 (names []) (rdA v68) ∧
 Apt (names []) (rdA v60) (names []) (rdA v72) ∧
 Apt (names w62) d62 (names []) (rdA v72) ∧
 Apt (names []) (rdA v64) (names []) (rdA v72) ∧
 Apt (names w66) d66 (names []) (rdA v72) ∧
 Apt (names []) (rdA v68) (names []) (rdA v72) ∧
 Apt (names w70) d70 (names []) (rdA v72) ∧
 ∀ (fr_ : Regs) σ n, R (.pan v75) σ n)
def kd_plain_CopyStmt4 (v1 : AV) (σ : Hp) (w62 : Wr) (w66 : Wr) (n : Nat) (v62 : AV) (v66 : AV) (v60 : AV) (v64 : AV) (d62 : List Nat) (v68 : AV) (d66 : List Nat) (v2 : AV) (R : AEnd → Hp → Nat → Prop) (r : AEnd) (w70 : Wr) (d70 : List Nat) : Prop :=
 onEnd r (fun v70 =>
 bindP (aFad 11 v1) fun v72 =>
 bindP (aLd σ none v72) fun v73 =>
 callD Tryd.prog (.fn 28 []) [v73] (applyW (applyW (applyW σ w62) w66) w70) (n + 16 * 11) (kd_plain_CopyStmt3 v1 σ w62 w66 w70 v62 v66 v70 v60 v64 d62 v68 d66 v72 d70 n v2 R)) (fun v71 => bindP (aFad 11 v1) fun v88 =>
 bindP (aLd σ none v88) fun v89 =>
 bindP (aFad 7 v1) fun v90 =>
 Apt (names []) (rdA v60) (names []) (rdA v64) ∧
 Apt (names w62) d62 (names []) (rdA v64) ∧
 Apt (names []) (rdA v60) (names []) (rdA v68) ∧
 Apt (names w62) d62 (names []) (rdA v68) ∧
 Apt (names []) (rdA v64) (names []) (rdA v68) ∧
 Apt (names w66) d66 (names []) (rdA v68) ∧
 Apt (names []) (rdA v60) (names []) (rdA v88) ∧
 Apt (names w62) d62 (names []) (rdA v88) ∧
 Apt (names []) (rdA v64) (names []) (rdA v88) ∧
 Apt (names w66) d66 (names []) (rdA v88) ∧
 Apt (names []) (rdA v68) (names []) (rdA v88) ∧
 Apt (names []) d70 (names []) (rdA v88) ∧
 ∀ (fr_ : Regs) σ n, R (.pan v71) σ n)
def kd_plain_CopyStmt5 (v1 : AV) (σ : Hp) (w62 : Wr) (n : Nat) (v62 : AV) (v60 : AV) (v64 : AV) (d62 : List Nat) (v2 : AV) (R : AEnd → Hp → Nat → Prop) (r : AEnd) (w66 : Wr) (d66 : List Nat) : Prop :=
 onEnd r (fun v66 =>
 bindP (aFad 10 v1) fun v68 =>
 bindP (aLd σ none v68) fun v69 =>
 callD Tryd.prog (.fn 28 []) [v69] (applyW (applyW σ w62) w66) (n + 16 * 8) (kd_plain_CopyStmt4 v1 σ w62 w66 n v62 v66 v60 v64 d62 v68 d66 v2 R)) (fun v67 => bindP (aFad 10 v1) fun v91 =>
 bindP (aLd σ none v91) fun v92 =>
 bindP (aFad 11 v1) fun v93 =>
 bindP (aLd σ none v93) fun v94 =>
 bindP (aFad 7 v1) fun v95 =>
 Apt (names []) (rdA v60) (names []) (rdA v64) ∧
 Apt (names w62) d62 (names []) (rdA v64) ∧
 Apt (names []) (rdA v60) (names []) (rdA v91) ∧
 Apt (names w62) d62 (names []) (rdA v91) ∧
 Apt (names []) (rdA v64) (names []) (rdA v91) ∧
 Apt (names []) d66 (names []) (rdA v91) ∧
 Apt (names []) (rdA v60) (names []) (rdA v93) ∧
 Apt (names w62) d62 (names []) (rdA v93) ∧
 Apt (names []) (rdA v64) (names []) (rdA v93) ∧
 Apt (names []) d66 (names []) (rdA v93) ∧
 Apt (names []) (rdA v91) (names []) (rdA v93) ∧
 Apt (names []) [] (names []) (rdA v93) ∧
 ∀ (fr_ : Regs) σ n, R (.pan v67) σ n)
def kd_plain_CopyStmt6 (v1 : AV) (σ : Hp) (n : Nat) (v60 : AV) (v2 : AV) (R : AEnd → Hp → Nat → Prop) (r : AEnd) (w62 : Wr) (d62 : List Nat) : Prop :=
 onEnd r (fun v62 =>
 bindP (aFad 9 v1) fun v64 =>
 bindP (aLd σ none v64) fun v65 =>
 callD Tryd.prog (.fn 28 []) [v65] (applyW σ w62) (n + 16 * 5) (kd_plain_CopyStmt5 v1 σ w62 n v62 v60 v64 d62 v2 R)) (fun v63 => bindP (aFad 9 v1) fun v96 =>
 bindP (aLd σ none v96) fun v97 =>
 bindP (aFad 10 v1) fun v98 =>
 bindP (aLd σ none v98) fun v99 =>
 bindP (aFad 11 v1) fun v100 =>
 bindP (aLd σ none v100) fun v101 =>
 Apt (names []) (rdA v60) (names []) (rdA v96) ∧
 Apt (names []) d62 (names []) (rdA v96) ∧
 Apt (names []) (rdA v60) (names []) (rdA v98) ∧
 Apt (names []) d62 (names []) (rdA v98) ∧
 Apt (names []) (rdA v96) (names []) (rdA v98) ∧
 Apt (names []) [] (names []) (rdA v98) ∧
 Apt (names []) (rdA v60) (names []) (rdA v100) ∧
 Apt (names []) d62 (names []) (rdA v100) ∧
 Apt (names []) (rdA v96) (names []) (rdA v100) ∧
 Apt (names []) [] (names []) (rdA v100) ∧
 Apt (names []) (rdA v98) (names []) (rdA v100) ∧
 Apt (names []) [] (names []) (rdA v100) ∧
 ∀ (fr_ : Regs) σ n, R (.pan v63) σ n)
def lb_plain_CopyStmt7 (v1 : AV) (R : AEnd → Hp → Nat → Prop) (s3 : List AV) (v2 : AV) (K17 : List AV → Hp → Nat → Prop) (s17 : List AV) (σ : Hp) (n : Nat) : Prop :=
 bindP (aFad 6 v1) fun v18 =>
 bindP (aLd σ none v18) fun v19 =>
 bindP (aLen false v19) fun v20 => bnd σ v19 →
 bindP (semBin .lss (s17.getD 2 .any) v20) fun v21 =>
 COND v21 (
 bindP (aFad 6 v1) fun v23 =>
 bindP (aLd σ none v23) fun v24 =>
 bindP (aIad 8 v24 (s17.getD 2 .any)) fun v26 =>
 bindP (aFad 0 v26) fun v27 =>
 bindP (aLd σ none v27) fun v28 =>
 bindP (aFad 6 v1) fun v29 =>
 bindP (aLd σ none v29) fun v30 =>
 bindP (aIad 8 v30 (s17.getD 2 .any)) fun v32 =>
 bindP (aFad 1 v32) fun v33 =>
 bindP (aLd σ (some 7) v33) fun v34 =>
 callD Tryd.prog (.fn 12 []) [v34] σ (n + 16 * 13) (kd_plain_CopyStmt2 v28 σ n s17 v23 v29 v27 v33 K17 v21 R)) (
 bindP (aFad 2 v1) fun v43 =>
 bindP (aLd σ none v43) fun v44 =>
 bindH (hApp σ (n + 16 * 3) 3 32 .em v44) fun v45 w45 =>
 bindP (aFad 12 v1) fun v49 =>
 bindP (aLd σ none v49) fun v50 =>
 bindH (hApp (applyW σ w45) (n + 16 * 9) 2 16 .em v50) fun v51 w51 =>
 bindP (aFad 2 v1) fun v52 =>
 bindH (hSt (applyW (applyW σ w45) w51) 1 v52 v45) fun v53 w53 =>
 bindP (aFad 5 v1) fun v54 =>
 bindH (hSt (applyW (applyW (applyW σ w45) w51) w53) 1 v54 (s3.getD 1 .any)) fun v55 w55 =>
 bindP (aFad 6 v1) fun v56 =>
 bindH (hSt (applyW (applyW (applyW (applyW σ w45) w51) w53) w55) 1 v56 (s17.getD 1 .any)) fun v57 w57 =>
 bindP (aFad 12 v1) fun v58 =>
 bindH (hSt (applyW (applyW (applyW (applyW (applyW σ w45) w51) w53) w55) w57) 1 v58 v51) fun v59 w59 =>
 Apt (names []) (rdA v43) (names []) (rdA v49) ∧
 Apt (names w45) (rdY .em ++ (rdY v44 ++ names w45)) (names []) (rdA v49) ∧
 ∀ n_, n + 16 * 18 ≤ n_ → (fun n => (fun σ => bindP (aFad 7 v1) fun v60 =>
 bindP (aLd σ none v60) fun v61 =>
 callD Tryd.prog (.fn 28 []) [v61] σ (n + 16 * 2) (kd_plain_CopyStmt6 v1 σ n v60 v2 R)) (applyW (applyW (applyW (applyW (applyW (applyW σ w45) w51) w53) w55) w57) w59)) n_)
def lb_plain_CopyStmt8 (v1 : AV) (R : AEnd → Hp → Nat → Prop) (v2 : AV) (K3 : List AV → Hp → Nat → Prop) (s3 : List AV) (σ : Hp) (n : Nat) : Prop :=
 bindP (aFad 5 v1) fun v4 =>
 bindP (aLd σ none v4) fun v5 =>
 bindP (aLen false v5) fun v6 => bnd σ v5 →
 bindP (semBin .lss (s3.getD 2 .any) v6) fun v7 =>
 COND v7 (
 bindP (aFad 5 v1) fun v8 =>
 bindP (aLd σ none v8) fun v9 =>
 bindP (aIad 1 v9 (s3.getD 2 .any)) fun v10 =>
 bindP (aLd σ none v10) fun v11 =>
 CALL Tryd.prog (.fn 28 []) [v11] σ n (kc_plain_CopyStmt1 s3 K3 v7 R)) (
 LOOP (lb_plain_CopyStmt7 v1 R s3 v2) [(.tp []), .em, (.sc (.int .i64 0))] σ n)
attribute [go_sem] kc_plain_CopyStmt1 kd_plain_CopyStmt2 kd_plain_CopyStmt3 kd_plain_CopyStmt4 kd_plain_CopyStmt5 kd_plain_CopyStmt6 lb_plain_CopyStmt7 lb_plain_CopyStmt8
def sc_plain_CopyStmt : SCode := (.seq (.reg [ ⟨some 1,none,.box (.t 0)⟩,⟨some 2,none,.alloc [(.int .i64 0),(.string ⟨#[]⟩),(.slice none 0 0),(.string ⟨#[]⟩),(.string ⟨#[]⟩),(.slice none 0 0),(.slice none 0 0),(.slice none 0 0),(.string ⟨#[]⟩),(.slice none 0 0),(.slice none 0 0),(.slice none 0 0),(.slice none 0 0),(.int .i64 0)]⟩]) (.seq (.reg [ ⟨some 3,none,.mv (.c .em)⟩]) (.seq (.reg [ ⟨some 4,none,.mv (.c .em)⟩]) (.seq (.reg [ ⟨some 5,none,.mv (.c .em)⟩]) (.seq (.reg [ ⟨some 6,none,.mv (.c .em)⟩]) (.seq (.seq (.reg [ ⟨some 7,none,.mv (.c (.sc (.int .i64 0)))⟩]) (.block 0 (.loop [13,4,7] [9,10,11,12,13,16,17,18,19,20,21,22,23,24,4,14,15,7] (.seq (.seq (.reg [ ⟨some 9,none,.mv (.t 7)⟩,⟨some 10,none,.fad 5 (.t 1)⟩,⟨some 11,none,.ld none (.t 10)⟩,⟨some 12,none,.len false (.t 11)⟩,⟨some 13,none,.bin .lss (.t 9) (.t 12)⟩]) (.cond (.t 13) .skip (.exit 0))) (.seq (.block 1 (.reg [ ⟨some 16,none,.mv (.t 4)⟩,⟨some 17,none,.fad 5 (.t 1)⟩,⟨some 18,none,.ld none (.t 17)⟩,⟨some 19,none,.mv (.t 7)⟩,⟨some 20,none,.iad 1 (.t 18) (.t 19)⟩,⟨some 21,none,.ld none (.t 20)⟩,⟨some 22,none,.call (.c (.fn 28 [])) [(.t 21)]⟩,⟨some 23,none,.bsl 1 [(.slice none 0 0)] 1 [(0,(.t 22))]⟩,⟨some 24,none,.app 1 24 (.t 16) (.t 23)⟩,⟨some 4,none,.mv (.t 24)⟩])) (.reg [ ⟨some 14,none,.mv (.t 7)⟩,⟨some 15,none,.bin .add (.t 14) (.c (.sc (.int .i64 1)))⟩,⟨some 7,none,.mv (.t 15)⟩])))))) (.seq (.seq (.reg [ ⟨some 8,none,.mv (.c (.sc (.int .i64 0)))⟩]) (.block 2 (.loop [29,5,8] [25,26,27,28,29,32,33,34,35,36,37,38,39,40,41,42,43,44,45,46,47,48,5,30,31,8] (.seq (.seq (.reg [ ⟨some 25,none,.mv (.t 8)⟩,⟨some 26,none,.fad 6 (.t 1)⟩,⟨some 27,none,.ld none (.t 26)⟩,⟨some 28,none,.len false (.t 27)⟩,⟨some 29,none,.bin .lss (.t 25) (.t 28)⟩]) (.cond (.t 29) .skip (.exit 2))) (.seq (.block 3 (.regD [(⟨some 32,none,.mv (.t 5)⟩,[]),(⟨some 33,none,.fad 6 (.t 1)⟩,[]),(⟨some 34,none,.ld none (.t 33)⟩,[1]),(⟨some 35,none,.mv (.t 8)⟩,[]),(⟨some 36,none,.iad 8 (.t 34) (.t 35)⟩,[2,1,3]),(⟨some 37,none,.fad 0 (.t 36)⟩,[4,2,1,3]),(⟨some 38,none,.ld none (.t 37)⟩,[5,4,2,1,3]),(⟨some 39,none,.fad 6 (.t 1)⟩,[]),(⟨some 40,none,.ld none (.t 39)⟩,[7]),(⟨some 41,none,.mv (.t 8)⟩,[]),(⟨some 42,none,.iad 8 (.t 40) (.t 41)⟩,[8,7,9]),(⟨some 43,none,.fad 1 (.t 42)⟩,[10,8,7,9]),(⟨some 44,none,.ld (some 7) (.t 43)⟩,[11,10,8,7,9]),(⟨some 45,none,.call (.c (.fn 12 [])) [(.t 44)]⟩,[12,11,10,8,7,9]),(⟨some 46,none,.build [(.string ⟨#[]⟩),(.int .i64 0),(.int .i64 0),(.int .i64 0),(.string ⟨#[]⟩),(.string ⟨#[]⟩),(.string ⟨#[]⟩),(.slice none 0 0)] [(0,(1,(.t 38))),(1,(7,(.t 45)))]⟩,[6,5,4,2,1,3,13,12,11,10,8,7,9]),(⟨some 47,none,.bsl 8 [(.string ⟨#[]⟩),(.int .i64 0),(.int .i64 0),(.int .i64 0),(.string ⟨#[]⟩),(.string ⟨#[]⟩),(.string ⟨#[]⟩),(.slice none 0 0)] 1 [(0,(.t 46))]⟩,[14,6,5,4,2,1,3,13,12,11,10,8,7,9]),(⟨some 48,none,.app 8 112 (.t 32) (.t 47)⟩,[0,15,14,6,5,4,2,1,3,13,12,11,10,8,7,9]),(⟨some 5,none,.mv (.t 48)⟩,[16,0,15,14,6,5,4,2,1,3,13,12,11,10,8,7,9])])) (.reg [ ⟨some 30,none,.mv (.t 8)⟩,⟨some 31,none,.bin .add (.t 30) (.c (.sc (.int .i64 1)))⟩,⟨some 8,none,.mv (.t 31)⟩])))))) (.seq (.regD [(⟨some 49,none,.mv (.t 3)⟩,[]),(⟨some 50,none,.fad 2 (.t 1)⟩,[]),(⟨some 51,none,.ld none (.t 50)⟩,[1]),(⟨some 52,none,.app 3 32 (.t 49) (.t 51)⟩,[0,2,1]),(⟨some 53,none,.mv (.t 4)⟩,[]),(⟨some 54,none,.mv (.t 5)⟩,[]),(⟨some 55,none,.mv (.t 6)⟩,[]),(⟨some 56,none,.fad 12 (.t 1)⟩,[]),(⟨some 57,none,.ld none (.t 56)⟩,[7]),(⟨some 58,none,.app 2 16 (.t 55) (.t 57)⟩,[6,8,7,3,0,2,1]),(⟨some 59,none,.fad 2 (.t 1)⟩,[0,1,2,3,7,8]),(⟨none,none,(.st 1 (.t 59) (.t 52))⟩,[10,0,1,2,3,7,8,9,6]),(⟨some 60,none,.fad 5 (.t 1)⟩,[0,1,2,3,4,7,8,10,11,9,6]),(⟨none,none,(.st 1 (.t 60) (.t 53))⟩,[12,0,1,2,3,4,7,8,10,11,9,6]),(⟨some 61,none,.fad 6 (.t 1)⟩,[0,1,2,3,4,5,7,8,10,11,9,6,12,13]),(⟨none,none,(.st 1 (.t 61) (.t 54))⟩,[14,0,1,2,3,4,5,7,8,10,11,9,6,12,13]),(⟨some 62,none,.fad 12 (.t 1)⟩,[0,1,2,3,4,5,6,7,8,9,10,11,12,13,14,15]),(⟨none,none,(.st 1 (.t 62) (.t 58))⟩,[16,0,1,2,3,4,5,6,7,8,9,10,11,12,13,14,15])]) (.seq (.regD [(⟨some 63,none,.fad 7 (.t 1)⟩,[]),(⟨some 64,none,.ld none (.t 63)⟩,[0]),(⟨some 65,none,.call (.c (.fn 28 [])) [(.t 64)]⟩,[1,0]),(⟨some 66,none,.fad 9 (.t 1)⟩,[]),(⟨some 67,none,.ld none (.t 66)⟩,[3]),(⟨some 68,none,.call (.c (.fn 28 [])) [(.t 67)]⟩,[4,3,2,1,0]),(⟨some 69,none,.fad 10 (.t 1)⟩,[]),(⟨some 70,none,.ld none (.t 69)⟩,[6]),(⟨some 71,none,.call (.c (.fn 28 [])) [(.t 70)]⟩,[7,6,5,4,3,2,1,0]),(⟨some 72,none,.fad 11 (.t 1)⟩,[]),(⟨some 73,none,.ld none (.t 72)⟩,[9]),(⟨some 74,none,.call (.c (.fn 28 [])) [(.t 73)]⟩,[10,9,8,7,6,5,4,3,2,1,0]),(⟨some 75,none,.fad 7 (.t 1)⟩,[0,1,2,3,4,6,7,9,10]),(⟨none,none,(.st 1 (.t 75) (.t 65))⟩,[12,0,1,2,3,4,6,7,9,10,11,8,5]),(⟨some 76,none,.fad 9 (.t 1)⟩,[0,1,2,3,4,5,6,7,9,10,12,13,11,8]),(⟨none,none,(.st 1 (.t 76) (.t 68))⟩,[14,0,1,2,3,4,5,6,7,9,10,12,13,11,8]),(⟨some 77,none,.fad 10 (.t 1)⟩,[0,1,2,3,4,5,6,7,8,9,10,12,13,11,14,15]),(⟨none,none,(.st 1 (.t 77) (.t 71))⟩,[16,0,1,2,3,4,5,6,7,8,9,10,12,13,11,14,15]),(⟨some 78,none,.fad 11 (.t 1)⟩,[0,1,2,3,4,5,6,7,8,9,10,11,12,13,14,15,16,17]),(⟨none,none,(.st 1 (.t 78) (.t 74))⟩,[18,0,1,2,3,4,5,6,7,8,9,10,11,12,13,14,15,16,17])]) (.seq (.reg [ ⟨some 79,none,.ld (some 14) (.t 1)⟩,⟨none,none,(.st 14 (.t 2) (.t 79))⟩]) .ret))))))))))
def sh_plain_CopyStmt (a0 : AV) (σ : Hp) (n : Nat) (R : AEnd → Hp → Nat → Prop) : Prop :=
 bindS (hBox n a0) σ n fun v1 σ n =>
 bindS (hAlloc n [(.int .i64 0), (.string ⟨#[]⟩), (.slice none 0 0), (.string ⟨#[]⟩), (.string ⟨#[]⟩), (.slice none 0 0), (.slice none 0 0), (.slice none 0 0), (.string ⟨#[]⟩), (.slice none 0 0), (.slice none 0 0), (.slice none 0 0), (.slice none 0 0), (.int .i64 0)]) σ n fun v2 σ n =>
 LOOP (lb_plain_CopyStmt8 v1 R v2) [(.tp []), .em, (.sc (.int .i64 0))] σ n
theorem se_plain_CopyStmt (a0 : AV) (σ : Hp) (n : Nat) (R : AEnd → Hp → Nat → Prop) : sh_plain_CopyStmt a0 σ n R = swp Tryd.prog sc_plain_CopyStmt (retQ [(.c 2 (some 14))] R) (entry [a0]) σ n := by kernel_rfl
theorem by_plain_CopyStmt {a0 : AV} {σ : Hp} {n : Nat} {R : AEnd → Hp → Nat → Prop} (h : sh_plain_CopyStmt a0 σ n R) : ConH Tryd.prog 17 [a0] σ n R := by
  rw [se_plain_CopyStmt] at h
  exact conH_of [(.c 2 (some 14))] (fn := Tryd.f17) rfl [0, 13, 7, 29, 8, 3, 4, 5, 6, 1, 2] (by kernel_rfl) (by kernel_rfl) (by kernel_rfl) (by kernel_rfl) h
def as_syntax_Check_1 : Code := (.region 6 #[⟨(some 3), (.alloc 26), 0, "syntax.go:167", #[], none⟩, ⟨none, (.store 26 (.tmp 3) (.tmp 17)), 0, "syntax.go:167", #[⟨0, .data⟩, ⟨0, .phase⟩], none⟩] false)
def bo_syntax_Check_1 : Code := (.block 1 (.seq (.region 7 #[⟨(some 18), (.load 26 (.tmp 3)), 26, "syntax.go:168", #[], none⟩, ⟨(some 19), (.call ⟨(.value (.func 14)), #[(.tmp 18)], #[26]⟩), 28, "syntax.go:168", #[⟨0, .data⟩], none⟩, ⟨(some 4), (.assign (.tmp 19)), 28, "syntax.go:168", #[⟨1, .data⟩, ⟨1, .chain⟩, ⟨0, .phase⟩, ⟨1, .phase⟩], none⟩] false) (.seq (.region 8 #[⟨(some 20), (.move (.tmp 4)), 28, "syntax.go:168", #[], none⟩, ⟨(some 21), (.binOp .neq 28 (.tmp 20) (.const (.int .i64 0)) 28), 4, "syntax.go:168", #[⟨0, .data⟩], none⟩] false) (.cond (.tmp 21) (.seq (.region 9 #[⟨(some 22), (.move (.tmp 4)), 28, "syntax.go:169", #[], none⟩, ⟨none, (.store 28 (.tmp 2) (.tmp 22)), 0, "syntax.go:169", #[⟨0, .data⟩, ⟨0, .phase⟩], none⟩] false) .ret) .skip))))
def rk_syntax_Check1 (v1 : AV) (v2 : AV) (q18 : Nat) (R : AEnd → Hp → Nat → Prop) (σ : Hp) (n : Nat) : Prop :=
 bindP (aFad 11 v1) fun v19 =>
 bindP (aLd σ none v19) fun v20 =>
 bindP (aLen false v20) fun v21 => bnd σ v20 →
 bindP (semBin .gtr v21 (.sc (.int .i64 0))) fun v22 =>
 guardP v22 true (aFad 11 v1) fun v23 =>
 guardP v22 true (aLd σ none v23) fun v24 =>
 guardP v22 true (aIad 7 v24 (.sc (.int .i64 0))) fun v25 =>
 guardP v22 true (aFad 0 v25) fun v26 =>
 guardP v22 true (aLd σ none v26) fun v27 =>
 guardP v22 true (semBin .neq v27 (.sc (.int .i64 1))) fun v28 =>
 bindP (aPick v22 v28 (.sc (.bool false))) fun v29 =>
 COND v29 (
 bindS (hSt σ 1 v2 (.sc (.int .i64 9))) σ n fun v30 σ n =>
 σ q18 = some (.df true true) ∧ (fun σ =>
 bindP (aLd σ none v2) fun v31 =>
 R (.ret v31) σ n) (upd σ q18 none)) (
 bindS (hSt σ 1 v2 (.sc (.int .i64 0))) σ n fun v32 σ n =>
 σ q18 = some (.df true true) ∧ (fun σ =>
 bindP (aLd σ none v2) fun v33 =>
 R (.ret v33) σ n) (upd σ q18 none))
def rr_syntax_Check2 (q18 : Nat) (v2 : AV) (R : AEnd → Hp → Nat → Prop) (σ : Hp) (n : Nat) : Prop :=
 σ q18 = some (.df true true) ∧ (fun σ =>
 bindP (aLd σ none v2) fun v34 =>
 R (.ret v34) σ n) (upd σ q18 none)
def kc_syntax_Check3 (v2 : AV) (R : AEnd → Hp → Nat → Prop) (v1 : AV) (r : AEnd) (σ : Hp) (n : Nat) : Prop :=
 onEnd r (fun v13 =>
 bindP (aUn .not v13) fun v15 =>
 COND v15 (
 bindS (hSt σ 1 v2 (.sc (.int .i64 9))) σ n fun v16 σ n =>
 bindP (aLd σ none v2) fun v17 =>
 R (.ret v17) σ n) (
 (fun q18 => ∀ fnid, RNG Tryd.prog (.fn 57 [v1]) ⟨fnid, #[17], as_syntax_Check_1, bo_syntax_Check_1, q18⟩ (keepR [16, 17, 3, 21, 4, 1, 34, 2] [(.fn 57 [v1]), (.tp []), (.tp []), (.tp []), (.tp []), v1, (.tp []), v2]) 35 σ q18 (rngS 0 (rk_syntax_Check1 v1 v2 q18 R) (rr_syntax_Check2 q18 v2 R))) n)) (fun v14 => R (.pan v14) σ n)
attribute [go_sem] rk_syntax_Check1 rr_syntax_Check2 kc_syntax_Check3
def sp_syntax_Check : Spn := (.st (.reg [⟨(some 1), none, (.box (.t 0))⟩, ⟨(some 2), none, (.alloc [(.int .i64 0)])⟩]) (.st (.seq (.reg [⟨(some 5), none, (.fad 0 (.t 1))⟩, ⟨(some 6), none, (.ld none (.t 5))⟩, ⟨(some 7), none, (.bin .lss (.t 6) (.c (.sc (.int .i64 1))))⟩, ⟨(some 8), none, (.mv (.t 7))⟩, ⟨(some 9), (some (8, false)), (.fad 0 (.t 1))⟩, ⟨(some 10), (some (8, false)), (.ld none (.t 9))⟩, ⟨(some 11), (some (8, false)), (.bin .gtr (.t 10) (.c (.sc (.int .i64 10))))⟩, ⟨(some 12), none, (.pick (.t 8) (.c (.sc (.bool true))) (.t 11))⟩]) (.cond (.t 12) (.seq (.reg [⟨none, none, (.st 1 (.t 2) (.c (.sc (.int .i64 22))))⟩]) .ret) .skip)) (.st (.seq (.reg [⟨(some 13), none, (.ld (some 14) (.t 1))⟩, ⟨(some 14), none, (.call (.c (.fn 56 [])) [(.t 13)])⟩, ⟨(some 15), none, (.un .not (.t 14))⟩]) (.cond (.t 15) (.seq (.reg [⟨none, none, (.st 1 (.t 2) (.c (.sc (.int .i64 9))))⟩]) .ret) .skip)) (.st (.reg [⟨(some 16), none, (.mkf 57 [(.t 1)])⟩]) (.rng 0 (.t 16) [16, 17, 3, 21, 4, 1, 34, 2] #[17] as_syntax_Check_1 bo_syntax_Check_1 (.fin (.seq (.seq (.reg [⟨(some 23), none, (.fad 11 (.t 1))⟩, ⟨(some 24), none, (.ld none (.t 23))⟩, ⟨(some 25), none, (.len false (.t 24))⟩, ⟨(some 26), none, (.bin .gtr (.t 25) (.c (.sc (.int .i64 0))))⟩, ⟨(some 27), none, (.mv (.t 26))⟩, ⟨(some 28), (some (27, true)), (.fad 11 (.t 1))⟩, ⟨(some 29), (some (27, true)), (.ld none (.t 28))⟩, ⟨(some 30), (some (27, true)), (.iad 7 (.t 29) (.c (.sc (.int .i64 0))))⟩, ⟨(some 31), (some (27, true)), (.fad 0 (.t 30))⟩, ⟨(some 32), (some (27, true)), (.ld none (.t 31))⟩, ⟨(some 33), (some (27, true)), (.bin .neq (.t 32) (.c (.sc (.int .i64 1))))⟩, ⟨(some 34), none, (.pick (.t 27) (.t 33) (.c (.sc (.bool false))))⟩]) (.cond (.t 34) (.seq (.reg [⟨none, none, (.st 1 (.t 2) (.c (.sc (.int .i64 9))))⟩]) .ret) .skip)) (.seq (.reg [⟨none, none, (.st 1 (.t 2) (.c (.sc (.int .i64 0))))⟩]) .ret))))))))
def sh_syntax_Check (a0 : AV) (σ : Hp) (n : Nat) (R : AEnd → Hp → Nat → Prop) : Prop :=
 bindS (hBox n a0) σ n fun v1 σ n =>
 bindS (hAlloc n [(.int .i64 0)]) σ n fun v2 σ n =>
 bindP (aFad 0 v1) fun v3 =>
 bindP (aLd σ none v3) fun v4 =>
 bindP (semBin .lss v4 (.sc (.int .i64 1))) fun v5 =>
 guardP v5 false (aFad 0 v1) fun v6 =>
 guardP v5 false (aLd σ none v6) fun v7 =>
 guardP v5 false (semBin .gtr v7 (.sc (.int .i64 10))) fun v8 =>
 bindP (aPick v5 (.sc (.bool true)) v8) fun v9 =>
 COND v9 (
 bindS (hSt σ 1 v2 (.sc (.int .i64 22))) σ n fun v10 σ n =>
 bindP (aLd σ none v2) fun v11 =>
 R (.ret v11) σ n) (
 bindP (aLd σ (some 14) v1) fun v12 =>
 CALL Tryd.prog (.fn 56 []) [v12] σ n (kc_syntax_Check3 v2 R v1))
theorem se_syntax_Check (a0 : AV) (σ : Hp) (n : Nat) (R : AEnd → Hp → Nat → Prop) : sh_syntax_Check a0 σ n R = swpR Tryd.prog 35 sp_syntax_Check (retQ [(.c 2 none)] R) (entry [a0]) σ n := by kernel_rfl
theorem by_syntax_Check {a0 : AV} {σ : Hp} {n : Nat} {R : AEnd → Hp → Nat → Prop} (h : sh_syntax_Check a0 σ n R) : ConH Tryd.prog 26 [a0] σ n R := by
  rw [se_syntax_Check] at h
  exact conH_ofR [(.c 2 none)] (fn := Tryd.f26) rfl [0, 12, 15, 16, 17, 3, 21, 4, 1, 34, 2] (sp := sp_syntax_Check) (by kernel_rfl) (by kernel_rfl) (by kernel_rfl) (by kernel_rfl) h
def kc_syntax_Check_11 (a8 : AV) (y : Nat) (L : Lp) (gr : Regs) (R : AEnd → Hp → Nat → Prop) (r : AEnd) (σ : Hp) (n : Nat) : Prop :=
 onEnd r (fun v4 =>
 bindP (semBin .neq v4 (.sc (.int .i64 0))) fun v6 =>
 COND v6 (
 bindS (hSt σ 1 a8 v4) σ n fun v7 σ n =>
 σ y = some (.lp L gr 35 .busy none true) ∧ R (.ret (bb false)) (upd σ y (some (.lp L gr 35 .done (some .ret) true))) n) (
 σ y = some (.lp L gr 35 .busy none true) ∧ R (.ret (bb true)) (upd σ y (some (.lp L gr 35 .ready none true))) n)) (fun v5 => False)
attribute [go_sem] kc_syntax_Check_11
def sa_syntax_Check_1 : SCode := (.reg [
   ⟨(some 3), none, (.alloc [(.int .i64 0), (.int .i64 0), (.int .i64 0), (.string ⟨#[]⟩), (.string ⟨#[]⟩), (.string ⟨#[]⟩), (.slice none 0 0)])⟩,
    ⟨none, none, (.st 7 (.t 3) (.t 17))⟩])
def sb_syntax_Check_1 : SCode := (.block 1 (.seq (.reg [
   ⟨(some 18), none, (.ld (some 7) (.t 3))⟩,
    ⟨(some 19), none, (.call (.c (.fn 14 [])) [(.t 18)])⟩,
    ⟨(some 4), none, (.mv (.t 19))⟩]) (.seq (.reg [
   ⟨(some 20), none, (.mv (.t 4))⟩,
    ⟨(some 21), none, (.bin .neq (.t 20) (.c (.sc (.int .i64 0))))⟩]) (.cond (.t 21) (.seq (.reg [
   ⟨(some 22), none, (.mv (.t 4))⟩,
    ⟨none, none, (.st 1 (.t 2) (.t 22))⟩]) .ret) .skip))))
def shr_syntax_Check_1 (a0 a1 a2 a3 a4 a5 a6 a7 a8 : AV) (gr : Regs) (L : Lp) (y : Nat) (σ : Hp) (n : Nat) (R : AEnd → Hp → Nat → Prop) : Prop :=
 bindS (hAlloc n [(.int .i64 0), (.int .i64 0), (.int .i64 0), (.string ⟨#[]⟩), (.string ⟨#[]⟩), (.string ⟨#[]⟩), (.slice none 0 0)]) σ n fun v1 σ n =>
 bindS (hSt σ 7 v1 a0) σ n fun v2 σ n =>
 σ y = some (.lp L gr 35 .ready none true) ∧ (fun σ =>
 bindP (aLd σ (some 7) v1) fun v3 =>
 CALL Tryd.prog (.fn 14 []) [v3] σ n (kc_syntax_Check_11 a8 y L gr R)) (upd σ y (some (.lp L gr 35 .busy none true)))
theorem ser_syntax_Check_1 (a0 a1 a2 a3 a4 a5 a6 a7 a8 : AV) (gr : Regs) (L : Lp) (y : Nat) (σ : Hp) (n : Nat) (R : AEnd → Hp → Nat → Prop) : shr_syntax_Check_1 a0 a1 a2 a3 a4 a5 a6 a7 a8 gr L y σ n R = swp Tryd.prog sa_syntax_Check_1 (rndA Tryd.prog y L gr 35 sb_syntax_Check_1 R) (keepR [17, 16, 17, 3, 21, 4, 1, 34, 2] [a0, a1, a2, a3, a4, a5, a6, a7, a8]) σ n := by kernel_rfl
theorem byr_syntax_Check_1 {a0 a1 a2 a3 a4 a5 a6 a7 a8 : AV} {fnid : FuncId} {d y : Nat} {σ : Hp} {n : Nat} {R : AEnd → Hp → Nat → Prop} (hy : σ y = some (.lp ⟨fnid, #[17], as_syntax_Check_1, bo_syntax_Check_1, d⟩ (keepR [16, 17, 3, 21, 4, 1, 34, 2] [a1, a2, a3, a4, a5, a6, a7, a8]) 35 .ready none true)) (h : shr_syntax_Check_1 a0 a1 a2 a3 a4 a5 a6 a7 a8 (keepR [16, 17, 3, 21, 4, 1, 34, 2] [a1, a2, a3, a4, a5, a6, a7, a8]) ⟨fnid, #[17], as_syntax_Check_1, bo_syntax_Check_1, d⟩ y σ n R) : YCon Tryd.prog y [a0] σ n R := by
  rw [ser_syntax_Check_1] at h
  exact ycon_at (X := [0, 12, 15, 16, 17, 3, 21, 4, 1, 34, 2]) hy rfl (by kernel_rfl) (by kernel_rfl) (by kernel_rfl) h
end Go.Proofs.YtodoejfkjimeaaaDoor
