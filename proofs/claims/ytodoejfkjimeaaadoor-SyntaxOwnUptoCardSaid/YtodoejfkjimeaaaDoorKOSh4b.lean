/- Packed by a program of this repo: Sh4b. -/
import Derived.Test.YtodoejfkjimeaaaDoorKOMs
import Derived.Test.YtodoejfkjimeaaaDoorProg
set_option linter.unusedVariables false
set_option maxRecDepth 8000
namespace Go.Proofs.YtodoejfkjimeaaaDoor
open Go Am
def kc_law04_SyntaxOwn1 (Kg : AV → Hp → Nat → Prop) (R : AEnd → Hp → Nat → Prop) (r : AEnd) (σ : Hp) (n : Nat) : Prop :=
 onEnd r (fun v35 =>
 Kg v35 σ n) (fun v36 => R (.pan v36) σ n)
def kc_law04_SyntaxOwn2 (v13 : AV) (v14 : AV) (v8 : AV) (v1 : AV) (R : AEnd → Hp → Nat → Prop) (r : AEnd) (σ : Hp) (n : Nat) : Prop :=
 onEnd r (fun v23 =>
 bindP (aExt v23 0) fun v25 =>
 bindP (aExt v23 1) fun v26 =>
 bindP (semBin .eql v13 v25) fun v27 =>
 guardP v27 true (some v14) fun v28 =>
 guardP v27 true (some v26) fun v29 =>
 guardP v27 true (semBin .eql v28 v29) fun v30 =>
 bindP (aPick v27 v30 (.sc (.bool false))) fun v31 =>
 guardP v31 true (aLd σ (some 14) v8) fun v32 =>
 guardP v31 true (aLd σ (some 14) v1) fun v33 =>
 guardK v31 true (fun Kg => CALL Tryd.prog (.fn 22 []) [v32, v33] σ n (kc_law04_SyntaxOwn1 Kg R)) σ n fun v34 σ n =>
 bindP (aPick v31 v34 (.sc (.bool false))) fun v37 =>
 R (.ret v37) σ n) (fun v24 => R (.pan v24) σ n)
def kc_law04_SyntaxOwn3 (v8 : AV) (v13 : AV) (v14 : AV) (v1 : AV) (R : AEnd → Hp → Nat → Prop) (r : AEnd) (σ : Hp) (n : Nat) : Prop :=
 onEnd r (fun v20 =>
 bindP (aLd σ (some 14) v8) fun v22 =>
 CALL Tryd.prog (.fn 21 []) [v22] σ n (kc_law04_SyntaxOwn2 v13 v14 v8 v1 R)) (fun v21 => R (.pan v21) σ n)
def kc_law04_SyntaxOwn4 (v8 : AV) (v13 : AV) (v14 : AV) (v1 : AV) (R : AEnd → Hp → Nat → Prop) (r : AEnd) (σ : Hp) (n : Nat) : Prop :=
 onEnd r (fun v16 =>
 bindP (aLd σ (some 14) v8) fun v18 =>
 bindP (aLd σ (some 14) v8) fun v19 =>
 CALL Tryd.prog (.fn 19 []) [v18, v19] σ n (kc_law04_SyntaxOwn3 v8 v13 v14 v1 R)) (fun v17 => R (.pan v17) σ n)
def kc_law04_SyntaxOwn5 (v8 : AV) (v1 : AV) (R : AEnd → Hp → Nat → Prop) (r : AEnd) (σ : Hp) (n : Nat) : Prop :=
 onEnd r (fun v11 =>
 bindP (aExt v11 0) fun v13 =>
 bindP (aExt v11 1) fun v14 =>
 bindP (aLd σ (some 14) v8) fun v15 =>
 CALL Tryd.prog (.fn 26 []) [v15] σ n (kc_law04_SyntaxOwn4 v8 v13 v14 v1 R)) (fun v12 => R (.pan v12) σ n)
def kc_law04_SyntaxOwn6 (v1 : AV) (R : AEnd → Hp → Nat → Prop) (r : AEnd) (σ : Hp) (n : Nat) : Prop :=
 onEnd r (fun v6 =>
 bindS (hAlloc n [(.int .i64 0), (.string ⟨#[]⟩), (.slice none 0 0), (.string ⟨#[]⟩), (.string ⟨#[]⟩), (.slice none 0 0), (.slice none 0 0), (.slice none 0 0), (.string ⟨#[]⟩), (.slice none 0 0), (.slice none 0 0), (.slice none 0 0), (.slice none 0 0), (.int .i64 0)]) σ n fun v8 σ n =>
 bindS (hSt σ 14 v8 v6) σ n fun v9 σ n =>
 bindP (aLd σ (some 14) v8) fun v10 =>
 CALL Tryd.prog (.fn 21 []) [v10] σ n (kc_law04_SyntaxOwn5 v8 v1 R)) (fun v7 => R (.pan v7) σ n)
def kc_law04_SyntaxOwn7 (R : AEnd → Hp → Nat → Prop) (v1 : AV) (r : AEnd) (σ : Hp) (n : Nat) : Prop :=
 onEnd r (fun v2 =>
 bindP (aUn .not v2) fun v4 =>
 COND v4 (
 R (.ret (.sc (.bool false))) σ n) (
 bindP (aLd σ (some 14) v1) fun v5 =>
 CALL Tryd.prog (.fn 17 []) [v5] σ n (kc_law04_SyntaxOwn6 v1 R))) (fun v3 => R (.pan v3) σ n)
attribute [go_sem] kc_law04_SyntaxOwn1 kc_law04_SyntaxOwn2 kc_law04_SyntaxOwn3 kc_law04_SyntaxOwn4 kc_law04_SyntaxOwn5 kc_law04_SyntaxOwn6 kc_law04_SyntaxOwn7
def sc_law04_SyntaxOwn : SCode := (.seq (.reg [ ⟨some 1,none,.box (.t 0)⟩,⟨some 2,none,.mv (.c (.sc (.bool false)))⟩]) (.seq (.seq (.reg [ ⟨some 8,none,.call (.c (.fn 9 [])) []⟩,⟨some 9,none,.un .not (.t 8)⟩]) (.cond (.t 9) (.seq (.reg [ ⟨some 2,none,.mv (.c (.sc (.bool false)))⟩]) .ret) .skip)) (.seq (.reg [ ⟨some 10,none,.ld (some 14) (.t 1)⟩,⟨some 11,none,.call (.c (.fn 17 [])) [(.t 10)]⟩,⟨some 3,none,.alloc [(.int .i64 0),(.string ⟨#[]⟩),(.slice none 0 0),(.string ⟨#[]⟩),(.string ⟨#[]⟩),(.slice none 0 0),(.slice none 0 0),(.slice none 0 0),(.string ⟨#[]⟩),(.slice none 0 0),(.slice none 0 0),(.slice none 0 0),(.slice none 0 0),(.int .i64 0)]⟩,⟨none,none,(.st 14 (.t 3) (.t 11))⟩]) (.seq (.reg [ ⟨some 13,none,.ld (some 14) (.t 3)⟩,⟨some 14,none,.call (.c (.fn 21 [])) [(.t 13)]⟩,⟨some 12,none,.mv (.t 14)⟩,⟨some 15,none,.ext (.t 12) 0⟩,⟨some 16,none,.ext (.t 12) 1⟩,⟨some 4,none,.mv (.t 15)⟩,⟨some 5,none,.mv (.t 16)⟩]) (.seq (.reg [ ⟨some 17,none,.ld (some 14) (.t 3)⟩,⟨some 18,none,.call (.c (.fn 26 [])) [(.t 17)]⟩]) (.seq (.reg [ ⟨some 19,none,.ld (some 14) (.t 3)⟩,⟨some 20,none,.ld (some 14) (.t 3)⟩,⟨some 21,none,.call (.c (.fn 19 [])) [(.t 19),(.t 20)]⟩]) (.seq (.reg [ ⟨some 23,none,.ld (some 14) (.t 3)⟩,⟨some 24,none,.call (.c (.fn 21 [])) [(.t 23)]⟩,⟨some 22,none,.mv (.t 24)⟩,⟨some 25,none,.ext (.t 22) 0⟩,⟨some 26,none,.ext (.t 22) 1⟩,⟨some 6,none,.mv (.t 25)⟩,⟨some 7,none,.mv (.t 26)⟩]) (.seq (.reg [ ⟨some 27,none,.mv (.t 4)⟩,⟨some 28,none,.mv (.t 6)⟩,⟨some 29,none,.bin .eql (.t 27) (.t 28)⟩,⟨some 30,none,.mv (.t 29)⟩,⟨(some 31),(some (30,true)),(.mv (.t 5))⟩,⟨(some 32),(some (30,true)),(.mv (.t 7))⟩,⟨(some 33),(some (30,true)),(.bin .eql (.t 31) (.t 32))⟩,⟨some 34,none,.pick (.t 30) (.t 33) (.c (.sc (.bool false)))⟩,⟨some 35,none,.mv (.t 34)⟩,⟨(some 36),(some (35,true)),(.ld (some 14) (.t 3))⟩,⟨(some 37),(some (35,true)),(.ld (some 14) (.t 1))⟩,⟨(some 38),(some (35,true)),(.call (.c (.fn 22 [])) [(.t 36),(.t 37)])⟩,⟨some 39,none,.pick (.t 35) (.t 38) (.c (.sc (.bool false)))⟩,⟨some 2,none,.mv (.t 39)⟩]) .ret))))))))
def sh_law04_SyntaxOwn (a0 : AV) (σ : Hp) (n : Nat) (R : AEnd → Hp → Nat → Prop) : Prop :=
 bindS (hBox n a0) σ n fun v1 σ n =>
 CALL Tryd.prog (.fn 9 []) [] σ n (kc_law04_SyntaxOwn7 R v1)
theorem se_law04_SyntaxOwn (a0 : AV) (σ : Hp) (n : Nat) (R : AEnd → Hp → Nat → Prop) : sh_law04_SyntaxOwn a0 σ n R = swp Tryd.prog sc_law04_SyntaxOwn (retQ [(.t 2)] R) (entry [a0]) σ n := by kernel_rfl
theorem by_law04_SyntaxOwn {a0 : AV} {σ : Hp} {n : Nat} {R : AEnd → Hp → Nat → Prop} (h : sh_law04_SyntaxOwn a0 σ n R) : ConH Tryd.prog 8 [a0] σ n R := by
  rw [se_law04_SyntaxOwn] at h
  exact conH_of [(.t 2)] (fn := Tryd.f8) rfl [0, 9, 4, 6, 5, 7, 3, 1, 2] (by kernel_rfl) (by kernel_rfl) (by kernel_rfl) (by kernel_rfl) h
def kc_syntax_Same1 (Kg : AV → Hp → Nat → Prop) (R : AEnd → Hp → Nat → Prop) (r : AEnd) (σ : Hp) (n : Nat) : Prop :=
 onEnd r (fun v9 =>
 Kg v9 σ n) (fun v10 => R (.pan v10) σ n)
def kc_syntax_Same2 (Kg : AV → Hp → Nat → Prop) (R : AEnd → Hp → Nat → Prop) (r : AEnd) (σ : Hp) (n : Nat) : Prop :=
 onEnd r (fun v53 =>
 Kg v53 σ n) (fun v54 => R (.pan v54) σ n)
def kc_syntax_Same3 (Kg : AV → Hp → Nat → Prop) (R : AEnd → Hp → Nat → Prop) (r : AEnd) (σ : Hp) (n : Nat) : Prop :=
 onEnd r (fun v61 =>
 Kg v61 σ n) (fun v62 => R (.pan v62) σ n)
def kc_syntax_Same4 (Kg : AV → Hp → Nat → Prop) (R : AEnd → Hp → Nat → Prop) (r : AEnd) (σ : Hp) (n : Nat) : Prop :=
 onEnd r (fun v70 =>
 Kg v70 σ n) (fun v71 => R (.pan v71) σ n)
def kc_syntax_Same5 (Kg : AV → Hp → Nat → Prop) (R : AEnd → Hp → Nat → Prop) (r : AEnd) (σ : Hp) (n : Nat) : Prop :=
 onEnd r (fun v78 =>
 Kg v78 σ n) (fun v79 => R (.pan v79) σ n)
def kc_syntax_Same6 (Kg : AV → Hp → Nat → Prop) (R : AEnd → Hp → Nat → Prop) (r : AEnd) (σ : Hp) (n : Nat) : Prop :=
 onEnd r (fun v87 =>
 Kg v87 σ n) (fun v88 => R (.pan v88) σ n)
def kc_syntax_Same7 (Kg : AV → Hp → Nat → Prop) (R : AEnd → Hp → Nat → Prop) (r : AEnd) (σ : Hp) (n : Nat) : Prop :=
 onEnd r (fun v96 =>
 Kg v96 σ n) (fun v97 => R (.pan v97) σ n)
def kc_syntax_Same8 (Kg : AV → Hp → Nat → Prop) (R : AEnd → Hp → Nat → Prop) (r : AEnd) (σ : Hp) (n : Nat) : Prop :=
 onEnd r (fun v105 =>
 Kg v105 σ n) (fun v106 => R (.pan v106) σ n)
def kc_syntax_Same9 (Kg : AV → Hp → Nat → Prop) (R : AEnd → Hp → Nat → Prop) (r : AEnd) (σ : Hp) (n : Nat) : Prop :=
 onEnd r (fun v114 =>
 Kg v114 σ n) (fun v115 => R (.pan v115) σ n)
def kc_syntax_Same10 (v2 : AV) (R : AEnd → Hp → Nat → Prop) (v1 : AV) (r : AEnd) (σ : Hp) (n : Nat) : Prop :=
 onEnd r (fun v4 =>
 bindP (semBin .neq v4 (.sc (.int .i64 0))) fun v6 =>
 guardP v6 false (aLd σ (some 14) v2) fun v7 =>
 guardK v6 false (fun Kg => CALL Tryd.prog (.fn 26 []) [v7] σ n (kc_syntax_Same1 Kg R)) σ n fun v8 σ n =>
 guardP v6 false (semBin .neq v8 (.sc (.int .i64 0))) fun v11 =>
 bindP (aPick v6 (.sc (.bool true)) v11) fun v12 =>
 COND v12 (
 R (.ret (.sc (.bool false))) σ n) (
 bindP (aFad 0 v1) fun v13 =>
 bindP (aLd σ none v13) fun v14 =>
 bindP (aFad 0 v2) fun v15 =>
 bindP (aLd σ none v15) fun v16 =>
 bindP (semBin .eql v14 v16) fun v17 =>
 guardP v17 true (aFad 1 v1) fun v18 =>
 guardP v17 true (aLd σ none v18) fun v19 =>
 guardP v17 true (aFad 1 v2) fun v20 =>
 guardP v17 true (aLd σ none v20) fun v21 =>
 guardP v17 true (semBin .eql v19 v21) fun v22 =>
 bindP (aPick v17 v22 (.sc (.bool false))) fun v23 =>
 guardP v23 true (aFad 3 v1) fun v24 =>
 guardP v23 true (aLd σ none v24) fun v25 =>
 guardP v23 true (aFad 3 v2) fun v26 =>
 guardP v23 true (aLd σ none v26) fun v27 =>
 guardP v23 true (semBin .eql v25 v27) fun v28 =>
 bindP (aPick v23 v28 (.sc (.bool false))) fun v29 =>
 guardP v29 true (aFad 4 v1) fun v30 =>
 guardP v29 true (aLd σ none v30) fun v31 =>
 guardP v29 true (aFad 4 v2) fun v32 =>
 guardP v29 true (aLd σ none v32) fun v33 =>
 guardP v29 true (semBin .eql v31 v33) fun v34 =>
 bindP (aPick v29 v34 (.sc (.bool false))) fun v35 =>
 guardP v35 true (aFad 8 v1) fun v36 =>
 guardP v35 true (aLd σ none v36) fun v37 =>
 guardP v35 true (aFad 8 v2) fun v38 =>
 guardP v35 true (aLd σ none v38) fun v39 =>
 guardP v35 true (semBin .eql v37 v39) fun v40 =>
 bindP (aPick v35 v40 (.sc (.bool false))) fun v41 =>
 guardP v41 true (aFad 13 v1) fun v42 =>
 guardP v41 true (aLd σ none v42) fun v43 =>
 guardP v41 true (aFad 13 v2) fun v44 =>
 guardP v41 true (aLd σ none v44) fun v45 =>
 guardP v41 true (semBin .eql v43 v45) fun v46 =>
 bindP (aPick v41 v46 (.sc (.bool false))) fun v47 =>
 guardP v47 true (aFad 2 v1) fun v48 =>
 guardP v47 true (aLd σ none v48) fun v49 =>
 guardP v47 true (aFad 2 v2) fun v50 =>
 guardP v47 true (aLd σ none v50) fun v51 =>
 guardK v47 true (fun Kg => CALL Tryd.prog (.fn 42 []) [v49, v51] σ n (kc_syntax_Same2 Kg R)) σ n fun v52 σ n =>
 bindP (aPick v47 v52 (.sc (.bool false))) fun v55 =>
 guardP v55 true (aFad 12 v1) fun v56 =>
 guardP v55 true (aLd σ none v56) fun v57 =>
 guardP v55 true (aFad 12 v2) fun v58 =>
 guardP v55 true (aLd σ none v58) fun v59 =>
 guardK v55 true (fun Kg => CALL Tryd.prog (.fn 43 []) [v57, v59] σ n (kc_syntax_Same3 Kg R)) σ n fun v60 σ n =>
 bindP (aPick v55 v60 (.sc (.bool false))) fun v63 =>
 guardP v63 true (aFad 5 v1) fun v64 =>
 guardP v63 true (aLd σ none v64) fun v65 =>
 guardP v63 true (aFad 5 v2) fun v66 =>
 guardP v63 true (aLd σ none v66) fun v67 =>
 guardP v63 true (some (.fn 39 [])) fun v68 =>
 guardK v63 true (fun Kg => CALL Tryd.prog (.fn 44 []) [v65, v67, v68] σ n (kc_syntax_Same4 Kg R)) σ n fun v69 σ n =>
 bindP (aPick v63 v69 (.sc (.bool false))) fun v72 =>
 guardP v72 true (aFad 6 v1) fun v73 =>
 guardP v72 true (aLd σ none v73) fun v74 =>
 guardP v72 true (aFad 6 v2) fun v75 =>
 guardP v72 true (aLd σ none v75) fun v76 =>
 guardK v72 true (fun Kg => CALL Tryd.prog (.fn 45 []) [v74, v76, (.fn 46 [])] σ n (kc_syntax_Same5 Kg R)) σ n fun v77 σ n =>
 bindP (aPick v72 v77 (.sc (.bool false))) fun v80 =>
 guardP v80 true (some (.fn 39 [])) fun v81 =>
 guardP v80 true (aFad 7 v1) fun v82 =>
 guardP v80 true (aLd σ none v82) fun v83 =>
 guardP v80 true (aFad 7 v2) fun v84 =>
 guardP v80 true (aLd σ none v84) fun v85 =>
 guardK v80 true (fun Kg => CALL Tryd.prog v81 [v83, v85] σ n (kc_syntax_Same6 Kg R)) σ n fun v86 σ n =>
 bindP (aPick v80 v86 (.sc (.bool false))) fun v89 =>
 guardP v89 true (some (.fn 39 [])) fun v90 =>
 guardP v89 true (aFad 9 v1) fun v91 =>
 guardP v89 true (aLd σ none v91) fun v92 =>
 guardP v89 true (aFad 9 v2) fun v93 =>
 guardP v89 true (aLd σ none v93) fun v94 =>
 guardK v89 true (fun Kg => CALL Tryd.prog v90 [v92, v94] σ n (kc_syntax_Same7 Kg R)) σ n fun v95 σ n =>
 bindP (aPick v89 v95 (.sc (.bool false))) fun v98 =>
 guardP v98 true (some (.fn 39 [])) fun v99 =>
 guardP v98 true (aFad 10 v1) fun v100 =>
 guardP v98 true (aLd σ none v100) fun v101 =>
 guardP v98 true (aFad 10 v2) fun v102 =>
 guardP v98 true (aLd σ none v102) fun v103 =>
 guardK v98 true (fun Kg => CALL Tryd.prog v99 [v101, v103] σ n (kc_syntax_Same8 Kg R)) σ n fun v104 σ n =>
 bindP (aPick v98 v104 (.sc (.bool false))) fun v107 =>
 guardP v107 true (some (.fn 39 [])) fun v108 =>
 guardP v107 true (aFad 11 v1) fun v109 =>
 guardP v107 true (aLd σ none v109) fun v110 =>
 guardP v107 true (aFad 11 v2) fun v111 =>
 guardP v107 true (aLd σ none v111) fun v112 =>
 guardK v107 true (fun Kg => CALL Tryd.prog v108 [v110, v112] σ n (kc_syntax_Same9 Kg R)) σ n fun v113 σ n =>
 bindP (aPick v107 v113 (.sc (.bool false))) fun v116 =>
 R (.ret v116) σ n)) (fun v5 => R (.pan v5) σ n)
attribute [go_sem] kc_syntax_Same1 kc_syntax_Same2 kc_syntax_Same3 kc_syntax_Same4 kc_syntax_Same5 kc_syntax_Same6 kc_syntax_Same7 kc_syntax_Same8 kc_syntax_Same9 kc_syntax_Same10
def sc_syntax_Same : SCode := (.seq (.reg [ ⟨some 2,none,.box (.t 0)⟩,⟨some 3,none,.box (.t 1)⟩,⟨some 4,none,.mv (.c (.sc (.bool false)))⟩]) (.seq (.seq (.reg [ ⟨some 7,none,.ld (some 14) (.t 2)⟩,⟨some 8,none,.call (.c (.fn 26 [])) [(.t 7)]⟩,⟨some 9,none,.bin .neq (.t 8) (.c (.sc (.int .i64 0)))⟩,⟨some 10,none,.mv (.t 9)⟩,⟨(some 11),(some (10,false)),(.ld (some 14) (.t 3))⟩,⟨(some 12),(some (10,false)),(.call (.c (.fn 26 [])) [(.t 11)])⟩,⟨(some 13),(some (10,false)),(.bin .neq (.t 12) (.c (.sc (.int .i64 0))))⟩,⟨some 14,none,.pick (.t 10) (.c (.sc (.bool true))) (.t 13)⟩]) (.cond (.t 14) (.seq (.reg [ ⟨some 4,none,.mv (.c (.sc (.bool false)))⟩]) .ret) .skip)) (.seq (.reg [ ⟨some 5,none,.mv (.c (.fn 39 []))⟩]) (.seq (.reg [ ⟨some 15,none,.fad 0 (.t 2)⟩,⟨some 16,none,.ld none (.t 15)⟩,⟨some 17,none,.fad 0 (.t 3)⟩,⟨some 18,none,.ld none (.t 17)⟩,⟨some 19,none,.bin .eql (.t 16) (.t 18)⟩,⟨some 20,none,.mv (.t 19)⟩,⟨(some 21),(some (20,true)),(.fad 1 (.t 2))⟩,⟨(some 22),(some (20,true)),(.ld none (.t 21))⟩,⟨(some 23),(some (20,true)),(.fad 1 (.t 3))⟩,⟨(some 24),(some (20,true)),(.ld none (.t 23))⟩,⟨(some 25),(some (20,true)),(.bin .eql (.t 22) (.t 24))⟩,⟨some 26,none,.pick (.t 20) (.t 25) (.c (.sc (.bool false)))⟩,⟨some 27,none,.mv (.t 26)⟩,⟨(some 28),(some (27,true)),(.fad 3 (.t 2))⟩,⟨(some 29),(some (27,true)),(.ld none (.t 28))⟩,⟨(some 30),(some (27,true)),(.fad 3 (.t 3))⟩,⟨(some 31),(some (27,true)),(.ld none (.t 30))⟩,⟨(some 32),(some (27,true)),(.bin .eql (.t 29) (.t 31))⟩,⟨some 33,none,.pick (.t 27) (.t 32) (.c (.sc (.bool false)))⟩,⟨some 34,none,.mv (.t 33)⟩,⟨(some 35),(some (34,true)),(.fad 4 (.t 2))⟩,⟨(some 36),(some (34,true)),(.ld none (.t 35))⟩,⟨(some 37),(some (34,true)),(.fad 4 (.t 3))⟩,⟨(some 38),(some (34,true)),(.ld none (.t 37))⟩,⟨(some 39),(some (34,true)),(.bin .eql (.t 36) (.t 38))⟩,⟨some 40,none,.pick (.t 34) (.t 39) (.c (.sc (.bool false)))⟩,⟨some 41,none,.mv (.t 40)⟩,⟨(some 42),(some (41,true)),(.fad 8 (.t 2))⟩,⟨(some 43),(some (41,true)),(.ld none (.t 42))⟩,⟨(some 44),(some (41,true)),(.fad 8 (.t 3))⟩,⟨(some 45),(some (41,true)),(.ld none (.t 44))⟩,⟨(some 46),(some (41,true)),(.bin .eql (.t 43) (.t 45))⟩,⟨some 47,none,.pick (.t 41) (.t 46) (.c (.sc (.bool false)))⟩,⟨some 48,none,.mv (.t 47)⟩,⟨(some 49),(some (48,true)),(.fad 13 (.t 2))⟩,⟨(some 50),(some (48,true)),(.ld none (.t 49))⟩,⟨(some 51),(some (48,true)),(.fad 13 (.t 3))⟩,⟨(some 52),(some (48,true)),(.ld none (.t 51))⟩,⟨(some 53),(some (48,true)),(.bin .eql (.t 50) (.t 52))⟩,⟨some 54,none,.pick (.t 48) (.t 53) (.c (.sc (.bool false)))⟩,⟨some 6,none,.mv (.t 54)⟩]) (.seq (.reg [ ⟨some 55,none,.mv (.t 6)⟩,⟨some 56,none,.mv (.t 55)⟩,⟨(some 57),(some (56,true)),(.fad 2 (.t 2))⟩,⟨(some 58),(some (56,true)),(.ld none (.t 57))⟩,⟨(some 59),(some (56,true)),(.fad 2 (.t 3))⟩,⟨(some 60),(some (56,true)),(.ld none (.t 59))⟩,⟨(some 61),(some (56,true)),(.call (.c (.fn 42 [])) [(.t 58),(.t 60)])⟩,⟨some 62,none,.pick (.t 56) (.t 61) (.c (.sc (.bool false)))⟩,⟨some 63,none,.mv (.t 62)⟩,⟨(some 64),(some (63,true)),(.fad 12 (.t 2))⟩,⟨(some 65),(some (63,true)),(.ld none (.t 64))⟩,⟨(some 66),(some (63,true)),(.fad 12 (.t 3))⟩,⟨(some 67),(some (63,true)),(.ld none (.t 66))⟩,⟨(some 68),(some (63,true)),(.call (.c (.fn 43 [])) [(.t 65),(.t 67)])⟩,⟨some 69,none,.pick (.t 63) (.t 68) (.c (.sc (.bool false)))⟩,⟨some 70,none,.mv (.t 69)⟩,⟨(some 71),(some (70,true)),(.fad 5 (.t 2))⟩,⟨(some 72),(some (70,true)),(.ld none (.t 71))⟩,⟨(some 73),(some (70,true)),(.fad 5 (.t 3))⟩,⟨(some 74),(some (70,true)),(.ld none (.t 73))⟩,⟨(some 75),(some (70,true)),(.mv (.t 5))⟩,⟨(some 76),(some (70,true)),(.call (.c (.fn 44 [])) [(.t 72),(.t 74),(.t 75)])⟩,⟨some 77,none,.pick (.t 70) (.t 76) (.c (.sc (.bool false)))⟩,⟨some 78,none,.mv (.t 77)⟩,⟨(some 79),(some (78,true)),(.fad 6 (.t 2))⟩,⟨(some 80),(some (78,true)),(.ld none (.t 79))⟩,⟨(some 81),(some (78,true)),(.fad 6 (.t 3))⟩,⟨(some 82),(some (78,true)),(.ld none (.t 81))⟩,⟨(some 83),(some (78,true)),(.call (.c (.fn 45 [])) [(.t 80),(.t 82),(.c (.fn 46 []))])⟩,⟨some 84,none,.pick (.t 78) (.t 83) (.c (.sc (.bool false)))⟩,⟨some 85,none,.mv (.t 84)⟩,⟨(some 86),(some (85,true)),(.mv (.t 5))⟩,⟨(some 87),(some (85,true)),(.fad 7 (.t 2))⟩,⟨(some 88),(some (85,true)),(.ld none (.t 87))⟩,⟨(some 89),(some (85,true)),(.fad 7 (.t 3))⟩,⟨(some 90),(some (85,true)),(.ld none (.t 89))⟩,⟨(some 91),(some (85,true)),(.call (.t 86) [(.t 88),(.t 90)])⟩,⟨some 92,none,.pick (.t 85) (.t 91) (.c (.sc (.bool false)))⟩,⟨some 93,none,.mv (.t 92)⟩,⟨(some 94),(some (93,true)),(.mv (.t 5))⟩,⟨(some 95),(some (93,true)),(.fad 9 (.t 2))⟩,⟨(some 96),(some (93,true)),(.ld none (.t 95))⟩,⟨(some 97),(some (93,true)),(.fad 9 (.t 3))⟩,⟨(some 98),(some (93,true)),(.ld none (.t 97))⟩,⟨(some 99),(some (93,true)),(.call (.t 94) [(.t 96),(.t 98)])⟩,⟨some 100,none,.pick (.t 93) (.t 99) (.c (.sc (.bool false)))⟩,⟨some 101,none,.mv (.t 100)⟩,⟨(some 102),(some (101,true)),(.mv (.t 5))⟩,⟨(some 103),(some (101,true)),(.fad 10 (.t 2))⟩,⟨(some 104),(some (101,true)),(.ld none (.t 103))⟩,⟨(some 105),(some (101,true)),(.fad 10 (.t 3))⟩,⟨(some 106),(some (101,true)),(.ld none (.t 105))⟩,⟨(some 107),(some (101,true)),(.call (.t 102) [(.t 104),(.t 106)])⟩,⟨some 108,none,.pick (.t 101) (.t 107) (.c (.sc (.bool false)))⟩,⟨some 109,none,.mv (.t 108)⟩,⟨(some 110),(some (109,true)),(.mv (.t 5))⟩,⟨(some 111),(some (109,true)),(.fad 11 (.t 2))⟩,⟨(some 112),(some (109,true)),(.ld none (.t 111))⟩,⟨(some 113),(some (109,true)),(.fad 11 (.t 3))⟩,⟨(some 114),(some (109,true)),(.ld none (.t 113))⟩,⟨(some 115),(some (109,true)),(.call (.t 110) [(.t 112),(.t 114)])⟩,⟨some 116,none,.pick (.t 109) (.t 115) (.c (.sc (.bool false)))⟩,⟨some 4,none,.mv (.t 116)⟩]) .ret)))))
def sh_syntax_Same (a0 a1 : AV) (σ : Hp) (n : Nat) (R : AEnd → Hp → Nat → Prop) : Prop :=
 bindS (hBox n a0) σ n fun v1 σ n =>
 bindS (hBox n a1) σ n fun v2 σ n =>
 bindP (aLd σ (some 14) v1) fun v3 =>
 CALL Tryd.prog (.fn 26 []) [v3] σ n (kc_syntax_Same10 v2 R v1)
theorem se_syntax_Same (a0 a1 : AV) (σ : Hp) (n : Nat) (R : AEnd → Hp → Nat → Prop) : sh_syntax_Same a0 a1 σ n R = swp Tryd.prog sc_syntax_Same (retQ [(.t 4)] R) (entry [a0, a1]) σ n := by kernel_rfl
theorem by_syntax_Same {a0 a1 : AV} {σ : Hp} {n : Nat} {R : AEnd → Hp → Nat → Prop} (h : sh_syntax_Same a0 a1 σ n R) : ConH Tryd.prog 19 [a0, a1] σ n R := by
  rw [se_syntax_Same] at h
  exact conH_of [(.t 4)] (fn := Tryd.f19) rfl [0, 1, 14, 6, 5, 2, 3, 4] (by kernel_rfl) (by kernel_rfl) (by kernel_rfl) (by kernel_rfl) h
def kc_syntax_Same_c11 (R : AEnd → Hp → Nat → Prop) (r : AEnd) (σ : Hp) (n : Nat) : Prop :=
 onEnd r (fun v1 =>
 R (.ret v1) σ n) (fun v2 => R (.pan v2) σ n)
attribute [go_sem] kc_syntax_Same_c11
def sc_syntax_Same_c1 : SCode := (.seq (.reg [ ⟨some 4,none,.mv (.c (.sc (.bool false)))⟩]) (.seq (.reg [ ⟨some 5,none,.mv (.t 0)⟩,⟨some 6,none,.mv (.t 1)⟩,⟨some 7,none,.call (.c (.fn 40 [])) [(.t 5),(.t 6),(.c (.fn 41 []))]⟩,⟨some 4,none,.mv (.t 7)⟩]) .ret))
def sh_syntax_Same_c1 (a0 a1 : AV) (σ : Hp) (n : Nat) (R : AEnd → Hp → Nat → Prop) : Prop :=
 CALL Tryd.prog (.fn 40 []) [a0, a1, (.fn 41 [])] σ n (kc_syntax_Same_c11 R)
theorem se_syntax_Same_c1 (a0 a1 : AV) (σ : Hp) (n : Nat) (R : AEnd → Hp → Nat → Prop) : sh_syntax_Same_c1 a0 a1 σ n R = swp Tryd.prog sc_syntax_Same_c1 (retQ [(.t 4)] R) (entry [a0, a1]) σ n := by kernel_rfl
theorem by_syntax_Same_c1 {a0 a1 : AV} {σ : Hp} {n : Nat} {R : AEnd → Hp → Nat → Prop} (h : sh_syntax_Same_c1 a0 a1 σ n R) : ConH Tryd.prog 39 [a0, a1] σ n R := by
  rw [se_syntax_Same_c1] at h
  exact conH_of [(.t 4)] (fn := Tryd.f39) rfl [0, 1, 4] (by kernel_rfl) (by kernel_rfl) (by kernel_rfl) (by kernel_rfl) h
def kc_syntax_Same_c21 (Kg : AV → Hp → Nat → Prop) (R : AEnd → Hp → Nat → Prop) (r : AEnd) (σ : Hp) (n : Nat) : Prop :=
 onEnd r (fun v13 =>
 Kg v13 σ n) (fun v14 => R (.pan v14) σ n)
attribute [go_sem] kc_syntax_Same_c21
def sc_syntax_Same_c2 : SCode := (.seq (.reg [ ⟨some 2,none,.box (.t 0)⟩,⟨some 3,none,.box (.t 1)⟩,⟨some 4,none,.mv (.c (.sc (.bool false)))⟩]) (.seq (.reg [ ⟨some 5,none,.fad 0 (.t 2)⟩,⟨some 6,none,.ld none (.t 5)⟩,⟨some 7,none,.fad 0 (.t 3)⟩,⟨some 8,none,.ld none (.t 7)⟩,⟨some 9,none,.bin .eql (.t 6) (.t 8)⟩,⟨some 10,none,.mv (.t 9)⟩,⟨(some 11),(some (10,true)),(.fad 1 (.t 2))⟩,⟨(some 12),(some (10,true)),(.ld (some 7) (.t 11))⟩,⟨(some 13),(some (10,true)),(.fad 1 (.t 3))⟩,⟨(some 14),(some (10,true)),(.ld (some 7) (.t 13))⟩,⟨(some 15),(some (10,true)),(.call (.c (.fn 41 [])) [(.t 12),(.t 14)])⟩,⟨some 16,none,.pick (.t 10) (.t 15) (.c (.sc (.bool false)))⟩,⟨some 4,none,.mv (.t 16)⟩]) .ret))
def sh_syntax_Same_c2 (a0 a1 : AV) (σ : Hp) (n : Nat) (R : AEnd → Hp → Nat → Prop) : Prop :=
 bindS (hBox n a0) σ n fun v1 σ n =>
 bindS (hBox n a1) σ n fun v2 σ n =>
 bindP (aFad 0 v1) fun v3 =>
 bindP (aLd σ none v3) fun v4 =>
 bindP (aFad 0 v2) fun v5 =>
 bindP (aLd σ none v5) fun v6 =>
 bindP (semBin .eql v4 v6) fun v7 =>
 guardP v7 true (aFad 1 v1) fun v8 =>
 guardP v7 true (aLd σ (some 7) v8) fun v9 =>
 guardP v7 true (aFad 1 v2) fun v10 =>
 guardP v7 true (aLd σ (some 7) v10) fun v11 =>
 guardK v7 true (fun Kg => CALL Tryd.prog (.fn 41 []) [v9, v11] σ n (kc_syntax_Same_c21 Kg R)) σ n fun v12 σ n =>
 bindP (aPick v7 v12 (.sc (.bool false))) fun v15 =>
 R (.ret v15) σ n
theorem se_syntax_Same_c2 (a0 a1 : AV) (σ : Hp) (n : Nat) (R : AEnd → Hp → Nat → Prop) : sh_syntax_Same_c2 a0 a1 σ n R = swp Tryd.prog sc_syntax_Same_c2 (retQ [(.t 4)] R) (entry [a0, a1]) σ n := by kernel_rfl
theorem by_syntax_Same_c2 {a0 a1 : AV} {σ : Hp} {n : Nat} {R : AEnd → Hp → Nat → Prop} (h : sh_syntax_Same_c2 a0 a1 σ n R) : ConH Tryd.prog 46 [a0, a1] σ n R := by
  rw [se_syntax_Same_c2] at h
  exact conH_of [(.t 4)] (fn := Tryd.f46) rfl [0, 1, 2, 3, 4] (by kernel_rfl) (by kernel_rfl) (by kernel_rfl) (by kernel_rfl) h
def kc_syntax_Alike1 (Kg : AV → Hp → Nat → Prop) (R : AEnd → Hp → Nat → Prop) (r : AEnd) (σ : Hp) (n : Nat) : Prop :=
 onEnd r (fun v31 =>
 Kg v31 σ n) (fun v32 => R (.pan v32) σ n)
attribute [go_sem] kc_syntax_Alike1
def sc_syntax_Alike : SCode := (.seq (.reg [ ⟨some 2,none,.box (.t 0)⟩,⟨some 3,none,.box (.t 1)⟩,⟨some 4,none,.mv (.c (.sc (.bool false)))⟩]) (.seq (.reg [ ⟨some 5,none,.fad 0 (.t 2)⟩,⟨some 6,none,.ld none (.t 5)⟩,⟨some 7,none,.fad 0 (.t 3)⟩,⟨some 8,none,.ld none (.t 7)⟩,⟨some 9,none,.bin .eql (.t 6) (.t 8)⟩,⟨some 10,none,.mv (.t 9)⟩,⟨(some 11),(some (10,true)),(.fad 1 (.t 2))⟩,⟨(some 12),(some (10,true)),(.ld (some 3) (.t 11))⟩,⟨(some 13),(some (10,true)),(.fad 1 (.t 3))⟩,⟨(some 14),(some (10,true)),(.ld (some 3) (.t 13))⟩,⟨(some 15),(some (10,true)),(.eqs [0,0,2] false (.t 12) (.t 14))⟩,⟨some 16,none,.pick (.t 10) (.t 15) (.c (.sc (.bool false)))⟩,⟨some 17,none,.mv (.t 16)⟩,⟨(some 18),(some (17,true)),(.fad 4 (.t 2))⟩,⟨(some 19),(some (17,true)),(.ld none (.t 18))⟩,⟨(some 20),(some (17,true)),(.fad 4 (.t 3))⟩,⟨(some 21),(some (17,true)),(.ld none (.t 20))⟩,⟨(some 22),(some (17,true)),(.bin .eql (.t 19) (.t 21))⟩,⟨some 23,none,.pick (.t 17) (.t 22) (.c (.sc (.bool false)))⟩,⟨some 24,none,.mv (.t 23)⟩,⟨(some 25),(some (24,true)),(.fad 5 (.t 2))⟩,⟨(some 26),(some (24,true)),(.ld none (.t 25))⟩,⟨(some 27),(some (24,true)),(.fad 5 (.t 3))⟩,⟨(some 28),(some (24,true)),(.ld none (.t 27))⟩,⟨(some 29),(some (24,true)),(.bin .eql (.t 26) (.t 28))⟩,⟨some 30,none,.pick (.t 24) (.t 29) (.c (.sc (.bool false)))⟩,⟨some 31,none,.mv (.t 30)⟩,⟨(some 32),(some (31,true)),(.fad 6 (.t 2))⟩,⟨(some 33),(some (31,true)),(.ld none (.t 32))⟩,⟨(some 34),(some (31,true)),(.fad 6 (.t 3))⟩,⟨(some 35),(some (31,true)),(.ld none (.t 34))⟩,⟨(some 36),(some (31,true)),(.call (.c (.fn 40 [])) [(.t 33),(.t 35),(.c (.fn 41 []))])⟩,⟨some 37,none,.pick (.t 31) (.t 36) (.c (.sc (.bool false)))⟩,⟨some 4,none,.mv (.t 37)⟩]) .ret))
def sh_syntax_Alike (a0 a1 : AV) (σ : Hp) (n : Nat) (R : AEnd → Hp → Nat → Prop) : Prop :=
 bindS (hBox n a0) σ n fun v1 σ n =>
 bindS (hBox n a1) σ n fun v2 σ n =>
 bindP (aFad 0 v1) fun v3 =>
 bindP (aLd σ none v3) fun v4 =>
 bindP (aFad 0 v2) fun v5 =>
 bindP (aLd σ none v5) fun v6 =>
 bindP (semBin .eql v4 v6) fun v7 =>
 guardP v7 true (aFad 1 v1) fun v8 =>
 guardP v7 true (aLd σ (some 3) v8) fun v9 =>
 guardP v7 true (aFad 1 v2) fun v10 =>
 guardP v7 true (aLd σ (some 3) v10) fun v11 =>
 guardP v7 true (aEqs [0, 0, 2] false v9 v11) fun v12 =>
 bindP (aPick v7 v12 (.sc (.bool false))) fun v13 =>
 guardP v13 true (aFad 4 v1) fun v14 =>
 guardP v13 true (aLd σ none v14) fun v15 =>
 guardP v13 true (aFad 4 v2) fun v16 =>
 guardP v13 true (aLd σ none v16) fun v17 =>
 guardP v13 true (semBin .eql v15 v17) fun v18 =>
 bindP (aPick v13 v18 (.sc (.bool false))) fun v19 =>
 guardP v19 true (aFad 5 v1) fun v20 =>
 guardP v19 true (aLd σ none v20) fun v21 =>
 guardP v19 true (aFad 5 v2) fun v22 =>
 guardP v19 true (aLd σ none v22) fun v23 =>
 guardP v19 true (semBin .eql v21 v23) fun v24 =>
 bindP (aPick v19 v24 (.sc (.bool false))) fun v25 =>
 guardP v25 true (aFad 6 v1) fun v26 =>
 guardP v25 true (aLd σ none v26) fun v27 =>
 guardP v25 true (aFad 6 v2) fun v28 =>
 guardP v25 true (aLd σ none v28) fun v29 =>
 guardK v25 true (fun Kg => CALL Tryd.prog (.fn 40 []) [v27, v29, (.fn 41 [])] σ n (kc_syntax_Alike1 Kg R)) σ n fun v30 σ n =>
 bindP (aPick v25 v30 (.sc (.bool false))) fun v33 =>
 R (.ret v33) σ n
theorem se_syntax_Alike (a0 a1 : AV) (σ : Hp) (n : Nat) (R : AEnd → Hp → Nat → Prop) : sh_syntax_Alike a0 a1 σ n R = swp Tryd.prog sc_syntax_Alike (retQ [(.t 4)] R) (entry [a0, a1]) σ n := by kernel_rfl
theorem by_syntax_Alike {a0 a1 : AV} {σ : Hp} {n : Nat} {R : AEnd → Hp → Nat → Prop} (h : sh_syntax_Alike a0 a1 σ n R) : ConH Tryd.prog 41 [a0, a1] σ n R := by
  rw [se_syntax_Alike] at h
  exact conH_of [(.t 4)] (fn := Tryd.f41) rfl [0, 1, 2, 3, 4] (by kernel_rfl) (by kernel_rfl) (by kernel_rfl) (by kernel_rfl) h
def kc_slices_EqualFunc_lapi_Expr_lapi_Expr_api_Expr_api_Expr1 (R : AEnd → Hp → Nat → Prop) (s5 : List AV) (K5 : List AV → Hp → Nat → Prop) (v6 : AV) (v9 : AV) (v13 : AV) (r : AEnd) (σ : Hp) (n : Nat) : Prop :=
 onEnd r (fun v17 =>
 bindP (aUn .not v17) fun v19 =>
 COND v19 (
 R (.ret (.sc (.bool false))) σ n) (
 bindP (semBin .add (s5.getD 6 .any) (.sc (.int .i64 1))) fun v20 =>
 K5 [v6, v9, (s5.getD 6 .any), v13, v19, (s5.getD 5 .any), v20] σ n)) (fun v18 => R (.pan v18) σ n)
def lb_slices_EqualFunc_lapi_Expr_lapi_Expr_api_Expr_api_Expr2 (v4 : AV) (a0 : AV) (a1 : AV) (a2 : AV) (R : AEnd → Hp → Nat → Prop) (K5 : List AV → Hp → Nat → Prop) (s5 : List AV) (σ : Hp) (n : Nat) : Prop :=
 bindP (semBin .lss (s5.getD 6 .any) v4) fun v6 =>
 COND v6 (
 bindP (aIad 7 a0 (s5.getD 6 .any)) fun v7 =>
 bindP (aLd σ (some 7) v7) fun v8 =>
 bindS (hAlloc n [(.int .i64 0), (.int .i64 0), (.int .i64 0), (.string ⟨#[]⟩), (.string ⟨#[]⟩), (.string ⟨#[]⟩), (.slice none 0 0)]) σ n fun v9 σ n =>
 bindS (hSt σ 7 v9 v8) σ n fun v10 σ n =>
 bindP (aIad 7 a1 (s5.getD 6 .any)) fun v11 =>
 bindP (aLd σ (some 7) v11) fun v12 =>
 bindS (hAlloc n [(.int .i64 0), (.int .i64 0), (.int .i64 0), (.string ⟨#[]⟩), (.string ⟨#[]⟩), (.string ⟨#[]⟩), (.slice none 0 0)]) σ n fun v13 σ n =>
 bindS (hSt σ 7 v13 v12) σ n fun v14 σ n =>
 bindP (aLd σ (some 7) v9) fun v15 =>
 bindP (aLd σ (some 7) v13) fun v16 =>
 CALL Tryd.prog a2 [v15, v16] σ n (kc_slices_EqualFunc_lapi_Expr_lapi_Expr_api_Expr_api_Expr1 R s5 K5 v6 v9 v13)) (
 R (.ret (.sc (.bool true))) σ n)
attribute [go_sem] kc_slices_EqualFunc_lapi_Expr_lapi_Expr_api_Expr_api_Expr1 lb_slices_EqualFunc_lapi_Expr_lapi_Expr_api_Expr_api_Expr2
def sc_slices_EqualFunc_lapi_Expr_lapi_Expr_api_Expr_api_Expr : SCode := (.seq (.reg [ ⟨some 6,none,.mv (.c (.sc (.bool false)))⟩]) (.seq (.seq (.reg [ ⟨some 10,none,.mv (.t 0)⟩,⟨some 11,none,.len false (.t 10)⟩,⟨some 12,none,.mv (.t 1)⟩,⟨some 13,none,.len false (.t 12)⟩,⟨some 14,none,.bin .neq (.t 11) (.t 13)⟩]) (.cond (.t 14) (.seq (.reg [ ⟨some 6,none,.mv (.c (.sc (.bool false)))⟩]) .ret) .skip)) (.seq (.seq (.reg [ ⟨some 15,none,.mv (.t 0)⟩,⟨some 16,none,.len false (.t 15)⟩,⟨some 17,none,.mv (.c (.sc (.int .i64 0)))⟩]) (.block 0 (.loop [18,8,7,9,30,6,17] [18,19,20,21,8,7,22,23,24,25,9,26,27,28,29,30,6,31,17] (.seq (.reg [ ⟨some 18,none,.bin .lss (.t 17) (.t 16)⟩]) (.seq (.cond (.t 18) .skip (.exit 0)) (.seq (.block 1 (.seq (.reg [ ⟨some 19,none,.mv (.t 17)⟩,⟨some 20,none,.iad 7 (.t 15) (.t 17)⟩,⟨some 21,none,.ld (some 7) (.t 20)⟩,⟨some 8,none,.alloc [(.int .i64 0),(.int .i64 0),(.int .i64 0),(.string ⟨#[]⟩),(.string ⟨#[]⟩),(.string ⟨#[]⟩),(.slice none 0 0)]⟩,⟨some 7,none,.mv (.t 19)⟩,⟨none,none,(.st 7 (.t 8) (.t 21))⟩]) (.seq (.reg [ ⟨some 22,none,.mv (.t 1)⟩,⟨some 23,none,.mv (.t 7)⟩,⟨some 24,none,.iad 7 (.t 22) (.t 23)⟩,⟨some 25,none,.ld (some 7) (.t 24)⟩,⟨some 9,none,.alloc [(.int .i64 0),(.int .i64 0),(.int .i64 0),(.string ⟨#[]⟩),(.string ⟨#[]⟩),(.string ⟨#[]⟩),(.slice none 0 0)]⟩,⟨none,none,(.st 7 (.t 9) (.t 25))⟩]) (.seq (.reg [ ⟨some 26,none,.mv (.t 2)⟩,⟨some 27,none,.ld (some 7) (.t 8)⟩,⟨some 28,none,.ld (some 7) (.t 9)⟩,⟨some 29,none,.call (.t 26) [(.t 27),(.t 28)]⟩,⟨some 30,none,.un .not (.t 29)⟩]) (.cond (.t 30) (.seq (.reg [ ⟨some 6,none,.mv (.c (.sc (.bool false)))⟩]) .ret) .skip))))) (.reg [ ⟨some 31,none,.bin .add (.t 17) (.c (.sc (.int .i64 1)))⟩,⟨some 17,none,.mv (.t 31)⟩]))))))) (.seq (.reg [ ⟨some 6,none,.mv (.c (.sc (.bool true)))⟩]) .ret))))
def sh_slices_EqualFunc_lapi_Expr_lapi_Expr_api_Expr_api_Expr (a0 a1 a2 : AV) (σ : Hp) (n : Nat) (R : AEnd → Hp → Nat → Prop) : Prop :=
 bindP (aLen false a0) fun v1 => bnd σ a0 →
 bindP (aLen false a1) fun v2 => bnd σ a1 →
 bindP (semBin .neq v1 v2) fun v3 =>
 COND v3 (
 R (.ret (.sc (.bool false))) σ n) (
 bindP (aLen false a0) fun v4 => bnd σ a0 →
 LOOP (lb_slices_EqualFunc_lapi_Expr_lapi_Expr_api_Expr_api_Expr2 v4 a0 a1 a2 R) [(.tp []), (.tp []), (.tp []), (.tp []), (.tp []), (.sc (.bool false)), (.sc (.int .i64 0))] σ n)
theorem se_slices_EqualFunc_lapi_Expr_lapi_Expr_api_Expr_api_Expr (a0 a1 a2 : AV) (σ : Hp) (n : Nat) (R : AEnd → Hp → Nat → Prop) : sh_slices_EqualFunc_lapi_Expr_lapi_Expr_api_Expr_api_Expr a0 a1 a2 σ n R = swp Tryd.prog sc_slices_EqualFunc_lapi_Expr_lapi_Expr_api_Expr_api_Expr (retQ [(.t 6)] R) (entry [a0, a1, a2]) σ n := by kernel_rfl
theorem by_slices_EqualFunc_lapi_Expr_lapi_Expr_api_Expr_api_Expr {a0 a1 a2 : AV} {σ : Hp} {n : Nat} {R : AEnd → Hp → Nat → Prop} (h : sh_slices_EqualFunc_lapi_Expr_lapi_Expr_api_Expr_api_Expr a0 a1 a2 σ n R) : ConH Tryd.prog 40 [a0, a1, a2] σ n R := by
  rw [se_slices_EqualFunc_lapi_Expr_lapi_Expr_api_Expr_api_Expr] at h
  exact conH_of [(.t 6)] (fn := Tryd.f40) rfl [14, 0, 16, 18, 15, 1, 7, 2, 8, 9, 30, 17, 6] (by kernel_rfl) (by kernel_rfl) (by kernel_rfl) (by kernel_rfl) h
def kc_slices_EqualFunc_llapi_Expr_llapi_Expr_lapi_Expr_lapi_Expr1 (R : AEnd → Hp → Nat → Prop) (s5 : List AV) (K5 : List AV → Hp → Nat → Prop) (v6 : AV) (v8 : AV) (v10 : AV) (r : AEnd) (σ : Hp) (n : Nat) : Prop :=
 onEnd r (fun v11 =>
 bindP (aUn .not v11) fun v13 =>
 COND v13 (
 R (.ret (.sc (.bool false))) σ n) (
 bindP (semBin .add (s5.getD 6 .any) (.sc (.int .i64 1))) fun v14 =>
 K5 [v6, (s5.getD 6 .any), v8, v10, v13, (s5.getD 5 .any), v14] σ n)) (fun v12 => R (.pan v12) σ n)
def lb_slices_EqualFunc_llapi_Expr_llapi_Expr_lapi_Expr_lapi_Expr2 (v4 : AV) (a0 : AV) (a1 : AV) (a2 : AV) (R : AEnd → Hp → Nat → Prop) (K5 : List AV → Hp → Nat → Prop) (s5 : List AV) (σ : Hp) (n : Nat) : Prop :=
 bindP (semBin .lss (s5.getD 6 .any) v4) fun v6 =>
 COND v6 (
 bindP (aIad 1 a0 (s5.getD 6 .any)) fun v7 =>
 bindP (aLd σ none v7) fun v8 =>
 bindP (aIad 1 a1 (s5.getD 6 .any)) fun v9 =>
 bindP (aLd σ none v9) fun v10 =>
 CALL Tryd.prog a2 [v8, v10] σ n (kc_slices_EqualFunc_llapi_Expr_llapi_Expr_lapi_Expr_lapi_Expr1 R s5 K5 v6 v8 v10)) (
 R (.ret (.sc (.bool true))) σ n)
attribute [go_sem] kc_slices_EqualFunc_llapi_Expr_llapi_Expr_lapi_Expr_lapi_Expr1 lb_slices_EqualFunc_llapi_Expr_llapi_Expr_lapi_Expr_lapi_Expr2
def sc_slices_EqualFunc_llapi_Expr_llapi_Expr_lapi_Expr_lapi_Expr : SCode := (.seq (.reg [ ⟨some 6,none,.mv (.c (.sc (.bool false)))⟩]) (.seq (.seq (.reg [ ⟨some 10,none,.mv (.t 0)⟩,⟨some 11,none,.len false (.t 10)⟩,⟨some 12,none,.mv (.t 1)⟩,⟨some 13,none,.len false (.t 12)⟩,⟨some 14,none,.bin .neq (.t 11) (.t 13)⟩]) (.cond (.t 14) (.seq (.reg [ ⟨some 6,none,.mv (.c (.sc (.bool false)))⟩]) .ret) .skip)) (.seq (.seq (.reg [ ⟨some 15,none,.mv (.t 0)⟩,⟨some 16,none,.len false (.t 15)⟩,⟨some 17,none,.mv (.c (.sc (.int .i64 0)))⟩]) (.block 0 (.loop [18,7,8,9,30,6,17] [18,19,20,21,7,8,22,23,24,25,9,26,27,28,29,30,6,31,17] (.seq (.reg [ ⟨some 18,none,.bin .lss (.t 17) (.t 16)⟩]) (.seq (.cond (.t 18) .skip (.exit 0)) (.seq (.block 1 (.seq (.reg [ ⟨some 19,none,.mv (.t 17)⟩,⟨some 20,none,.iad 1 (.t 15) (.t 17)⟩,⟨some 21,none,.ld none (.t 20)⟩,⟨some 7,none,.mv (.t 19)⟩,⟨some 8,none,.mv (.t 21)⟩]) (.seq (.reg [ ⟨some 22,none,.mv (.t 1)⟩,⟨some 23,none,.mv (.t 7)⟩,⟨some 24,none,.iad 1 (.t 22) (.t 23)⟩,⟨some 25,none,.ld none (.t 24)⟩,⟨some 9,none,.mv (.t 25)⟩]) (.seq (.reg [ ⟨some 26,none,.mv (.t 2)⟩,⟨some 27,none,.mv (.t 8)⟩,⟨some 28,none,.mv (.t 9)⟩,⟨some 29,none,.call (.t 26) [(.t 27),(.t 28)]⟩,⟨some 30,none,.un .not (.t 29)⟩]) (.cond (.t 30) (.seq (.reg [ ⟨some 6,none,.mv (.c (.sc (.bool false)))⟩]) .ret) .skip))))) (.reg [ ⟨some 31,none,.bin .add (.t 17) (.c (.sc (.int .i64 1)))⟩,⟨some 17,none,.mv (.t 31)⟩]))))))) (.seq (.reg [ ⟨some 6,none,.mv (.c (.sc (.bool true)))⟩]) .ret))))
def sh_slices_EqualFunc_llapi_Expr_llapi_Expr_lapi_Expr_lapi_Expr (a0 a1 a2 : AV) (σ : Hp) (n : Nat) (R : AEnd → Hp → Nat → Prop) : Prop :=
 bindP (aLen false a0) fun v1 => bnd σ a0 →
 bindP (aLen false a1) fun v2 => bnd σ a1 →
 bindP (semBin .neq v1 v2) fun v3 =>
 COND v3 (
 R (.ret (.sc (.bool false))) σ n) (
 bindP (aLen false a0) fun v4 => bnd σ a0 →
 LOOP (lb_slices_EqualFunc_llapi_Expr_llapi_Expr_lapi_Expr_lapi_Expr2 v4 a0 a1 a2 R) [(.tp []), (.tp []), (.tp []), (.tp []), (.tp []), (.sc (.bool false)), (.sc (.int .i64 0))] σ n)
theorem se_slices_EqualFunc_llapi_Expr_llapi_Expr_lapi_Expr_lapi_Expr (a0 a1 a2 : AV) (σ : Hp) (n : Nat) (R : AEnd → Hp → Nat → Prop) : sh_slices_EqualFunc_llapi_Expr_llapi_Expr_lapi_Expr_lapi_Expr a0 a1 a2 σ n R = swp Tryd.prog sc_slices_EqualFunc_llapi_Expr_llapi_Expr_lapi_Expr_lapi_Expr (retQ [(.t 6)] R) (entry [a0, a1, a2]) σ n := by kernel_rfl
theorem by_slices_EqualFunc_llapi_Expr_llapi_Expr_lapi_Expr_lapi_Expr {a0 a1 a2 : AV} {σ : Hp} {n : Nat} {R : AEnd → Hp → Nat → Prop} (h : sh_slices_EqualFunc_llapi_Expr_llapi_Expr_lapi_Expr_lapi_Expr a0 a1 a2 σ n R) : ConH Tryd.prog 44 [a0, a1, a2] σ n R := by
  rw [se_slices_EqualFunc_llapi_Expr_llapi_Expr_lapi_Expr_lapi_Expr] at h
  exact conH_of [(.t 6)] (fn := Tryd.f44) rfl [14, 0, 16, 18, 15, 1, 7, 2, 8, 9, 30, 17, 6] (by kernel_rfl) (by kernel_rfl) (by kernel_rfl) (by kernel_rfl) h
def kc_slices_EqualFunc_lapi_Set_lapi_Set_api_Set_api_Set1 (R : AEnd → Hp → Nat → Prop) (s5 : List AV) (K5 : List AV → Hp → Nat → Prop) (v6 : AV) (v9 : AV) (v13 : AV) (r : AEnd) (σ : Hp) (n : Nat) : Prop :=
 onEnd r (fun v17 =>
 bindP (aUn .not v17) fun v19 =>
 COND v19 (
 R (.ret (.sc (.bool false))) σ n) (
 bindP (semBin .add (s5.getD 6 .any) (.sc (.int .i64 1))) fun v20 =>
 K5 [v6, v9, (s5.getD 6 .any), v13, v19, (s5.getD 5 .any), v20] σ n)) (fun v18 => R (.pan v18) σ n)
def lb_slices_EqualFunc_lapi_Set_lapi_Set_api_Set_api_Set2 (v4 : AV) (a0 : AV) (a1 : AV) (a2 : AV) (R : AEnd → Hp → Nat → Prop) (K5 : List AV → Hp → Nat → Prop) (s5 : List AV) (σ : Hp) (n : Nat) : Prop :=
 bindP (semBin .lss (s5.getD 6 .any) v4) fun v6 =>
 COND v6 (
 bindP (aIad 8 a0 (s5.getD 6 .any)) fun v7 =>
 bindP (aLd σ (some 8) v7) fun v8 =>
 bindS (hAlloc n [(.string ⟨#[]⟩), (.int .i64 0), (.int .i64 0), (.int .i64 0), (.string ⟨#[]⟩), (.string ⟨#[]⟩), (.string ⟨#[]⟩), (.slice none 0 0)]) σ n fun v9 σ n =>
 bindS (hSt σ 8 v9 v8) σ n fun v10 σ n =>
 bindP (aIad 8 a1 (s5.getD 6 .any)) fun v11 =>
 bindP (aLd σ (some 8) v11) fun v12 =>
 bindS (hAlloc n [(.string ⟨#[]⟩), (.int .i64 0), (.int .i64 0), (.int .i64 0), (.string ⟨#[]⟩), (.string ⟨#[]⟩), (.string ⟨#[]⟩), (.slice none 0 0)]) σ n fun v13 σ n =>
 bindS (hSt σ 8 v13 v12) σ n fun v14 σ n =>
 bindP (aLd σ (some 8) v9) fun v15 =>
 bindP (aLd σ (some 8) v13) fun v16 =>
 CALL Tryd.prog a2 [v15, v16] σ n (kc_slices_EqualFunc_lapi_Set_lapi_Set_api_Set_api_Set1 R s5 K5 v6 v9 v13)) (
 R (.ret (.sc (.bool true))) σ n)
attribute [go_sem] kc_slices_EqualFunc_lapi_Set_lapi_Set_api_Set_api_Set1 lb_slices_EqualFunc_lapi_Set_lapi_Set_api_Set_api_Set2
def sc_slices_EqualFunc_lapi_Set_lapi_Set_api_Set_api_Set : SCode := (.seq (.reg [ ⟨some 6,none,.mv (.c (.sc (.bool false)))⟩]) (.seq (.seq (.reg [ ⟨some 10,none,.mv (.t 0)⟩,⟨some 11,none,.len false (.t 10)⟩,⟨some 12,none,.mv (.t 1)⟩,⟨some 13,none,.len false (.t 12)⟩,⟨some 14,none,.bin .neq (.t 11) (.t 13)⟩]) (.cond (.t 14) (.seq (.reg [ ⟨some 6,none,.mv (.c (.sc (.bool false)))⟩]) .ret) .skip)) (.seq (.seq (.reg [ ⟨some 15,none,.mv (.t 0)⟩,⟨some 16,none,.len false (.t 15)⟩,⟨some 17,none,.mv (.c (.sc (.int .i64 0)))⟩]) (.block 0 (.loop [18,8,7,9,30,6,17] [18,19,20,21,8,7,22,23,24,25,9,26,27,28,29,30,6,31,17] (.seq (.reg [ ⟨some 18,none,.bin .lss (.t 17) (.t 16)⟩]) (.seq (.cond (.t 18) .skip (.exit 0)) (.seq (.block 1 (.seq (.reg [ ⟨some 19,none,.mv (.t 17)⟩,⟨some 20,none,.iad 8 (.t 15) (.t 17)⟩,⟨some 21,none,.ld (some 8) (.t 20)⟩,⟨some 8,none,.alloc [(.string ⟨#[]⟩),(.int .i64 0),(.int .i64 0),(.int .i64 0),(.string ⟨#[]⟩),(.string ⟨#[]⟩),(.string ⟨#[]⟩),(.slice none 0 0)]⟩,⟨some 7,none,.mv (.t 19)⟩,⟨none,none,(.st 8 (.t 8) (.t 21))⟩]) (.seq (.reg [ ⟨some 22,none,.mv (.t 1)⟩,⟨some 23,none,.mv (.t 7)⟩,⟨some 24,none,.iad 8 (.t 22) (.t 23)⟩,⟨some 25,none,.ld (some 8) (.t 24)⟩,⟨some 9,none,.alloc [(.string ⟨#[]⟩),(.int .i64 0),(.int .i64 0),(.int .i64 0),(.string ⟨#[]⟩),(.string ⟨#[]⟩),(.string ⟨#[]⟩),(.slice none 0 0)]⟩,⟨none,none,(.st 8 (.t 9) (.t 25))⟩]) (.seq (.reg [ ⟨some 26,none,.mv (.t 2)⟩,⟨some 27,none,.ld (some 8) (.t 8)⟩,⟨some 28,none,.ld (some 8) (.t 9)⟩,⟨some 29,none,.call (.t 26) [(.t 27),(.t 28)]⟩,⟨some 30,none,.un .not (.t 29)⟩]) (.cond (.t 30) (.seq (.reg [ ⟨some 6,none,.mv (.c (.sc (.bool false)))⟩]) .ret) .skip))))) (.reg [ ⟨some 31,none,.bin .add (.t 17) (.c (.sc (.int .i64 1)))⟩,⟨some 17,none,.mv (.t 31)⟩]))))))) (.seq (.reg [ ⟨some 6,none,.mv (.c (.sc (.bool true)))⟩]) .ret))))
def sh_slices_EqualFunc_lapi_Set_lapi_Set_api_Set_api_Set (a0 a1 a2 : AV) (σ : Hp) (n : Nat) (R : AEnd → Hp → Nat → Prop) : Prop :=
 bindP (aLen false a0) fun v1 => bnd σ a0 →
 bindP (aLen false a1) fun v2 => bnd σ a1 →
 bindP (semBin .neq v1 v2) fun v3 =>
 COND v3 (
 R (.ret (.sc (.bool false))) σ n) (
 bindP (aLen false a0) fun v4 => bnd σ a0 →
 LOOP (lb_slices_EqualFunc_lapi_Set_lapi_Set_api_Set_api_Set2 v4 a0 a1 a2 R) [(.tp []), (.tp []), (.tp []), (.tp []), (.tp []), (.sc (.bool false)), (.sc (.int .i64 0))] σ n)
theorem se_slices_EqualFunc_lapi_Set_lapi_Set_api_Set_api_Set (a0 a1 a2 : AV) (σ : Hp) (n : Nat) (R : AEnd → Hp → Nat → Prop) : sh_slices_EqualFunc_lapi_Set_lapi_Set_api_Set_api_Set a0 a1 a2 σ n R = swp Tryd.prog sc_slices_EqualFunc_lapi_Set_lapi_Set_api_Set_api_Set (retQ [(.t 6)] R) (entry [a0, a1, a2]) σ n := by kernel_rfl
theorem by_slices_EqualFunc_lapi_Set_lapi_Set_api_Set_api_Set {a0 a1 a2 : AV} {σ : Hp} {n : Nat} {R : AEnd → Hp → Nat → Prop} (h : sh_slices_EqualFunc_lapi_Set_lapi_Set_api_Set_api_Set a0 a1 a2 σ n R) : ConH Tryd.prog 45 [a0, a1, a2] σ n R := by
  rw [se_slices_EqualFunc_lapi_Set_lapi_Set_api_Set_api_Set] at h
  exact conH_of [(.t 6)] (fn := Tryd.f45) rfl [14, 0, 16, 18, 15, 1, 7, 2, 8, 9, 30, 17, 6] (by kernel_rfl) (by kernel_rfl) (by kernel_rfl) (by kernel_rfl) h
def lb_slices_Equal_lapi_Column_api_Column1 (v4 : AV) (a0 : AV) (a1 : AV) (R : AEnd → Hp → Nat → Prop) (K5 : List AV → Hp → Nat → Prop) (s5 : List AV) (σ : Hp) (n : Nat) : Prop :=
 bindP (semBin .lss (s5.getD 4 .any) v4) fun v6 =>
 COND v6 (
 bindP (aIad 3 a0 (s5.getD 4 .any)) fun v9 =>
 bindP (aLd σ (some 3) v9) fun v10 =>
 bindP (aIad 3 a1 (s5.getD 4 .any)) fun v13 =>
 bindP (aLd σ (some 3) v13) fun v14 =>
 bindP (aEqs [2, 0, 1] true v10 v14) fun v15 =>
 Apt (names []) (rdA v9) (names []) (rdA v13) ∧
 ∀ n_, n + 16 * 9 ≤ n_ → (fun n => COND v15 (
 R (.ret (.sc (.bool false))) σ n) (
 bindP (semBin .add (s5.getD 4 .any) (.sc (.int .i64 1))) fun v16 =>
 K5 [v6, (s5.getD 4 .any), v15, (s5.getD 3 .any), v16] σ n)) n_) (
 R (.ret (.sc (.bool true))) σ n)
attribute [go_sem] lb_slices_Equal_lapi_Column_api_Column1
def sc_slices_Equal_lapi_Column_api_Column : SCode := (.seq (.reg [ ⟨some 4,none,.mv (.c (.sc (.bool false)))⟩]) (.seq (.seq (.reg [ ⟨some 6,none,.mv (.t 0)⟩,⟨some 7,none,.len false (.t 6)⟩,⟨some 8,none,.mv (.t 1)⟩,⟨some 9,none,.len false (.t 8)⟩,⟨some 10,none,.bin .neq (.t 7) (.t 9)⟩]) (.cond (.t 10) (.seq (.reg [ ⟨some 4,none,.mv (.c (.sc (.bool false)))⟩]) .ret) .skip)) (.seq (.seq (.reg [ ⟨some 11,none,.mv (.t 0)⟩,⟨some 12,none,.len false (.t 11)⟩,⟨some 13,none,.mv (.c (.sc (.int .i64 0)))⟩]) (.block 0 (.loop [14,5,24,4,13] [14,15,5,16,17,18,19,20,21,22,23,24,4,25,13] (.seq (.reg [ ⟨some 14,none,.bin .lss (.t 13) (.t 12)⟩]) (.seq (.cond (.t 14) .skip (.exit 0)) (.seq (.block 1 (.seq (.reg [ ⟨some 15,none,.mv (.t 13)⟩,⟨some 5,none,.mv (.t 15)⟩]) (.seq (.regD [(⟨some 16,none,.mv (.t 0)⟩,[]),(⟨some 17,none,.mv (.t 5)⟩,[]),(⟨some 18,none,.iad 3 (.t 16) (.t 17)⟩,[0,1]),(⟨some 19,none,.ld (some 3) (.t 18)⟩,[2,0,1]),(⟨some 20,none,.mv (.t 1)⟩,[]),(⟨some 21,none,.mv (.t 5)⟩,[]),(⟨some 22,none,.iad 3 (.t 20) (.t 21)⟩,[4,5]),(⟨some 23,none,.ld (some 3) (.t 22)⟩,[6,4,5]),(⟨some 24,none,.eqs [2,0,1] true (.t 19) (.t 23)⟩,[3,2,0,1,7,6,4,5])]) (.cond (.t 24) (.seq (.reg [ ⟨some 4,none,.mv (.c (.sc (.bool false)))⟩]) .ret) .skip)))) (.reg [ ⟨some 25,none,.bin .add (.t 13) (.c (.sc (.int .i64 1)))⟩,⟨some 13,none,.mv (.t 25)⟩]))))))) (.seq (.reg [ ⟨some 4,none,.mv (.c (.sc (.bool true)))⟩]) .ret))))
def sh_slices_Equal_lapi_Column_api_Column (a0 a1 : AV) (σ : Hp) (n : Nat) (R : AEnd → Hp → Nat → Prop) : Prop :=
 bindP (aLen false a0) fun v1 => bnd σ a0 →
 bindP (aLen false a1) fun v2 => bnd σ a1 →
 bindP (semBin .neq v1 v2) fun v3 =>
 COND v3 (
 R (.ret (.sc (.bool false))) σ n) (
 bindP (aLen false a0) fun v4 => bnd σ a0 →
 LOOP (lb_slices_Equal_lapi_Column_api_Column1 v4 a0 a1 R) [(.tp []), (.tp []), (.tp []), (.sc (.bool false)), (.sc (.int .i64 0))] σ n)
theorem se_slices_Equal_lapi_Column_api_Column (a0 a1 : AV) (σ : Hp) (n : Nat) (R : AEnd → Hp → Nat → Prop) : sh_slices_Equal_lapi_Column_api_Column a0 a1 σ n R = swp Tryd.prog sc_slices_Equal_lapi_Column_api_Column (retQ [(.t 4)] R) (entry [a0, a1]) σ n := by kernel_rfl
theorem by_slices_Equal_lapi_Column_api_Column {a0 a1 : AV} {σ : Hp} {n : Nat} {R : AEnd → Hp → Nat → Prop} (h : sh_slices_Equal_lapi_Column_api_Column a0 a1 σ n R) : ConH Tryd.prog 42 [a0, a1] σ n R := by
  rw [se_slices_Equal_lapi_Column_api_Column] at h
  exact conH_of [(.t 4)] (fn := Tryd.f42) rfl [10, 12, 14, 0, 1, 5, 24, 13, 4] (by kernel_rfl) (by kernel_rfl) (by kernel_rfl) (by kernel_rfl) h
def lb_slices_Equal_lapi_Order_api_Order1 (v4 : AV) (a0 : AV) (a1 : AV) (R : AEnd → Hp → Nat → Prop) (K5 : List AV → Hp → Nat → Prop) (s5 : List AV) (σ : Hp) (n : Nat) : Prop :=
 bindP (semBin .lss (s5.getD 4 .any) v4) fun v6 =>
 COND v6 (
 bindP (aIad 2 a0 (s5.getD 4 .any)) fun v9 =>
 bindP (aLd σ (some 2) v9) fun v10 =>
 bindP (aIad 2 a1 (s5.getD 4 .any)) fun v13 =>
 bindP (aLd σ (some 2) v13) fun v14 =>
 bindP (aEqs [0, 1] true v10 v14) fun v15 =>
 Apt (names []) (rdA v9) (names []) (rdA v13) ∧
 ∀ n_, n + 16 * 9 ≤ n_ → (fun n => COND v15 (
 R (.ret (.sc (.bool false))) σ n) (
 bindP (semBin .add (s5.getD 4 .any) (.sc (.int .i64 1))) fun v16 =>
 K5 [v6, (s5.getD 4 .any), v15, (s5.getD 3 .any), v16] σ n)) n_) (
 R (.ret (.sc (.bool true))) σ n)
attribute [go_sem] lb_slices_Equal_lapi_Order_api_Order1
def sc_slices_Equal_lapi_Order_api_Order : SCode := (.seq (.reg [ ⟨some 4,none,.mv (.c (.sc (.bool false)))⟩]) (.seq (.seq (.reg [ ⟨some 6,none,.mv (.t 0)⟩,⟨some 7,none,.len false (.t 6)⟩,⟨some 8,none,.mv (.t 1)⟩,⟨some 9,none,.len false (.t 8)⟩,⟨some 10,none,.bin .neq (.t 7) (.t 9)⟩]) (.cond (.t 10) (.seq (.reg [ ⟨some 4,none,.mv (.c (.sc (.bool false)))⟩]) .ret) .skip)) (.seq (.seq (.reg [ ⟨some 11,none,.mv (.t 0)⟩,⟨some 12,none,.len false (.t 11)⟩,⟨some 13,none,.mv (.c (.sc (.int .i64 0)))⟩]) (.block 0 (.loop [14,5,24,4,13] [14,15,5,16,17,18,19,20,21,22,23,24,4,25,13] (.seq (.reg [ ⟨some 14,none,.bin .lss (.t 13) (.t 12)⟩]) (.seq (.cond (.t 14) .skip (.exit 0)) (.seq (.block 1 (.seq (.reg [ ⟨some 15,none,.mv (.t 13)⟩,⟨some 5,none,.mv (.t 15)⟩]) (.seq (.regD [(⟨some 16,none,.mv (.t 0)⟩,[]),(⟨some 17,none,.mv (.t 5)⟩,[]),(⟨some 18,none,.iad 2 (.t 16) (.t 17)⟩,[0,1]),(⟨some 19,none,.ld (some 2) (.t 18)⟩,[2,0,1]),(⟨some 20,none,.mv (.t 1)⟩,[]),(⟨some 21,none,.mv (.t 5)⟩,[]),(⟨some 22,none,.iad 2 (.t 20) (.t 21)⟩,[4,5]),(⟨some 23,none,.ld (some 2) (.t 22)⟩,[6,4,5]),(⟨some 24,none,.eqs [0,1] true (.t 19) (.t 23)⟩,[3,2,0,1,7,6,4,5])]) (.cond (.t 24) (.seq (.reg [ ⟨some 4,none,.mv (.c (.sc (.bool false)))⟩]) .ret) .skip)))) (.reg [ ⟨some 25,none,.bin .add (.t 13) (.c (.sc (.int .i64 1)))⟩,⟨some 13,none,.mv (.t 25)⟩]))))))) (.seq (.reg [ ⟨some 4,none,.mv (.c (.sc (.bool true)))⟩]) .ret))))
def sh_slices_Equal_lapi_Order_api_Order (a0 a1 : AV) (σ : Hp) (n : Nat) (R : AEnd → Hp → Nat → Prop) : Prop :=
 bindP (aLen false a0) fun v1 => bnd σ a0 →
 bindP (aLen false a1) fun v2 => bnd σ a1 →
 bindP (semBin .neq v1 v2) fun v3 =>
 COND v3 (
 R (.ret (.sc (.bool false))) σ n) (
 bindP (aLen false a0) fun v4 => bnd σ a0 →
 LOOP (lb_slices_Equal_lapi_Order_api_Order1 v4 a0 a1 R) [(.tp []), (.tp []), (.tp []), (.sc (.bool false)), (.sc (.int .i64 0))] σ n)
theorem se_slices_Equal_lapi_Order_api_Order (a0 a1 : AV) (σ : Hp) (n : Nat) (R : AEnd → Hp → Nat → Prop) : sh_slices_Equal_lapi_Order_api_Order a0 a1 σ n R = swp Tryd.prog sc_slices_Equal_lapi_Order_api_Order (retQ [(.t 4)] R) (entry [a0, a1]) σ n := by kernel_rfl
theorem by_slices_Equal_lapi_Order_api_Order {a0 a1 : AV} {σ : Hp} {n : Nat} {R : AEnd → Hp → Nat → Prop} (h : sh_slices_Equal_lapi_Order_api_Order a0 a1 σ n R) : ConH Tryd.prog 43 [a0, a1] σ n R := by
  rw [se_slices_Equal_lapi_Order_api_Order] at h
  exact conH_of [(.t 4)] (fn := Tryd.f43) rfl [10, 12, 14, 0, 1, 5, 24, 13, 4] (by kernel_rfl) (by kernel_rfl) (by kernel_rfl) (by kernel_rfl) h
end Go.Proofs.YtodoejfkjimeaaaDoor
