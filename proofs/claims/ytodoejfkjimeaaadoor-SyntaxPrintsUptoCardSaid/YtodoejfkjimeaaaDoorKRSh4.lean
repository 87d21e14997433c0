/- Packed by a program of this repo: Sh4. -/
import Derived.Test.YtodoejfkjimeaaaDoorKRMs
import Derived.Test.YtodoejfkjimeaaaDoorProg
set_option linter.unusedVariables false
set_option maxRecDepth 8000
namespace Go.Proofs.YtodoejfkjimeaaaDoor
open Go Am
def kc_law04_alive1 (Kg : AV → Hp → Nat → Prop) (R : AEnd → Hp → Nat → Prop) (r : AEnd) (σ : Hp) (n : Nat) : Prop :=
 onEnd r (fun v18 =>
 Kg v18 σ n) (fun v19 => R (.pan v19) σ n)
def kc_law04_alive2 (v8 : AV) (R : AEnd → Hp → Nat → Prop) (r : AEnd) (σ : Hp) (n : Nat) : Prop :=
 onEnd r (fun v10 =>
 bindP (semBin .eql v10 (.sc (.int .i64 0))) fun v12 =>
 guardP v12 true (some v8) fun v13 =>
 guardP v12 true (semBin .eql v13 (.s [40, 97, 32, 43, 32, 49, 41])) fun v14 =>
 bindP (aPick v12 v14 (.sc (.bool false))) fun v15 =>
 guardP v15 true (aBuild [(.int .i64 0), (.string ⟨#[]⟩), (.slice none 0 0), (.string ⟨#[]⟩), (.string ⟨#[]⟩), (.slice none 0 0), (.slice none 0 0), (.slice none 0 0), (.string ⟨#[]⟩), (.slice none 0 0), (.slice none 0 0), (.slice none 0 0), (.slice none 0 0), (.int .i64 0)] [(0, 1, (.sc (.int .i64 8)))]) fun v16 =>
 guardK v15 true (fun Kg => CALL Tryd.prog (.fn 26 []) [v16] σ n (kc_law04_alive1 Kg R)) σ n fun v17 σ n =>
 guardP v15 true (semBin .eql v17 (.sc (.int .i64 0))) fun v20 =>
 bindP (aPick v15 v20 (.sc (.bool false))) fun v21 =>
 R (.ret v21) σ n) (fun v11 => R (.pan v11) σ n)
def kc_law04_alive3 (R : AEnd → Hp → Nat → Prop) (r : AEnd) (σ : Hp) (n : Nat) : Prop :=
 onEnd r (fun v6 =>
 bindP (aExt v6 0) fun v8 =>
 bindP (aExt v6 1) fun v9 =>
 CALL Tryd.prog (.fn 11 []) [v9] σ n (kc_law04_alive2 v8 R)) (fun v7 => R (.pan v7) σ n)
attribute [go_sem] kc_law04_alive1 kc_law04_alive2 kc_law04_alive3
def sc_law04_alive : SCode := (.seq (.reg [ ⟨some 0,none,.mv (.c (.sc (.bool false)))⟩]) (.seq (.reg [ ⟨(some 4),none,(.build [(.int .i64 0),(.int .i64 0),(.int .i64 0),(.string ⟨#[]⟩),(.string ⟨#[]⟩),(.string ⟨#[]⟩),(.slice none 0 0)] [(0,(1,(.c (.sc (.int .i64 1))))),(5,(1,(.c (.s [97]))))])⟩,⟨(some 5),none,(.build [(.int .i64 0),(.int .i64 0),(.string ⟨#[]⟩)] [(0,(1,(.c (.sc (.int .i64 1))))),(1,(1,(.c (.sc (.int .i64 1)))))])⟩,⟨some 6,none,.build [(.int .i64 0),(.int .i64 0),(.int .i64 0),(.string ⟨#[]⟩),(.string ⟨#[]⟩),(.string ⟨#[]⟩),(.slice none 0 0)] [(1,(3,(.t 5)))]⟩,⟨some 7,none,.bsl 7 [(.int .i64 0),(.int .i64 0),(.int .i64 0),(.string ⟨#[]⟩),(.string ⟨#[]⟩),(.string ⟨#[]⟩),(.slice none 0 0)] 2 [(0,(.t 4)),(1,(.t 6))]⟩,⟨(some 8),none,(.build [(.int .i64 0),(.int .i64 0),(.int .i64 0),(.string ⟨#[]⟩),(.string ⟨#[]⟩),(.string ⟨#[]⟩),(.slice none 0 0)] [(0,(1,(.c (.sc (.int .i64 4))))),(6,(1,(.t 7)))])⟩,⟨some 9,none,.call (.c (.fn 10 [])) [(.t 8)]⟩,⟨some 3,none,.mv (.t 9)⟩,⟨some 10,none,.ext (.t 3) 0⟩,⟨some 11,none,.ext (.t 3) 1⟩,⟨some 1,none,.mv (.t 10)⟩,⟨some 2,none,.mv (.t 11)⟩]) (.seq (.reg [ ⟨some 12,none,.mv (.t 2)⟩,⟨some 13,none,.call (.c (.fn 11 [])) [(.t 12)]⟩,⟨some 14,none,.bin .eql (.t 13) (.c (.sc (.int .i64 0)))⟩,⟨some 15,none,.mv (.t 14)⟩,⟨(some 16),(some (15,true)),(.mv (.t 1))⟩,⟨(some 17),(some (15,true)),(.bin .eql (.t 16) (.c (.s [40,97,32,43,32,49,41])))⟩,⟨some 18,none,.pick (.t 15) (.t 17) (.c (.sc (.bool false)))⟩,⟨some 19,none,.mv (.t 18)⟩,⟨(some 20),(some (19,true)),(.build [(.int .i64 0),(.string ⟨#[]⟩),(.slice none 0 0),(.string ⟨#[]⟩),(.string ⟨#[]⟩),(.slice none 0 0),(.slice none 0 0),(.slice none 0 0),(.string ⟨#[]⟩),(.slice none 0 0),(.slice none 0 0),(.slice none 0 0),(.slice none 0 0),(.int .i64 0)] [(0,(1,(.c (.sc (.int .i64 8)))))])⟩,⟨(some 21),(some (19,true)),(.call (.c (.fn 26 [])) [(.t 20)])⟩,⟨(some 22),(some (19,true)),(.bin .eql (.t 21) (.c (.sc (.int .i64 0))))⟩,⟨some 23,none,.pick (.t 19) (.t 22) (.c (.sc (.bool false)))⟩,⟨some 0,none,.mv (.t 23)⟩]) .ret)))
def sh_law04_alive (σ : Hp) (n : Nat) (R : AEnd → Hp → Nat → Prop) : Prop :=
 bindP (aBuild [(.int .i64 0), (.int .i64 0), (.int .i64 0), (.string ⟨#[]⟩), (.string ⟨#[]⟩), (.string ⟨#[]⟩), (.slice none 0 0)] [(0, 1, (.sc (.int .i64 1))), (5, 1, (.s [97]))]) fun v1 =>
 bindP (aBuild [(.int .i64 0), (.int .i64 0), (.string ⟨#[]⟩)] [(0, 1, (.sc (.int .i64 1))), (1, 1, (.sc (.int .i64 1)))]) fun v2 =>
 bindP (aBuild [(.int .i64 0), (.int .i64 0), (.int .i64 0), (.string ⟨#[]⟩), (.string ⟨#[]⟩), (.string ⟨#[]⟩), (.slice none 0 0)] [(1, 3, v2)]) fun v3 =>
 bindS (hBsl σ n 7 [(.int .i64 0), (.int .i64 0), (.int .i64 0), (.string ⟨#[]⟩), (.string ⟨#[]⟩), (.string ⟨#[]⟩), (.slice none 0 0)] 2 [(0, v1), (1, v3)]) σ n fun v4 σ n =>
 bindP (aBuild [(.int .i64 0), (.int .i64 0), (.int .i64 0), (.string ⟨#[]⟩), (.string ⟨#[]⟩), (.string ⟨#[]⟩), (.slice none 0 0)] [(0, 1, (.sc (.int .i64 4))), (6, 1, v4)]) fun v5 =>
 CALL Tryd.prog (.fn 10 []) [v5] σ n (kc_law04_alive3 R)
theorem se_law04_alive (σ : Hp) (n : Nat) (R : AEnd → Hp → Nat → Prop) : sh_law04_alive σ n R = swp Tryd.prog sc_law04_alive (retQ [(.t 0)] R) (entry []) σ n := by kernel_rfl
theorem by_law04_alive {σ : Hp} {n : Nat} {R : AEnd → Hp → Nat → Prop} (h : sh_law04_alive σ n R) : ConH Tryd.prog 9 [] σ n R := by
  rw [se_law04_alive] at h
  exact conH_of [(.t 0)] (fn := Tryd.f9) rfl [2, 1, 0] (by kernel_rfl) (by kernel_rfl) (by kernel_rfl) (by kernel_rfl) h
def sc_law04_num : SCode := (.seq (.reg [ ⟨some 2,none,.mv (.c (.sc (.int .i64 0)))⟩]) (.seq (.reg [ ⟨some 3,none,.mv (.t 0)⟩,⟨some 2,none,.mv (.t 3)⟩]) .ret))
def sh_law04_num (a0 : AV) (σ : Hp) (n : Nat) (R : AEnd → Hp → Nat → Prop) : Prop :=
 R (.ret a0) σ n
theorem se_law04_num (a0 : AV) (σ : Hp) (n : Nat) (R : AEnd → Hp → Nat → Prop) : sh_law04_num a0 σ n R = swp Tryd.prog sc_law04_num (retQ [(.t 2)] R) (entry [a0]) σ n := by kernel_rfl
theorem by_law04_num {a0 : AV} {σ : Hp} {n : Nat} {R : AEnd → Hp → Nat → Prop} (h : sh_law04_num a0 σ n R) : ConH Tryd.prog 11 [a0] σ n R := by
  rw [se_law04_num] at h
  exact conH_of [(.t 2)] (fn := Tryd.f11) rfl [0, 2] (by kernel_rfl) (by kernel_rfl) (by kernel_rfl) (by kernel_rfl) h
def kc_syntax_PrintExpr1 (R : AEnd → Hp → Nat → Prop) (r : AEnd) (σ : Hp) (n : Nat) : Prop :=
 onEnd r (fun v7 =>
 R (.ret (.tp [v7, (.sc (.int .i64 0))])) σ n) (fun v8 => R (.pan v8) σ n)
def kc_syntax_PrintExpr2 (R : AEnd → Hp → Nat → Prop) (v1 : AV) (r : AEnd) (σ : Hp) (n : Nat) : Prop :=
 onEnd r (fun v3 =>
 bindP (semBin .neq v3 (.sc (.int .i64 0))) fun v5 =>
 COND v5 (
 R (.ret (.tp [(.s []), v3])) σ n) (
 bindP (aLd σ (some 7) v1) fun v6 =>
 CALL Tryd.prog (.fn 27 []) [v6] σ n (kc_syntax_PrintExpr1 R))) (fun v4 => R (.pan v4) σ n)
attribute [go_sem] kc_syntax_PrintExpr1 kc_syntax_PrintExpr2
def sc_syntax_PrintExpr : SCode := (.seq (.reg [ ⟨some 1,none,.box (.t 0)⟩,⟨some 2,none,.mv (.c (.s []))⟩,⟨some 3,none,.mv (.c (.sc (.int .i64 0)))⟩]) (.seq (.seq (.reg [ ⟨some 5,none,.ld (some 7) (.t 1)⟩,⟨some 6,none,.call (.c (.fn 14 [])) [(.t 5)]⟩,⟨some 4,none,.mv (.t 6)⟩]) (.seq (.reg [ ⟨some 7,none,.mv (.t 4)⟩,⟨some 8,none,.bin .neq (.t 7) (.c (.sc (.int .i64 0)))⟩]) (.cond (.t 8) (.seq (.reg [ ⟨some 9,none,.mv (.t 4)⟩,⟨some 2,none,.mv (.c (.s []))⟩,⟨some 3,none,.mv (.t 9)⟩]) .ret) .skip))) (.seq (.reg [ ⟨some 10,none,.ld (some 7) (.t 1)⟩,⟨some 11,none,.call (.c (.fn 27 [])) [(.t 10)]⟩,⟨some 2,none,.mv (.t 11)⟩,⟨some 3,none,.mv (.c (.sc (.int .i64 0)))⟩]) .ret)))
def sh_syntax_PrintExpr (a0 : AV) (σ : Hp) (n : Nat) (R : AEnd → Hp → Nat → Prop) : Prop :=
 bindS (hBox n a0) σ n fun v1 σ n =>
 bindP (aLd σ (some 7) v1) fun v2 =>
 CALL Tryd.prog (.fn 14 []) [v2] σ n (kc_syntax_PrintExpr2 R v1)
theorem se_syntax_PrintExpr (a0 : AV) (σ : Hp) (n : Nat) (R : AEnd → Hp → Nat → Prop) : sh_syntax_PrintExpr a0 σ n R = swp Tryd.prog sc_syntax_PrintExpr (retQ [(.t 2), (.t 3)] R) (entry [a0]) σ n := by kernel_rfl
theorem by_syntax_PrintExpr {a0 : AV} {σ : Hp} {n : Nat} {R : AEnd → Hp → Nat → Prop} (h : sh_syntax_PrintExpr a0 σ n R) : ConH Tryd.prog 10 [a0] σ n R := by
  rw [se_syntax_PrintExpr] at h
  exact conH_of [(.t 2), (.t 3)] (fn := Tryd.f10) rfl [0, 8, 4, 1, 2, 3] (by kernel_rfl) (by kernel_rfl) (by kernel_rfl) (by kernel_rfl) h
def kc_syntax_printed1 (s5 : List AV) (K5 : List AV → Hp → Nat → Prop) (v6 : AV) (v9 : AV) (R : AEnd → Hp → Nat → Prop) (r : AEnd) (σ : Hp) (n : Nat) : Prop :=
 onEnd r (fun v12 =>
 bindS (hBsl σ n 1 [(.string ⟨#[]⟩)] 1 [(0, v12)]) σ n fun v14 σ n =>
 bindS (hApp σ n 1 16 (s5.getD 2 .any) v14) σ n fun v15 σ n =>
 bindP (semBin .add (s5.getD 3 .any) (.sc (.int .i64 1))) fun v16 =>
 K5 [v6, v9, v15, v16] σ n) (fun v13 => R (.pan v13) σ n)
def kc_syntax_printed2 (R : AEnd → Hp → Nat → Prop) (r : AEnd) (σ : Hp) (n : Nat) : Prop :=
 onEnd r (fun v22 =>
 R (.ret v22) σ n) (fun v23 => R (.pan v23) σ n)
def kc_syntax_printed3 (R : AEnd → Hp → Nat → Prop) (r : AEnd) (σ : Hp) (n : Nat) : Prop :=
 onEnd r (fun v31 =>
 R (.ret v31) σ n) (fun v32 => R (.pan v32) σ n)
def jk_syntax_printed4 (v1 : AV) (s5 : List AV) (R : AEnd → Hp → Nat → Prop) (s54 : List AV) (σ : Hp) (n : Nat) : Prop :=
 COND (s54.getD 0 .any) (
 bindP (aBuild [(.string ⟨#[]⟩), (.string ⟨#[]⟩), (.string ⟨#[]⟩), (.string ⟨#[]⟩)] [(0, 1, (.s [67, 79, 85, 78, 84])), (1, 1, (.s [83, 85, 77])), (2, 1, (.s [77, 73, 78])), (3, 1, (.s [77, 65, 88]))]) fun v55 =>
 bindP (aFad 0 v1) fun v56 =>
 bindP (aLd σ none v56) fun v57 =>
 bindP (semBin .sub v57 (.sc (.int .i64 19))) fun v58 =>
 bindP (aIarr none 1 4 v55 v58) fun v59 =>
 bindP (semBin .add v59 (.s [40])) fun v60 =>
 bindP (aIad 1 (s5.getD 2 .any) (.sc (.int .i64 0))) fun v62 =>
 bindP (aLd σ none v62) fun v63 =>
 bindP (semBin .add v60 v63) fun v64 =>
 bindP (semBin .add v64 (.s [41])) fun v65 =>
 Apt (names []) (rdA v56) (names []) (rdA v62) ∧
 ∀ n_, n + 16 * 12 ≤ n_ → (fun n => R (.ret v65) σ n) n_) (
 bindP (aBuild [(.string ⟨#[]⟩), (.string ⟨#[]⟩), (.string ⟨#[]⟩), (.string ⟨#[]⟩), (.string ⟨#[]⟩), (.string ⟨#[]⟩), (.string ⟨#[]⟩), (.string ⟨#[]⟩), (.string ⟨#[]⟩), (.string ⟨#[]⟩), (.string ⟨#[]⟩), (.string ⟨#[]⟩)] [(0, 1, (.s [43])), (1, 1, (.s [45])), (2, 1, (.s [42])), (3, 1, (.s [47])), (4, 1, (.s [61])), (5, 1, (.s [60, 62])), (6, 1, (.s [60])), (7, 1, (.s [60, 61])), (8, 1, (.s [62])), (9, 1, (.s [62, 61])), (10, 1, (.s [65, 78, 68])), (11, 1, (.s [79, 82]))]) fun v67 =>
 bindS (hAlloc n [(.string ⟨#[]⟩), (.string ⟨#[]⟩), (.string ⟨#[]⟩), (.string ⟨#[]⟩), (.string ⟨#[]⟩), (.string ⟨#[]⟩), (.string ⟨#[]⟩), (.string ⟨#[]⟩), (.string ⟨#[]⟩), (.string ⟨#[]⟩), (.string ⟨#[]⟩), (.string ⟨#[]⟩)]) σ n fun v68 σ n =>
 bindS (hSt σ 12 v68 v67) σ n fun v69 σ n =>
 bindP (aIad 1 (s5.getD 2 .any) (.sc (.int .i64 0))) fun v71 =>
 bindP (aLd σ none v71) fun v72 =>
 bindP (semBin .add (.s [40]) v72) fun v73 =>
 bindP (semBin .add v73 (.s [32])) fun v74 =>
 bindP (aFad 0 v1) fun v75 =>
 bindP (aLd σ none v75) fun v76 =>
 bindP (semBin .sub v76 (.sc (.int .i64 4))) fun v77 =>
 bindP (aIdp 1 12 v68 v77) fun v78 =>
 bindP (aLd σ none v78) fun v79 =>
 bindP (semBin .add v74 v79) fun v80 =>
 bindP (semBin .add v80 (.s [32])) fun v81 =>
 bindP (aIad 1 (s5.getD 2 .any) (.sc (.int .i64 1))) fun v83 =>
 bindP (aLd σ none v83) fun v84 =>
 bindP (semBin .add v81 v84) fun v85 =>
 bindP (semBin .add v85 (.s [41])) fun v86 =>
 Apt (names []) (rdA v71) (names []) (rdA v75) ∧
 Apt (names []) (rdA v71) (names []) (rdA v78) ∧
 Apt (names []) (rdA v71) (names []) (rdA v83) ∧
 Apt (names []) (rdA v75) (names []) (rdA v83) ∧
 Apt (names []) (rdA v78) (names []) (rdA v83) ∧
 ∀ n_, n + 16 * 18 ≤ n_ → (fun n => R (.ret v86) σ n) n_)
def lb_syntax_printed5 (v4 : AV) (v3 : AV) (R : AEnd → Hp → Nat → Prop) (v1 : AV) (K5 : List AV → Hp → Nat → Prop) (s5 : List AV) (σ : Hp) (n : Nat) : Prop :=
 bindP (semBin .lss (s5.getD 3 .any) v4) fun v6 =>
 COND v6 (
 bindP (aIad 7 v3 (s5.getD 3 .any)) fun v7 =>
 bindP (aLd σ (some 7) v7) fun v8 =>
 bindS (hAlloc n [(.int .i64 0), (.int .i64 0), (.int .i64 0), (.string ⟨#[]⟩), (.string ⟨#[]⟩), (.string ⟨#[]⟩), (.slice none 0 0)]) σ n fun v9 σ n =>
 bindS (hSt σ 7 v9 v8) σ n fun v10 σ n =>
 bindP (aLd σ (some 7) v9) fun v11 =>
 CALL Tryd.prog (.fn 27 []) [v11] σ n (kc_syntax_printed1 s5 K5 v6 v9 R)) (
 bindP (aFad 0 v1) fun v17 =>
 bindP (aLd σ none v17) fun v18 =>
 bindP (semBin .eql v18 (.sc (.int .i64 0))) fun v19 =>
 COND v19 (
 bindP (aFad 1 v1) fun v20 =>
 bindP (aLd σ (some 3) v20) fun v21 =>
 CALL Tryd.prog (.fn 59 []) [v21] σ n (kc_syntax_printed2 R)) (
 bindP (semBin .eql v18 (.sc (.int .i64 1))) fun v24 =>
 COND v24 (
 bindP (aFad 4 v1) fun v25 =>
 bindP (aLd σ none v25) fun v26 =>
 bindP (semBin .add v26 (.s [46])) fun v27 =>
 bindP (aFad 5 v1) fun v28 =>
 bindP (aLd σ none v28) fun v29 =>
 bindP (semBin .add v27 v29) fun v30 =>
 CALL Tryd.prog (.fn 60 []) [v30, (.s [46])] σ n (kc_syntax_printed3 R)) (
 bindP (semBin .eql v18 (.sc (.int .i64 2))) fun v33 =>
 COND v33 (
 bindP (aIad 1 (s5.getD 2 .any) (.sc (.int .i64 0))) fun v34 =>
 bindP (aLd σ none v34) fun v35 =>
 bindP (semBin .add (.s [40, 45]) v35) fun v36 =>
 bindP (semBin .add v36 (.s [41])) fun v37 =>
 R (.ret v37) σ n) (
 bindP (semBin .eql v18 (.sc (.int .i64 3))) fun v38 =>
 COND v38 (
 bindP (aIad 1 (s5.getD 2 .any) (.sc (.int .i64 0))) fun v39 =>
 bindP (aLd σ none v39) fun v40 =>
 bindP (semBin .add (.s [40, 78, 79, 84, 32]) v40) fun v41 =>
 bindP (semBin .add v41 (.s [41])) fun v42 =>
 R (.ret v42) σ n) (
 bindP (semBin .eql v18 (.sc (.int .i64 16))) fun v43 =>
 COND v43 (
 bindP (aIad 1 (s5.getD 2 .any) (.sc (.int .i64 0))) fun v44 =>
 bindP (aLd σ none v44) fun v45 =>
 bindP (semBin .add (.s [40]) v45) fun v46 =>
 bindP (semBin .add v46 (.s [32, 73, 83, 32, 78, 85, 76, 76, 41])) fun v47 =>
 R (.ret v47) σ n) (
 bindP (semBin .eql v18 (.sc (.int .i64 17))) fun v48 =>
 COND v48 (
 bindP (aIad 1 (s5.getD 2 .any) (.sc (.int .i64 0))) fun v49 =>
 bindP (aLd σ none v49) fun v50 =>
 bindP (semBin .add (.s [40]) v50) fun v51 =>
 bindP (semBin .add v51 (.s [32, 73, 83, 32, 78, 79, 84, 32, 78, 85, 76, 76, 41])) fun v52 =>
 R (.ret v52) σ n) (
 bindP (semBin .eql v18 (.sc (.int .i64 18))) fun v53 =>
 COND v53 (
 R (.ret (.s [67, 79, 85, 78, 84, 40, 42, 41])) σ n) (
 JOIN (jk_syntax_printed4 v1 s5 R) fun K54 =>
 bindP (semBin .eql v18 (.sc (.int .i64 19))) fun v88 =>
 COND v88 (
 K54 [v88] σ n) (
 bindP (semBin .eql v18 (.sc (.int .i64 20))) fun v89 =>
 COND v89 (
 K54 [v89] σ n) (
 bindP (semBin .eql v18 (.sc (.int .i64 21))) fun v90 =>
 COND v90 (
 K54 [v90] σ n) (
 bindP (semBin .eql v18 (.sc (.int .i64 22))) fun v91 =>
 K54 [v91] σ n)))))))))))
attribute [go_sem] kc_syntax_printed1 kc_syntax_printed2 kc_syntax_printed3 jk_syntax_printed4 lb_syntax_printed5
def sc_syntax_printed : SCode := (.seq (.reg [ ⟨some 1,none,.box (.t 0)⟩,⟨some 2,none,.mv (.c (.s []))⟩]) (.seq (.reg [ ⟨some 3,none,.mv (.c .em)⟩]) (.seq (.seq (.reg [ ⟨some 7,none,.fad 6 (.t 1)⟩,⟨some 8,none,.ld none (.t 7)⟩,⟨some 9,none,.len false (.t 8)⟩,⟨some 10,none,.mv (.c (.sc (.int .i64 0)))⟩]) (.block 0 (.loop [11,5,3,10] [11,12,13,5,14,15,16,17,18,3,19,10] (.seq (.reg [ ⟨some 11,none,.bin .lss (.t 10) (.t 9)⟩]) (.seq (.cond (.t 11) .skip (.exit 0)) (.seq (.block 1 (.seq (.reg [ ⟨some 12,none,.iad 7 (.t 8) (.t 10)⟩,⟨some 13,none,.ld (some 7) (.t 12)⟩,⟨some 5,none,.alloc [(.int .i64 0),(.int .i64 0),(.int .i64 0),(.string ⟨#[]⟩),(.string ⟨#[]⟩),(.string ⟨#[]⟩),(.slice none 0 0)]⟩,⟨none,none,(.st 7 (.t 5) (.t 13))⟩]) (.reg [ ⟨some 14,none,.mv (.t 3)⟩,⟨some 15,none,.ld (some 7) (.t 5)⟩,⟨some 16,none,.call (.c (.fn 27 [])) [(.t 15)]⟩,⟨some 17,none,.bsl 1 [(.string ⟨#[]⟩)] 1 [(0,(.t 16))]⟩,⟨some 18,none,.app 1 16 (.t 14) (.t 17)⟩,⟨some 3,none,.mv (.t 18)⟩]))) (.reg [ ⟨some 19,none,.bin .add (.t 10) (.c (.sc (.int .i64 1)))⟩,⟨some 10,none,.mv (.t 19)⟩]))))))) (.seq (.seq (.reg [ ⟨some 20,none,.fad 0 (.t 1)⟩,⟨some 21,none,.ld none (.t 20)⟩]) (.block 2 (.seq (.reg [ ⟨some 23,none,.bin .eql (.t 21) (.c (.sc (.int .i64 0)))⟩,⟨some 22,none,.mv (.t 23)⟩]) (.cond (.t 22) (.seq (.reg [ ⟨some 24,none,.fad 1 (.t 1)⟩,⟨some 25,none,.ld (some 3) (.t 24)⟩,⟨some 26,none,.call (.c (.fn 59 [])) [(.t 25)]⟩,⟨some 2,none,.mv (.t 26)⟩]) .ret) (.seq (.reg [ ⟨some 28,none,.bin .eql (.t 21) (.c (.sc (.int .i64 1)))⟩,⟨some 27,none,.mv (.t 28)⟩]) (.cond (.t 27) (.seq (.reg [ ⟨some 29,none,.fad 4 (.t 1)⟩,⟨some 30,none,.ld none (.t 29)⟩,⟨some 31,none,.bin .add (.t 30) (.c (.s [46]))⟩,⟨some 32,none,.fad 5 (.t 1)⟩,⟨some 33,none,.ld none (.t 32)⟩,⟨some 34,none,.bin .add (.t 31) (.t 33)⟩,⟨some 35,none,.call (.c (.fn 60 [])) [(.t 34),(.c (.s [46]))]⟩,⟨some 2,none,.mv (.t 35)⟩]) .ret) (.seq (.reg [ ⟨some 37,none,.bin .eql (.t 21) (.c (.sc (.int .i64 2)))⟩,⟨some 36,none,.mv (.t 37)⟩]) (.cond (.t 36) (.seq (.reg [ ⟨some 38,none,.mv (.t 3)⟩,⟨some 39,none,.iad 1 (.t 38) (.c (.sc (.int .i64 0)))⟩,⟨some 40,none,.ld none (.t 39)⟩,⟨some 41,none,.bin .add (.c (.s [40,45])) (.t 40)⟩,⟨some 42,none,.bin .add (.t 41) (.c (.s [41]))⟩,⟨some 2,none,.mv (.t 42)⟩]) .ret) (.seq (.reg [ ⟨some 44,none,.bin .eql (.t 21) (.c (.sc (.int .i64 3)))⟩,⟨some 43,none,.mv (.t 44)⟩]) (.cond (.t 43) (.seq (.reg [ ⟨some 45,none,.mv (.t 3)⟩,⟨some 46,none,.iad 1 (.t 45) (.c (.sc (.int .i64 0)))⟩,⟨some 47,none,.ld none (.t 46)⟩,⟨some 48,none,.bin .add (.c (.s [40,78,79,84,32])) (.t 47)⟩,⟨some 49,none,.bin .add (.t 48) (.c (.s [41]))⟩,⟨some 2,none,.mv (.t 49)⟩]) .ret) (.seq (.reg [ ⟨some 51,none,.bin .eql (.t 21) (.c (.sc (.int .i64 16)))⟩,⟨some 50,none,.mv (.t 51)⟩]) (.cond (.t 50) (.seq (.reg [ ⟨some 52,none,.mv (.t 3)⟩,⟨some 53,none,.iad 1 (.t 52) (.c (.sc (.int .i64 0)))⟩,⟨some 54,none,.ld none (.t 53)⟩,⟨some 55,none,.bin .add (.c (.s [40])) (.t 54)⟩,⟨some 56,none,.bin .add (.t 55) (.c (.s [32,73,83,32,78,85,76,76,41]))⟩,⟨some 2,none,.mv (.t 56)⟩]) .ret) (.seq (.reg [ ⟨some 58,none,.bin .eql (.t 21) (.c (.sc (.int .i64 17)))⟩,⟨some 57,none,.mv (.t 58)⟩]) (.cond (.t 57) (.seq (.reg [ ⟨some 59,none,.mv (.t 3)⟩,⟨some 60,none,.iad 1 (.t 59) (.c (.sc (.int .i64 0)))⟩,⟨some 61,none,.ld none (.t 60)⟩,⟨some 62,none,.bin .add (.c (.s [40])) (.t 61)⟩,⟨some 63,none,.bin .add (.t 62) (.c (.s [32,73,83,32,78,79,84,32,78,85,76,76,41]))⟩,⟨some 2,none,.mv (.t 63)⟩]) .ret) (.seq (.reg [ ⟨some 65,none,.bin .eql (.t 21) (.c (.sc (.int .i64 18)))⟩,⟨some 64,none,.mv (.t 65)⟩]) (.cond (.t 64) (.seq (.reg [ ⟨some 2,none,.mv (.c (.s [67,79,85,78,84,40,42,41]))⟩]) .ret) (.seqJ [66] [67,66,68,66,69,66,70,66] (.seq (.reg [ ⟨some 67,none,.bin .eql (.t 21) (.c (.sc (.int .i64 19)))⟩,⟨some 66,none,.mv (.t 67)⟩]) (.cond (.t 66) .skip (.seq (.reg [ ⟨some 68,none,.bin .eql (.t 21) (.c (.sc (.int .i64 20)))⟩,⟨some 66,none,.mv (.t 68)⟩]) (.cond (.t 66) .skip (.seq (.reg [ ⟨some 69,none,.bin .eql (.t 21) (.c (.sc (.int .i64 21)))⟩,⟨some 66,none,.mv (.t 69)⟩]) (.cond (.t 66) .skip (.reg [ ⟨some 70,none,.bin .eql (.t 21) (.c (.sc (.int .i64 22)))⟩,⟨some 66,none,.mv (.t 70)⟩]))))))) (.cond (.t 66) (.seq (.regD [(⟨(some 71),none,(.build [(.string ⟨#[]⟩),(.string ⟨#[]⟩),(.string ⟨#[]⟩),(.string ⟨#[]⟩)] [(0,(1,(.c (.s [67,79,85,78,84])))),(1,(1,(.c (.s [83,85,77])))),(2,(1,(.c (.s [77,73,78])))),(3,(1,(.c (.s [77,65,88]))))])⟩,[]),(⟨some 72,none,.fad 0 (.t 1)⟩,[]),(⟨some 73,none,.ld none (.t 72)⟩,[1]),(⟨some 74,none,.bin .sub (.t 73) (.c (.sc (.int .i64 19)))⟩,[2,1]),(⟨some 75,none,.iarr none 1 4 (.t 71) (.t 74)⟩,[0,3,2,1]),(⟨some 76,none,.bin .add (.t 75) (.c (.s [40]))⟩,[4,0,3,2,1]),(⟨some 77,none,.mv (.t 3)⟩,[]),(⟨some 78,none,.iad 1 (.t 77) (.c (.sc (.int .i64 0)))⟩,[6]),(⟨some 79,none,.ld none (.t 78)⟩,[7,6]),(⟨some 80,none,.bin .add (.t 76) (.t 79)⟩,[5,4,0,3,2,1,8,7,6]),(⟨some 81,none,.bin .add (.t 80) (.c (.s [41]))⟩,[9,5,4,0,3,2,1,8,7,6]),(⟨some 2,none,.mv (.t 81)⟩,[10,9,5,4,0,3,2,1,8,7,6])]) .ret) .skip)))))))))))))))))) (.seq (.reg [ ⟨(some 82),none,(.build [(.string ⟨#[]⟩),(.string ⟨#[]⟩),(.string ⟨#[]⟩),(.string ⟨#[]⟩),(.string ⟨#[]⟩),(.string ⟨#[]⟩),(.string ⟨#[]⟩),(.string ⟨#[]⟩),(.string ⟨#[]⟩),(.string ⟨#[]⟩),(.string ⟨#[]⟩),(.string ⟨#[]⟩)] [(0,(1,(.c (.s [43])))),(1,(1,(.c (.s [45])))),(2,(1,(.c (.s [42])))),(3,(1,(.c (.s [47])))),(4,(1,(.c (.s [61])))),(5,(1,(.c (.s [60,62])))),(6,(1,(.c (.s [60])))),(7,(1,(.c (.s [60,61])))),(8,(1,(.c (.s [62])))),(9,(1,(.c (.s [62,61])))),(10,(1,(.c (.s [65,78,68])))),(11,(1,(.c (.s [79,82]))))])⟩,⟨some 6,none,.alloc [(.string ⟨#[]⟩),(.string ⟨#[]⟩),(.string ⟨#[]⟩),(.string ⟨#[]⟩),(.string ⟨#[]⟩),(.string ⟨#[]⟩),(.string ⟨#[]⟩),(.string ⟨#[]⟩),(.string ⟨#[]⟩),(.string ⟨#[]⟩),(.string ⟨#[]⟩),(.string ⟨#[]⟩)]⟩,⟨none,none,(.st 12 (.t 6) (.t 82))⟩]) (.seq (.regD [(⟨some 83,none,.mv (.t 3)⟩,[]),(⟨some 84,none,.iad 1 (.t 83) (.c (.sc (.int .i64 0)))⟩,[0]),(⟨some 85,none,.ld none (.t 84)⟩,[1,0]),(⟨some 86,none,.bin .add (.c (.s [40])) (.t 85)⟩,[2,1,0]),(⟨some 87,none,.bin .add (.t 86) (.c (.s [32]))⟩,[3,2,1,0]),(⟨some 88,none,.fad 0 (.t 1)⟩,[]),(⟨some 89,none,.ld none (.t 88)⟩,[5]),(⟨some 90,none,.bin .sub (.t 89) (.c (.sc (.int .i64 4)))⟩,[6,5]),(⟨some 91,none,.idp 1 12 (.t 6) (.t 90)⟩,[7,6,5]),(⟨some 92,none,.ld none (.t 91)⟩,[8,7,6,5]),(⟨some 93,none,.bin .add (.t 87) (.t 92)⟩,[4,3,2,1,0,9,8,7,6,5]),(⟨some 94,none,.bin .add (.t 93) (.c (.s [32]))⟩,[10,4,3,2,1,0,9,8,7,6,5]),(⟨some 95,none,.mv (.t 3)⟩,[]),(⟨some 96,none,.iad 1 (.t 95) (.c (.sc (.int .i64 1)))⟩,[12]),(⟨some 97,none,.ld none (.t 96)⟩,[13,12]),(⟨some 98,none,.bin .add (.t 94) (.t 97)⟩,[11,10,4,3,2,1,0,9,8,7,6,5,14,13,12]),(⟨some 99,none,.bin .add (.t 98) (.c (.s [41]))⟩,[15,11,10,4,3,2,1,0,9,8,7,6,5,14,13,12]),(⟨some 2,none,.mv (.t 99)⟩,[16,15,11,10,4,3,2,1,0,9,8,7,6,5,14,13,12])]) .ret))))))
def sh_syntax_printed (a0 : AV) (σ : Hp) (n : Nat) (R : AEnd → Hp → Nat → Prop) : Prop :=
 bindS (hBox n a0) σ n fun v1 σ n =>
 bindP (aFad 6 v1) fun v2 =>
 bindP (aLd σ none v2) fun v3 =>
 bindP (aLen false v3) fun v4 => bnd σ v3 →
 LOOP (lb_syntax_printed5 v4 v3 R v1) [(.tp []), (.tp []), .em, (.sc (.int .i64 0))] σ n
theorem se_syntax_printed (a0 : AV) (σ : Hp) (n : Nat) (R : AEnd → Hp → Nat → Prop) : sh_syntax_printed a0 σ n R = swp Tryd.prog sc_syntax_printed (retQ [(.t 2)] R) (entry [a0]) σ n := by kernel_rfl
theorem by_syntax_printed {a0 : AV} {σ : Hp} {n : Nat} {R : AEnd → Hp → Nat → Prop} (h : sh_syntax_printed a0 σ n R) : ConH Tryd.prog 27 [a0] σ n R := by
  rw [se_syntax_printed] at h
  exact conH_of [(.t 2)] (fn := Tryd.f27) rfl [0, 9, 11, 8, 5, 10, 22, 27, 36, 43, 50, 57, 64, 21, 66, 1, 6, 3, 2] (by kernel_rfl) (by kernel_rfl) (by kernel_rfl) (by kernel_rfl) h
def kc_syntax_Literal1 (R : AEnd → Hp → Nat → Prop) (r : AEnd) (σ : Hp) (n : Nat) : Prop :=
 onEnd r (fun v8 =>
 R (.ret v8) σ n) (fun v9 => R (.pan v9) σ n)
def kc_syntax_Literal2 (R : AEnd → Hp → Nat → Prop) (r : AEnd) (σ : Hp) (n : Nat) : Prop :=
 onEnd r (fun v17 =>
 bindP (semBin .add (.s [39]) v17) fun v19 =>
 bindP (semBin .add v19 (.s [39])) fun v20 =>
 R (.ret v20) σ n) (fun v18 => R (.pan v18) σ n)
attribute [go_sem] kc_syntax_Literal1 kc_syntax_Literal2
def sc_syntax_Literal : SCode := (.seq (.reg [ ⟨some 1,none,.box (.t 0)⟩,⟨some 2,none,.mv (.c (.s []))⟩]) (.seq (.seq (.reg [ ⟨some 3,none,.fad 0 (.t 1)⟩,⟨some 4,none,.ld none (.t 3)⟩]) (.block 0 (.seq (.reg [ ⟨some 6,none,.bin .eql (.t 4) (.c (.sc (.int .i64 0)))⟩,⟨some 5,none,.mv (.t 6)⟩]) (.cond (.t 5) (.seq (.reg [ ⟨some 2,none,.mv (.c (.s [78,85,76,76]))⟩]) .ret) (.seq (.reg [ ⟨some 8,none,.bin .eql (.t 4) (.c (.sc (.int .i64 1)))⟩,⟨some 7,none,.mv (.t 8)⟩]) (.cond (.t 7) (.seq (.reg [ ⟨some 9,none,.fad 1 (.t 1)⟩,⟨some 10,none,.ld none (.t 9)⟩,⟨some 11,none,.call (.c (.fn 100 [])) [(.t 10)]⟩,⟨some 2,none,.mv (.t 11)⟩]) .ret) (.seq (.reg [ ⟨some 13,none,.bin .eql (.t 4) (.c (.sc (.int .i64 2)))⟩,⟨some 12,none,.mv (.t 13)⟩]) (.cond (.t 12) (.seq (.reg [ ⟨(some 14),none,(.build [(.string ⟨#[]⟩),(.string ⟨#[]⟩)] [(0,(1,(.c (.s [70,65,76,83,69])))),(1,(1,(.c (.s [84,82,85,69]))))])⟩,⟨some 15,none,.fad 1 (.t 1)⟩,⟨some 16,none,.ld none (.t 15)⟩,⟨some 17,none,.iarr none 1 2 (.t 14) (.t 16)⟩,⟨some 2,none,.mv (.t 17)⟩]) .ret) .skip)))))))) (.seq (.reg [ ⟨some 18,none,.fad 2 (.t 1)⟩,⟨some 19,none,.ld none (.t 18)⟩,⟨some 20,none,.call (.c (.fn 101 [])) [(.t 19),(.c (.s [39])),(.c (.s [39,39]))]⟩,⟨some 21,none,.bin .add (.c (.s [39])) (.t 20)⟩,⟨some 22,none,.bin .add (.t 21) (.c (.s [39]))⟩,⟨some 2,none,.mv (.t 22)⟩]) .ret)))
def sh_syntax_Literal (a0 : AV) (σ : Hp) (n : Nat) (R : AEnd → Hp → Nat → Prop) : Prop :=
 bindS (hBox n a0) σ n fun v1 σ n =>
 bindP (aFad 0 v1) fun v2 =>
 bindP (aLd σ none v2) fun v3 =>
 bindP (semBin .eql v3 (.sc (.int .i64 0))) fun v4 =>
 COND v4 (
 R (.ret (.s [78, 85, 76, 76])) σ n) (
 bindP (semBin .eql v3 (.sc (.int .i64 1))) fun v5 =>
 COND v5 (
 bindP (aFad 1 v1) fun v6 =>
 bindP (aLd σ none v6) fun v7 =>
 CALL Tryd.prog (.fn 100 []) [v7] σ n (kc_syntax_Literal1 R)) (
 bindP (semBin .eql v3 (.sc (.int .i64 2))) fun v10 =>
 COND v10 (
 bindP (aBuild [(.string ⟨#[]⟩), (.string ⟨#[]⟩)] [(0, 1, (.s [70, 65, 76, 83, 69])), (1, 1, (.s [84, 82, 85, 69]))]) fun v11 =>
 bindP (aFad 1 v1) fun v12 =>
 bindP (aLd σ none v12) fun v13 =>
 bindP (aIarr none 1 2 v11 v13) fun v14 =>
 R (.ret v14) σ n) (
 bindP (aFad 2 v1) fun v15 =>
 bindP (aLd σ none v15) fun v16 =>
 CALL Tryd.prog (.fn 101 []) [v16, (.s [39]), (.s [39, 39])] σ n (kc_syntax_Literal2 R))))
theorem se_syntax_Literal (a0 : AV) (σ : Hp) (n : Nat) (R : AEnd → Hp → Nat → Prop) : sh_syntax_Literal a0 σ n R = swp Tryd.prog sc_syntax_Literal (retQ [(.t 2)] R) (entry [a0]) σ n := by kernel_rfl
theorem by_syntax_Literal {a0 : AV} {σ : Hp} {n : Nat} {R : AEnd → Hp → Nat → Prop} (h : sh_syntax_Literal a0 σ n R) : ConH Tryd.prog 59 [a0] σ n R := by
  rw [se_syntax_Literal] at h
  exact conH_of [(.t 2)] (fn := Tryd.f59) rfl [0, 5, 7, 4, 12, 1, 2] (by kernel_rfl) (by kernel_rfl) (by kernel_rfl) (by kernel_rfl) h
def kc_syntax_Decimal1 (R : AEnd → Hp → Nat → Prop) (r : AEnd) (σ : Hp) (n : Nat) : Prop :=
 onEnd r (fun v7 =>
 bindP (semBin .add (.s [45]) v7) fun v9 =>
 R (.ret v9) σ n) (fun v8 => R (.pan v8) σ n)
def kc_syntax_Decimal2 (v15 : AV) (R : AEnd → Hp → Nat → Prop) (r : AEnd) (σ : Hp) (n : Nat) : Prop :=
 onEnd r (fun v19 =>
 bindP (semBin .add v19 v15) fun v21 =>
 R (.ret v21) σ n) (fun v20 => R (.pan v20) σ n)
attribute [go_sem] kc_syntax_Decimal1 kc_syntax_Decimal2
def sc_syntax_Decimal : SCode := (.seq (.reg [ ⟨some 2,none,.mv (.c (.s []))⟩]) (.seq (.seq (.reg [ ⟨some 5,none,.mv (.t 0)⟩,⟨some 6,none,.bin .lss (.t 5) (.c (.sc (.int .i64 0)))⟩,⟨some 7,none,.mv (.t 6)⟩,⟨(some 8),(some (7,true)),(.mv (.t 0))⟩,⟨(some 9),(some (7,true)),(.bin .quo (.t 8) (.c (.sc (.int .i64 10))))⟩,⟨(some 10),(some (7,true)),(.bin .eql (.t 9) (.c (.sc (.int .i64 0))))⟩,⟨some 11,none,.pick (.t 7) (.t 10) (.c (.sc (.bool false)))⟩]) (.cond (.t 11) (.seq (.reg [ ⟨some 12,none,.mv (.t 0)⟩,⟨some 13,none,.un .neg (.t 12)⟩,⟨some 14,none,.call (.c (.fn 100 [])) [(.t 13)]⟩,⟨some 15,none,.bin .add (.c (.s [45])) (.t 14)⟩,⟨some 2,none,.mv (.t 15)⟩]) .ret) .skip)) (.seq (.reg [ ⟨some 16,none,.mv (.t 0)⟩,⟨some 17,none,.bin .rem (.t 16) (.c (.sc (.int .i64 10)))⟩,⟨some 3,none,.mv (.t 17)⟩]) (.seq (.reg [ ⟨some 18,none,.mv (.t 3)⟩,⟨some 19,none,.mv (.t 3)⟩,⟨some 20,none,.un .neg (.t 19)⟩,⟨some 21,none,.mxn true (.t 18) (.t 20)⟩,⟨some 22,none,.bin .add (.c (.sc (.int .i64 48))) (.t 21)⟩,⟨some 23,none,.cvi .i32 (.t 22)⟩,⟨some 24,none,.cvs (.t 23)⟩,⟨some 4,none,.mv (.t 24)⟩]) (.seq (.seq (.reg [ ⟨some 25,none,.mv (.t 0)⟩,⟨some 26,none,.bin .quo (.t 25) (.c (.sc (.int .i64 10)))⟩,⟨some 27,none,.bin .neq (.t 26) (.c (.sc (.int .i64 0)))⟩]) (.cond (.t 27) (.seq (.reg [ ⟨some 28,none,.mv (.t 0)⟩,⟨some 29,none,.bin .quo (.t 28) (.c (.sc (.int .i64 10)))⟩,⟨some 30,none,.call (.c (.fn 100 [])) [(.t 29)]⟩,⟨some 31,none,.mv (.t 4)⟩,⟨some 32,none,.bin .add (.t 30) (.t 31)⟩,⟨some 2,none,.mv (.t 32)⟩]) .ret) .skip)) (.seq (.reg [ ⟨some 33,none,.mv (.t 4)⟩,⟨some 2,none,.mv (.t 33)⟩]) .ret))))))
def sh_syntax_Decimal (a0 : AV) (σ : Hp) (n : Nat) (R : AEnd → Hp → Nat → Prop) : Prop :=
 bindP (semBin .lss a0 (.sc (.int .i64 0))) fun v1 =>
 guardP v1 true (some a0) fun v2 =>
 guardP v1 true (semBin .quo v2 (.sc (.int .i64 10))) fun v3 =>
 guardP v1 true (semBin .eql v3 (.sc (.int .i64 0))) fun v4 =>
 bindP (aPick v1 v4 (.sc (.bool false))) fun v5 =>
 COND v5 (
 bindP (aUn .neg a0) fun v6 =>
 CALL Tryd.prog (.fn 100 []) [v6] σ n (kc_syntax_Decimal1 R)) (
 bindP (semBin .rem a0 (.sc (.int .i64 10))) fun v10 =>
 bindP (aUn .neg v10) fun v11 =>
 bindP (aMxn true v10 v11) fun v12 =>
 bindP (semBin .add (.sc (.int .i64 48)) v12) fun v13 =>
 bindP (aCvi .i32 v13) fun v14 =>
 bindP (aCvs v14) fun v15 =>
 bindP (semBin .quo a0 (.sc (.int .i64 10))) fun v16 =>
 bindP (semBin .neq v16 (.sc (.int .i64 0))) fun v17 =>
 COND v17 (
 bindP (semBin .quo a0 (.sc (.int .i64 10))) fun v18 =>
 CALL Tryd.prog (.fn 100 []) [v18] σ n (kc_syntax_Decimal2 v15 R)) (
 R (.ret v15) σ n))
theorem se_syntax_Decimal (a0 : AV) (σ : Hp) (n : Nat) (R : AEnd → Hp → Nat → Prop) : sh_syntax_Decimal a0 σ n R = swp Tryd.prog sc_syntax_Decimal (retQ [(.t 2)] R) (entry [a0]) σ n := by kernel_rfl
theorem by_syntax_Decimal {a0 : AV} {σ : Hp} {n : Nat} {R : AEnd → Hp → Nat → Prop} (h : sh_syntax_Decimal a0 σ n R) : ConH Tryd.prog 100 [a0] σ n R := by
  rw [se_syntax_Decimal] at h
  exact conH_of [(.t 2)] (fn := Tryd.f100) rfl [11, 3, 27, 0, 4, 2] (by kernel_rfl) (by kernel_rfl) (by kernel_rfl) (by kernel_rfl) h
end Go.Proofs.YtodoejfkjimeaaaDoor
