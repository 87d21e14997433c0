/- Packed by a program of this repo: Sh4. -/
import Derived.Test.YtodoejfkjimeaaaGreatDoorKTMs
import Derived.Test.YtodoejfkjimeaaaGreatDoorProg
set_option linter.unusedVariables false
set_option maxRecDepth 8000
namespace Go.Proofs.YtodoejfkjimeaaaGreatDoor
open Go Am
def kc_law04_alive1 (Kg : AV → Hp → Nat → Prop) (R : AEnd → Hp → Nat → Prop) (r : AEnd) (σ : Hp) (n : Nat) : Prop :=
 onEnd r (fun v18 =>
 Kg v18 σ n) (fun v19 => R (.pan v19) σ n)
def kc_law04_alive2 (v8 : AV) (R : AEnd → Hp → Nat → Prop) (r : AEnd) (σ : Hp) (n : Nat) : Prop :=
 onEnd r (fun v10 =>
 bindP (semBin .eql v10 (.sc (.int .i64 0))) fun v12 =>
 guardP v12 true (some v8) fun v13 =>
 guardP v12 true (semBin .eql v13 (.s [40, 97, 32, 43, 32, 49, 41])) fun v14 =>
 bindP (aPick v12 v14 (.sc (.bool false))) fun v15 =>
 guardP v15 true (aBuild [(.int .i64 0), (.string ⟨#[]⟩), (.slice none 0 0), (.string ⟨#[]⟩), (.string ⟨#[]⟩), (.slice none 0 0), (.slice none 0 0), (.slice none 0 0), (.string ⟨#[]⟩), (.slice none 0 0), (.slice none 0 0), (.slice none 0 0), (.slice none 0 0), (.int .i64 0)] [(0, 1, (.sc (.int .i64 8)))]) fun v16 =>
 guardK v15 true (fun Kg => CALL Tryz.prog (.fn 8 []) [v16] σ n (kc_law04_alive1 Kg R)) σ n fun v17 σ n =>
 guardP v15 true (semBin .eql v17 (.sc (.int .i64 0))) fun v20 =>
 bindP (aPick v15 v20 (.sc (.bool false))) fun v21 =>
 R (.ret v21) σ n) (fun v11 => R (.pan v11) σ n)
def kc_law04_alive3 (R : AEnd → Hp → Nat → Prop) (r : AEnd) (σ : Hp) (n : Nat) : Prop :=
 onEnd r (fun v6 =>
 bindP (aExt v6 0) fun v8 =>
 bindP (aExt v6 1) fun v9 =>
 CALL Tryz.prog (.fn 7 []) [v9] σ n (kc_law04_alive2 v8 R)) (fun v7 => R (.pan v7) σ n)
attribute [go_sem] kc_law04_alive1 kc_law04_alive2 kc_law04_alive3
noncomputable def sc_law04_alive : SCode := (Tryz.f13.body.bind (cmpC Tryz.prog Tryz.f13.ntmps [2, 1, 0])).getD .skip
def sh_law04_alive (σ : Hp) (n : Nat) (R : AEnd → Hp → Nat → Prop) : Prop :=
 bindP (aBuild [(.int .i64 0), (.int .i64 0), (.int .i64 0), (.string ⟨#[]⟩), (.string ⟨#[]⟩), (.string ⟨#[]⟩), (.slice none 0 0)] [(0, 1, (.sc (.int .i64 1))), (5, 1, (.s [97]))]) fun v1 =>
 bindP (aBuild [(.int .i64 0), (.int .i64 0), (.string ⟨#[]⟩)] [(0, 1, (.sc (.int .i64 1))), (1, 1, (.sc (.int .i64 1)))]) fun v2 =>
 bindP (aBuild [(.int .i64 0), (.int .i64 0), (.int .i64 0), (.string ⟨#[]⟩), (.string ⟨#[]⟩), (.string ⟨#[]⟩), (.slice none 0 0)] [(1, 3, v2)]) fun v3 =>
 bindS (hBsl σ n 7 [(.int .i64 0), (.int .i64 0), (.int .i64 0), (.string ⟨#[]⟩), (.string ⟨#[]⟩), (.string ⟨#[]⟩), (.slice none 0 0)] 2 [(0, v1), (1, v3)]) σ n fun v4 σ n =>
 bindP (aBuild [(.int .i64 0), (.int .i64 0), (.int .i64 0), (.string ⟨#[]⟩), (.string ⟨#[]⟩), (.string ⟨#[]⟩), (.slice none 0 0)] [(0, 1, (.sc (.int .i64 4))), (6, 1, v4)]) fun v5 =>
 CALL Tryz.prog (.fn 38 []) [v5] σ n (kc_law04_alive3 R)
theorem se_law04_alive (σ : Hp) (n : Nat) (R : AEnd → Hp → Nat → Prop) : sh_law04_alive σ n R = swp Tryz.prog sc_law04_alive (retQ [(.t 0)] R) (entry []) σ n := by kernel_rfl
theorem by_law04_alive {σ : Hp} {n : Nat} {R : AEnd → Hp → Nat → Prop} (h : sh_law04_alive σ n R) : ConH Tryz.prog 13 [] σ n R := by
  rw [se_law04_alive] at h
  exact conH_of [(.t 0)] (fn := Tryz.f13) rfl [2, 1, 0] (by kernel_rfl) (by kernel_rfl) (by kernel_rfl) (by kernel_rfl) h
noncomputable def sc_law04_num : SCode := (Tryz.f7.body.bind (cmpC Tryz.prog Tryz.f7.ntmps [0, 2])).getD .skip
def sh_law04_num (a0 : AV) (σ : Hp) (n : Nat) (R : AEnd → Hp → Nat → Prop) : Prop :=
 R (.ret a0) σ n
theorem se_law04_num (a0 : AV) (σ : Hp) (n : Nat) (R : AEnd → Hp → Nat → Prop) : sh_law04_num a0 σ n R = swp Tryz.prog sc_law04_num (retQ [(.t 2)] R) (entry [a0]) σ n := by kernel_rfl
theorem by_law04_num {a0 : AV} {σ : Hp} {n : Nat} {R : AEnd → Hp → Nat → Prop} (h : sh_law04_num a0 σ n R) : ConH Tryz.prog 7 [a0] σ n R := by
  rw [se_law04_num] at h
  exact conH_of [(.t 2)] (fn := Tryz.f7) rfl [0, 2] (by kernel_rfl) (by kernel_rfl) (by kernel_rfl) (by kernel_rfl) h
def kc_syntax_PrintExpr1 (R : AEnd → Hp → Nat → Prop) (r : AEnd) (σ : Hp) (n : Nat) : Prop :=
 onEnd r (fun v7 =>
 R (.ret (.tp [v7, (.sc (.int .i64 0))])) σ n) (fun v8 => R (.pan v8) σ n)
def kc_syntax_PrintExpr2 (R : AEnd → Hp → Nat → Prop) (v1 : AV) (r : AEnd) (σ : Hp) (n : Nat) : Prop :=
 onEnd r (fun v3 =>
 bindP (semBin .neq v3 (.sc (.int .i64 0))) fun v5 =>
 COND v5 (
 R (.ret (.tp [(.s []), v3])) σ n) (
 bindP (aLd σ (some 7) v1) fun v6 =>
 CALL Tryz.prog (.fn 44 []) [v6] σ n (kc_syntax_PrintExpr1 R))) (fun v4 => R (.pan v4) σ n)
attribute [go_sem] kc_syntax_PrintExpr1 kc_syntax_PrintExpr2
noncomputable def sc_syntax_PrintExpr : SCode := (Tryz.f38.body.bind (cmpC Tryz.prog Tryz.f38.ntmps [0, 8, 4, 1, 2, 3])).getD .skip
def sh_syntax_PrintExpr (a0 : AV) (σ : Hp) (n : Nat) (R : AEnd → Hp → Nat → Prop) : Prop :=
 bindS (hBox n a0) σ n fun v1 σ n =>
 bindP (aLd σ (some 7) v1) fun v2 =>
 CALL Tryz.prog (.fn 26 []) [v2] σ n (kc_syntax_PrintExpr2 R v1)
theorem se_syntax_PrintExpr (a0 : AV) (σ : Hp) (n : Nat) (R : AEnd → Hp → Nat → Prop) : sh_syntax_PrintExpr a0 σ n R = swp Tryz.prog sc_syntax_PrintExpr (retQ [(.t 2), (.t 3)] R) (entry [a0]) σ n := by kernel_rfl
theorem by_syntax_PrintExpr {a0 : AV} {σ : Hp} {n : Nat} {R : AEnd → Hp → Nat → Prop} (h : sh_syntax_PrintExpr a0 σ n R) : ConH Tryz.prog 38 [a0] σ n R := by
  rw [se_syntax_PrintExpr] at h
  exact conH_of [(.t 2), (.t 3)] (fn := Tryz.f38) rfl [0, 8, 4, 1, 2, 3] (by kernel_rfl) (by kernel_rfl) (by kernel_rfl) (by kernel_rfl) h
def kc_syntax_printed1 (s5 : List AV) (K5 : List AV → Hp → Nat → Prop) (v6 : AV) (v9 : AV) (R : AEnd → Hp → Nat → Prop) (r : AEnd) (σ : Hp) (n : Nat) : Prop :=
 onEnd r (fun v12 =>
 bindS (hBsl σ n 1 [(.string ⟨#[]⟩)] 1 [(0, v12)]) σ n fun v14 σ n =>
 bindS (hApp σ n 1 16 (s5.getD 2 .any) v14) σ n fun v15 σ n =>
 bindP (semBin .add (s5.getD 3 .any) (.sc (.int .i64 1))) fun v16 =>
 K5 [v6, v9, v15, v16] σ n) (fun v13 => R (.pan v13) σ n)
def kc_syntax_printed2 (R : AEnd → Hp → Nat → Prop) (r : AEnd) (σ : Hp) (n : Nat) : Prop :=
 onEnd r (fun v22 =>
 R (.ret v22) σ n) (fun v23 => R (.pan v23) σ n)
def kc_syntax_printed3 (R : AEnd → Hp → Nat → Prop) (r : AEnd) (σ : Hp) (n : Nat) : Prop :=
 onEnd r (fun v31 =>
 R (.ret v31) σ n) (fun v32 => R (.pan v32) σ n)
def jk_syntax_printed4 (v1 : AV) (s5 : List AV) (R : AEnd → Hp → Nat → Prop) (s54 : List AV) (σ : Hp) (n : Nat) : Prop :=
 COND (s54.getD 0 .any) (
 bindP (aBuild [(.string ⟨#[]⟩), (.string ⟨#[]⟩), (.string ⟨#[]⟩), (.string ⟨#[]⟩)] [(0, 1, (.s [67, 79, 85, 78, 84])), (1, 1, (.s [83, 85, 77])), (2, 1, (.s [77, 73, 78])), (3, 1, (.s [77, 65, 88]))]) fun v55 =>
 bindP (aFad 0 v1) fun v56 =>
 bindP (aLd σ none v56) fun v57 =>
 bindP (semBin .sub v57 (.sc (.int .i64 19))) fun v58 =>
 bindP (aIarr none 1 4 v55 v58) fun v59 =>
 bindP (semBin .add v59 (.s [40])) fun v60 =>
 bindP (aIad 1 (s5.getD 2 .any) (.sc (.int .i64 0))) fun v62 =>
 bindP (aLd σ none v62) fun v63 =>
 bindP (semBin .add v60 v63) fun v64 =>
 bindP (semBin .add v64 (.s [41])) fun v65 =>
 Apt (names []) (rdA v56) (names []) (rdA v62) ∧
 ∀ n_, n + 16 * 12 ≤ n_ → (fun n => R (.ret v65) σ n) n_) (
 bindP (aBuild [(.string ⟨#[]⟩), (.string ⟨#[]⟩), (.string ⟨#[]⟩), (.string ⟨#[]⟩), (.string ⟨#[]⟩), (.string ⟨#[]⟩), (.string ⟨#[]⟩), (.string ⟨#[]⟩), (.string ⟨#[]⟩), (.string ⟨#[]⟩), (.string ⟨#[]⟩), (.string ⟨#[]⟩)] [(0, 1, (.s [43])), (1, 1, (.s [45])), (2, 1, (.s [42])), (3, 1, (.s [47])), (4, 1, (.s [61])), (5, 1, (.s [60, 62])), (6, 1, (.s [60])), (7, 1, (.s [60, 61])), (8, 1, (.s [62])), (9, 1, (.s [62, 61])), (10, 1, (.s [65, 78, 68])), (11, 1, (.s [79, 82]))]) fun v67 =>
 bindS (hAlloc n [(.string ⟨#[]⟩), (.string ⟨#[]⟩), (.string ⟨#[]⟩), (.string ⟨#[]⟩), (.string ⟨#[]⟩), (.string ⟨#[]⟩), (.string ⟨#[]⟩), (.string ⟨#[]⟩), (.string ⟨#[]⟩), (.string ⟨#[]⟩), (.string ⟨#[]⟩), (.string ⟨#[]⟩)]) σ n fun v68 σ n =>
 bindS (hSt σ 12 v68 v67) σ n fun v69 σ n =>
 bindP (aIad 1 (s5.getD 2 .any) (.sc (.int .i64 0))) fun v71 =>
 bindP (aLd σ none v71) fun v72 =>
 bindP (semBin .add (.s [40]) v72) fun v73 =>
 bindP (semBin .add v73 (.s [32])) fun v74 =>
 bindP (aFad 0 v1) fun v75 =>
 bindP (aLd σ none v75) fun v76 =>
 bindP (semBin .sub v76 (.sc (.int .i64 4))) fun v77 =>
 bindP (aIdp 1 12 v68 v77) fun v78 =>
 bindP (aLd σ none v78) fun v79 =>
 bindP (semBin .add v74 v79) fun v80 =>
 bindP (semBin .add v80 (.s [32])) fun v81 =>
 bindP (aIad 1 (s5.getD 2 .any) (.sc (.int .i64 1))) fun v83 =>
 bindP (aLd σ none v83) fun v84 =>
 bindP (semBin .add v81 v84) fun v85 =>
 bindP (semBin .add v85 (.s [41])) fun v86 =>
 Apt (names []) (rdA v71) (names []) (rdA v75) ∧
 Apt (names []) (rdA v71) (names []) (rdA v78) ∧
 Apt (names []) (rdA v71) (names []) (rdA v83) ∧
 Apt (names []) (rdA v75) (names []) (rdA v83) ∧
 Apt (names []) (rdA v78) (names []) (rdA v83) ∧
 ∀ n_, n + 16 * 18 ≤ n_ → (fun n => R (.ret v86) σ n) n_)
def lb_syntax_printed5 (v4 : AV) (v3 : AV) (R : AEnd → Hp → Nat → Prop) (v1 : AV) (K5 : List AV → Hp → Nat → Prop) (s5 : List AV) (σ : Hp) (n : Nat) : Prop :=
 bindP (semBin .lss (s5.getD 3 .any) v4) fun v6 =>
 COND v6 (
 bindP (aIad 7 v3 (s5.getD 3 .any)) fun v7 =>
 bindP (aLd σ (some 7) v7) fun v8 =>
 bindS (hAlloc n [(.int .i64 0), (.int .i64 0), (.int .i64 0), (.string ⟨#[]⟩), (.string ⟨#[]⟩), (.string ⟨#[]⟩), (.slice none 0 0)]) σ n fun v9 σ n =>
 bindS (hSt σ 7 v9 v8) σ n fun v10 σ n =>
 bindP (aLd σ (some 7) v9) fun v11 =>
 CALL Tryz.prog (.fn 44 []) [v11] σ n (kc_syntax_printed1 s5 K5 v6 v9 R)) (
 bindP (aFad 0 v1) fun v17 =>
 bindP (aLd σ none v17) fun v18 =>
 bindP (semBin .eql v18 (.sc (.int .i64 0))) fun v19 =>
 COND v19 (
 bindP (aFad 1 v1) fun v20 =>
 bindP (aLd σ (some 3) v20) fun v21 =>
 CALL Tryz.prog (.fn 73 []) [v21] σ n (kc_syntax_printed2 R)) (
 bindP (semBin .eql v18 (.sc (.int .i64 1))) fun v24 =>
 COND v24 (
 bindP (aFad 4 v1) fun v25 =>
 bindP (aLd σ none v25) fun v26 =>
 bindP (semBin .add v26 (.s [46])) fun v27 =>
 bindP (aFad 5 v1) fun v28 =>
 bindP (aLd σ none v28) fun v29 =>
 bindP (semBin .add v27 v29) fun v30 =>
 CALL Tryz.prog (.fn 74 []) [v30, (.s [46])] σ n (kc_syntax_printed3 R)) (
 bindP (semBin .eql v18 (.sc (.int .i64 2))) fun v33 =>
 COND v33 (
 bindP (aIad 1 (s5.getD 2 .any) (.sc (.int .i64 0))) fun v34 =>
 bindP (aLd σ none v34) fun v35 =>
 bindP (semBin .add (.s [40, 45]) v35) fun v36 =>
 bindP (semBin .add v36 (.s [41])) fun v37 =>
 R (.ret v37) σ n) (
 bindP (semBin .eql v18 (.sc (.int .i64 3))) fun v38 =>
 COND v38 (
 bindP (aIad 1 (s5.getD 2 .any) (.sc (.int .i64 0))) fun v39 =>
 bindP (aLd σ none v39) fun v40 =>
 bindP (semBin .add (.s [40, 78, 79, 84, 32]) v40) fun v41 =>
 bindP (semBin .add v41 (.s [41])) fun v42 =>
 R (.ret v42) σ n) (
 bindP (semBin .eql v18 (.sc (.int .i64 16))) fun v43 =>
 COND v43 (
 bindP (aIad 1 (s5.getD 2 .any) (.sc (.int .i64 0))) fun v44 =>
 bindP (aLd σ none v44) fun v45 =>
 bindP (semBin .add (.s [40]) v45) fun v46 =>
 bindP (semBin .add v46 (.s [32, 73, 83, 32, 78, 85, 76, 76, 41])) fun v47 =>
 R (.ret v47) σ n) (
 bindP (semBin .eql v18 (.sc (.int .i64 17))) fun v48 =>
 COND v48 (
 bindP (aIad 1 (s5.getD 2 .any) (.sc (.int .i64 0))) fun v49 =>
 bindP (aLd σ none v49) fun v50 =>
 bindP (semBin .add (.s [40]) v50) fun v51 =>
 bindP (semBin .add v51 (.s [32, 73, 83, 32, 78, 79, 84, 32, 78, 85, 76, 76, 41])) fun v52 =>
 R (.ret v52) σ n) (
 bindP (semBin .eql v18 (.sc (.int .i64 18))) fun v53 =>
 COND v53 (
 R (.ret (.s [67, 79, 85, 78, 84, 40, 42, 41])) σ n) (
 JOIN (jk_syntax_printed4 v1 s5 R) fun K54 =>
 bindP (semBin .eql v18 (.sc (.int .i64 19))) fun v88 =>
 COND v88 (
 K54 [v88] σ n) (
 bindP (semBin .eql v18 (.sc (.int .i64 20))) fun v89 =>
 COND v89 (
 K54 [v89] σ n) (
 bindP (semBin .eql v18 (.sc (.int .i64 21))) fun v90 =>
 COND v90 (
 K54 [v90] σ n) (
 bindP (semBin .eql v18 (.sc (.int .i64 22))) fun v91 =>
 K54 [v91] σ n)))))))))))
attribute [go_sem] kc_syntax_printed1 kc_syntax_printed2 kc_syntax_printed3 jk_syntax_printed4 lb_syntax_printed5
noncomputable def sc_syntax_printed : SCode := (Tryz.f44.body.bind (cmpC Tryz.prog Tryz.f44.ntmps [0, 9, 11, 8, 5, 10, 22, 27, 36, 43, 50, 57, 64, 21, 66, 1, 6, 3, 2])).getD .skip
def sh_syntax_printed (a0 : AV) (σ : Hp) (n : Nat) (R : AEnd → Hp → Nat → Prop) : Prop :=
 bindS (hBox n a0) σ n fun v1 σ n =>
 bindP (aFad 6 v1) fun v2 =>
 bindP (aLd σ none v2) fun v3 =>
 bindP (aLen false v3) fun v4 => bnd σ v3 →
 LOOP (lb_syntax_printed5 v4 v3 R v1) [(.tp []), (.tp []), .em, (.sc (.int .i64 0))] σ n
theorem se_syntax_printed (a0 : AV) (σ : Hp) (n : Nat) (R : AEnd → Hp → Nat → Prop) : sh_syntax_printed a0 σ n R = swp Tryz.prog sc_syntax_printed (retQ [(.t 2)] R) (entry [a0]) σ n := by kernel_rfl
theorem by_syntax_printed {a0 : AV} {σ : Hp} {n : Nat} {R : AEnd → Hp → Nat → Prop} (h : sh_syntax_printed a0 σ n R) : ConH Tryz.prog 44 [a0] σ n R := by
  rw [se_syntax_printed] at h
  exact conH_of [(.t 2)] (fn := Tryz.f44) rfl [0, 9, 11, 8, 5, 10, 22, 27, 36, 43, 50, 57, 64, 21, 66, 1, 6, 3, 2] (by kernel_rfl) (by kernel_rfl) (by kernel_rfl) (by kernel_rfl) h
def kc_syntax_Literal1 (R : AEnd → Hp → Nat → Prop) (r : AEnd) (σ : Hp) (n : Nat) : Prop :=
 onEnd r (fun v8 =>
 R (.ret v8) σ n) (fun v9 => R (.pan v9) σ n)
def kc_syntax_Literal2 (R : AEnd → Hp → Nat → Prop) (r : AEnd) (σ : Hp) (n : Nat) : Prop :=
 onEnd r (fun v17 =>
 bindP (semBin .add (.s [39]) v17) fun v19 =>
 bindP (semBin .add v19 (.s [39])) fun v20 =>
 R (.ret v20) σ n) (fun v18 => R (.pan v18) σ n)
attribute [go_sem] kc_syntax_Literal1 kc_syntax_Literal2
noncomputable def sc_syntax_Literal : SCode := (Tryz.f73.body.bind (cmpC Tryz.prog Tryz.f73.ntmps [0, 5, 7, 4, 12, 1, 2])).getD .skip
def sh_syntax_Literal (a0 : AV) (σ : Hp) (n : Nat) (R : AEnd → Hp → Nat → Prop) : Prop :=
 bindS (hBox n a0) σ n fun v1 σ n =>
 bindP (aFad 0 v1) fun v2 =>
 bindP (aLd σ none v2) fun v3 =>
 bindP (semBin .eql v3 (.sc (.int .i64 0))) fun v4 =>
 COND v4 (
 R (.ret (.s [78, 85, 76, 76])) σ n) (
 bindP (semBin .eql v3 (.sc (.int .i64 1))) fun v5 =>
 COND v5 (
 bindP (aFad 1 v1) fun v6 =>
 bindP (aLd σ none v6) fun v7 =>
 CALL Tryz.prog (.fn 77 []) [v7] σ n (kc_syntax_Literal1 R)) (
 bindP (semBin .eql v3 (.sc (.int .i64 2))) fun v10 =>
 COND v10 (
 bindP (aBuild [(.string ⟨#[]⟩), (.string ⟨#[]⟩)] [(0, 1, (.s [70, 65, 76, 83, 69])), (1, 1, (.s [84, 82, 85, 69]))]) fun v11 =>
 bindP (aFad 1 v1) fun v12 =>
 bindP (aLd σ none v12) fun v13 =>
 bindP (aIarr none 1 2 v11 v13) fun v14 =>
 R (.ret v14) σ n) (
 bindP (aFad 2 v1) fun v15 =>
 bindP (aLd σ none v15) fun v16 =>
 CALL Tryz.prog (.fn 87 []) [v16, (.s [39]), (.s [39, 39])] σ n (kc_syntax_Literal2 R))))
theorem se_syntax_Literal (a0 : AV) (σ : Hp) (n : Nat) (R : AEnd → Hp → Nat → Prop) : sh_syntax_Literal a0 σ n R = swp Tryz.prog sc_syntax_Literal (retQ [(.t 2)] R) (entry [a0]) σ n := by kernel_rfl
theorem by_syntax_Literal {a0 : AV} {σ : Hp} {n : Nat} {R : AEnd → Hp → Nat → Prop} (h : sh_syntax_Literal a0 σ n R) : ConH Tryz.prog 73 [a0] σ n R := by
  rw [se_syntax_Literal] at h
  exact conH_of [(.t 2)] (fn := Tryz.f73) rfl [0, 5, 7, 4, 12, 1, 2] (by kernel_rfl) (by kernel_rfl) (by kernel_rfl) (by kernel_rfl) h
def kc_syntax_Decimal1 (R : AEnd → Hp → Nat → Prop) (r : AEnd) (σ : Hp) (n : Nat) : Prop :=
 onEnd r (fun v7 =>
 bindP (semBin .add (.s [45]) v7) fun v9 =>
 R (.ret v9) σ n) (fun v8 => R (.pan v8) σ n)
def kc_syntax_Decimal2 (v15 : AV) (R : AEnd → Hp → Nat → Prop) (r : AEnd) (σ : Hp) (n : Nat) : Prop :=
 onEnd r (fun v19 =>
 bindP (semBin .add v19 v15) fun v21 =>
 R (.ret v21) σ n) (fun v20 => R (.pan v20) σ n)
attribute [go_sem] kc_syntax_Decimal1 kc_syntax_Decimal2
noncomputable def sc_syntax_Decimal : SCode := (Tryz.f77.body.bind (cmpC Tryz.prog Tryz.f77.ntmps [11, 3, 27, 0, 4, 2])).getD .skip
def sh_syntax_Decimal (a0 : AV) (σ : Hp) (n : Nat) (R : AEnd → Hp → Nat → Prop) : Prop :=
 bindP (semBin .lss a0 (.sc (.int .i64 0))) fun v1 =>
 guardP v1 true (some a0) fun v2 =>
 guardP v1 true (semBin .quo v2 (.sc (.int .i64 10))) fun v3 =>
 guardP v1 true (semBin .eql v3 (.sc (.int .i64 0))) fun v4 =>
 bindP (aPick v1 v4 (.sc (.bool false))) fun v5 =>
 COND v5 (
 bindP (aUn .neg a0) fun v6 =>
 CALL Tryz.prog (.fn 77 []) [v6] σ n (kc_syntax_Decimal1 R)) (
 bindP (semBin .rem a0 (.sc (.int .i64 10))) fun v10 =>
 bindP (aUn .neg v10) fun v11 =>
 bindP (aMxn true v10 v11) fun v12 =>
 bindP (semBin .add (.sc (.int .i64 48)) v12) fun v13 =>
 bindP (aCvi .i32 v13) fun v14 =>
 bindP (aCvs v14) fun v15 =>
 bindP (semBin .quo a0 (.sc (.int .i64 10))) fun v16 =>
 bindP (semBin .neq v16 (.sc (.int .i64 0))) fun v17 =>
 COND v17 (
 bindP (semBin .quo a0 (.sc (.int .i64 10))) fun v18 =>
 CALL Tryz.prog (.fn 77 []) [v18] σ n (kc_syntax_Decimal2 v15 R)) (
 R (.ret v15) σ n))
theorem se_syntax_Decimal (a0 : AV) (σ : Hp) (n : Nat) (R : AEnd → Hp → Nat → Prop) : sh_syntax_Decimal a0 σ n R = swp Tryz.prog sc_syntax_Decimal (retQ [(.t 2)] R) (entry [a0]) σ n := by kernel_rfl
theorem by_syntax_Decimal {a0 : AV} {σ : Hp} {n : Nat} {R : AEnd → Hp → Nat → Prop} (h : sh_syntax_Decimal a0 σ n R) : ConH Tryz.prog 77 [a0] σ n R := by
  rw [se_syntax_Decimal] at h
  exact conH_of [(.t 2)] (fn := Tryz.f77) rfl [11, 3, 27, 0, 4, 2] (by kernel_rfl) (by kernel_rfl) (by kernel_rfl) (by kernel_rfl) h
def kc_ref04_printed1 (R : AEnd → Hp → Nat → Prop) (r : AEnd) (σ : Hp) (n : Nat) : Prop :=
 onEnd r (fun v7 =>
 R (.ret v7) σ n) (fun v8 => R (.pan v8) σ n)
def kc_ref04_printed2 (v69 : AV) (R : AEnd → Hp → Nat → Prop) (r : AEnd) (σ : Hp) (n : Nat) : Prop :=
 onEnd r (fun v74 =>
 bindP (semBin .add v69 v74) fun v76 =>
 bindP (semBin .add v76 (.s [41])) fun v77 =>
 R (.ret v77) σ n) (fun v75 => R (.pan v75) σ n)
def jk_ref04_printed3 (v1 : AV) (v34 : AV) (R : AEnd → Hp → Nat → Prop) (s50 : List AV) (σ : Hp) (n : Nat) : Prop :=
 COND (s50.getD 0 .any) (
 bindS (hBsl σ n 1 [(.string ⟨#[]⟩)] 4 [(0, (.s [67, 79, 85, 78, 84])), (1, (.s [83, 85, 77])), (2, (.s [77, 73, 78])), (3, (.s [77, 65, 88]))]) σ n fun v51 σ n =>
 bindP (aFad 0 v1) fun v52 =>
 bindP (aLd σ none v52) fun v53 =>
 bindP (semBin .sub v53 (.sc (.int .i64 19))) fun v54 =>
 bindP (aIad 1 v51 v54) fun v55 =>
 bindP (aLd σ none v55) fun v56 =>
 bindP (semBin .add v56 (.s [40])) fun v57 =>
 bindP (semBin .add v57 v34) fun v58 =>
 bindP (semBin .add v58 (.s [41])) fun v59 =>
 R (.ret v59) σ n) (
 bindS (hBsl σ n 1 [(.string ⟨#[]⟩)] 12 [(0, (.s [43])), (1, (.s [45])), (2, (.s [42])), (3, (.s [47])), (4, (.s [61])), (5, (.s [60, 62])), (6, (.s [60])), (7, (.s [60, 61])), (8, (.s [62])), (9, (.s [62, 61])), (10, (.s [65, 78, 68])), (11, (.s [79, 82]))]) σ n fun v60 σ n =>
 bindP (aFad 0 v1) fun v61 =>
 bindP (aLd σ none v61) fun v62 =>
 bindP (semBin .sub v62 (.sc (.int .i64 4))) fun v63 =>
 bindP (aIad 1 v60 v63) fun v64 =>
 bindP (aLd σ none v64) fun v65 =>
 bindP (semBin .add (.s [40]) v34) fun v66 =>
 bindP (semBin .add v66 (.s [32])) fun v67 =>
 bindP (semBin .add v67 v65) fun v68 =>
 bindP (semBin .add v68 (.s [32])) fun v69 =>
 bindP (aFad 6 v1) fun v70 =>
 bindP (aLd σ none v70) fun v71 =>
 bindP (aIad 7 v71 (.sc (.int .i64 1))) fun v72 =>
 bindP (aLd σ (some 7) v72) fun v73 =>
 CALL Tryz.prog (.fn 20 []) [v73] σ n (kc_ref04_printed2 v69 R))
def kc_ref04_printed4 (v1 : AV) (R : AEnd → Hp → Nat → Prop) (r : AEnd) (σ : Hp) (n : Nat) : Prop :=
 onEnd r (fun v34 =>
 bindP (aFad 0 v1) fun v36 =>
 bindP (aLd σ none v36) fun v37 =>
 bindP (semBin .eql v37 (.sc (.int .i64 2))) fun v38 =>
 COND v38 (
 bindP (semBin .add (.s [40, 45]) v34) fun v39 =>
 bindP (semBin .add v39 (.s [41])) fun v40 =>
 R (.ret v40) σ n) (
 bindP (semBin .eql v37 (.sc (.int .i64 3))) fun v41 =>
 COND v41 (
 bindP (semBin .add (.s [40, 78, 79, 84, 32]) v34) fun v42 =>
 bindP (semBin .add v42 (.s [41])) fun v43 =>
 R (.ret v43) σ n) (
 bindP (semBin .eql v37 (.sc (.int .i64 16))) fun v44 =>
 COND v44 (
 bindP (semBin .add (.s [40]) v34) fun v45 =>
 bindP (semBin .add v45 (.s [32, 73, 83, 32, 78, 85, 76, 76, 41])) fun v46 =>
 R (.ret v46) σ n) (
 bindP (semBin .eql v37 (.sc (.int .i64 17))) fun v47 =>
 COND v47 (
 bindP (semBin .add (.s [40]) v34) fun v48 =>
 bindP (semBin .add v48 (.s [32, 73, 83, 32, 78, 79, 84, 32, 78, 85, 76, 76, 41])) fun v49 =>
 R (.ret v49) σ n) (
 JOIN (jk_ref04_printed3 v1 v34 R) fun K50 =>
 bindP (semBin .eql v37 (.sc (.int .i64 19))) fun v78 =>
 COND v78 (
 K50 [v78] σ n) (
 bindP (semBin .eql v37 (.sc (.int .i64 20))) fun v79 =>
 COND v79 (
 K50 [v79] σ n) (
 bindP (semBin .eql v37 (.sc (.int .i64 21))) fun v80 =>
 COND v80 (
 K50 [v80] σ n) (
 bindP (semBin .eql v37 (.sc (.int .i64 22))) fun v81 =>
 K50 [v81] σ n)))))))) (fun v35 => R (.pan v35) σ n)
attribute [go_sem] kc_ref04_printed1 kc_ref04_printed2 jk_ref04_printed3 kc_ref04_printed4
noncomputable def sc_ref04_printed : SCode := (Tryz.f20.body.bind (cmpC Tryz.prog Tryz.f20.ntmps [0, 5, 12, 27, 33, 44, 49, 54, 59, 43, 64, 3, 4, 1, 2])).getD .skip
def sh_ref04_printed (a0 : AV) (σ : Hp) (n : Nat) (R : AEnd → Hp → Nat → Prop) : Prop :=
 bindS (hBox n a0) σ n fun v1 σ n =>
 bindP (aFad 0 v1) fun v2 =>
 bindP (aLd σ none v2) fun v3 =>
 bindP (semBin .eql v3 (.sc (.int .i64 0))) fun v4 =>
 COND v4 (
 bindP (aFad 1 v1) fun v5 =>
 bindP (aLd σ (some 3) v5) fun v6 =>
 CALL Tryz.prog (.fn 48 []) [v6] σ n (kc_ref04_printed1 R)) (
 bindP (aFad 0 v1) fun v9 =>
 bindP (aLd σ none v9) fun v10 =>
 bindP (semBin .eql v10 (.sc (.int .i64 1))) fun v11 =>
 guardP v11 true (aFad 4 v1) fun v12 =>
 guardP v11 true (aLd σ none v12) fun v13 =>
 guardP v11 true (semBin .neq v13 (.s [])) fun v14 =>
 bindP (aPick v11 v14 (.sc (.bool false))) fun v15 =>
 COND v15 (
 bindP (aFad 4 v1) fun v16 =>
 bindP (aLd σ none v16) fun v17 =>
 bindP (semBin .add v17 (.s [46])) fun v18 =>
 bindP (aFad 5 v1) fun v19 =>
 bindP (aLd σ none v19) fun v20 =>
 bindP (semBin .add v18 v20) fun v21 =>
 R (.ret v21) σ n) (
 bindP (aFad 0 v1) fun v22 =>
 bindP (aLd σ none v22) fun v23 =>
 bindP (semBin .eql v23 (.sc (.int .i64 1))) fun v24 =>
 COND v24 (
 bindP (aFad 5 v1) fun v25 =>
 bindP (aLd σ none v25) fun v26 =>
 R (.ret v26) σ n) (
 bindP (aFad 0 v1) fun v27 =>
 bindP (aLd σ none v27) fun v28 =>
 bindP (semBin .eql v28 (.sc (.int .i64 18))) fun v29 =>
 COND v29 (
 R (.ret (.s [67, 79, 85, 78, 84, 40, 42, 41])) σ n) (
 bindP (aFad 6 v1) fun v30 =>
 bindP (aLd σ none v30) fun v31 =>
 bindP (aIad 7 v31 (.sc (.int .i64 0))) fun v32 =>
 bindP (aLd σ (some 7) v32) fun v33 =>
 CALL Tryz.prog (.fn 20 []) [v33] σ n (kc_ref04_printed4 v1 R)))))
theorem se_ref04_printed (a0 : AV) (σ : Hp) (n : Nat) (R : AEnd → Hp → Nat → Prop) : sh_ref04_printed a0 σ n R = swp Tryz.prog sc_ref04_printed (retQ [(.t 2)] R) (entry [a0]) σ n := by kernel_rfl
theorem by_ref04_printed {a0 : AV} {σ : Hp} {n : Nat} {R : AEnd → Hp → Nat → Prop} (h : sh_ref04_printed a0 σ n R) : ConH Tryz.prog 20 [a0] σ n R := by
  rw [se_ref04_printed] at h
  exact conH_of [(.t 2)] (fn := Tryz.f20) rfl [0, 5, 12, 27, 33, 44, 49, 54, 59, 43, 64, 3, 4, 1, 2] (by kernel_rfl) (by kernel_rfl) (by kernel_rfl) (by kernel_rfl) h
def kc_ref04_Literal1 (R : AEnd → Hp → Nat → Prop) (r : AEnd) (σ : Hp) (n : Nat) : Prop :=
 onEnd r (fun v8 =>
 R (.ret v8) σ n) (fun v9 => R (.pan v9) σ n)
def jk_ref04_Literal2 (v1 : AV) (s14 : List AV) (K14 : List AV → Hp → Nat → Prop) (v18 : AV) (s19 : List AV) (σ : Hp) (n : Nat) : Prop :=
 bindP (aFad 2 v1) fun v20 =>
 bindP (aLd σ none v20) fun v21 =>
 bindP (semBin .add (s14.getD 3 .any) (.sc (.int .i64 1))) fun v22 =>
 bindP (aSstr v21 (some (s14.getD 3 .any)) (some v22)) fun v23 =>
 bindP (semBin .add (s19.getD 1 .any) v23) fun v24 =>
 bindP (semBin .add (s14.getD 3 .any) (.sc (.int .i64 1))) fun v25 =>
 K14 [v18, (s19.getD 0 .any), v24, v25] σ n
def lb_ref04_Literal3 (v1 : AV) (R : AEnd → Hp → Nat → Prop) (K14 : List AV → Hp → Nat → Prop) (s14 : List AV) (σ : Hp) (n : Nat) : Prop :=
 bindP (aFad 2 v1) fun v15 =>
 bindP (aLd σ none v15) fun v16 =>
 bindP (aLen true v16) fun v17 => bnd σ v16 →
 bindP (semBin .lss (s14.getD 3 .any) v17) fun v18 =>
 COND v18 (
 JOIN (jk_ref04_Literal2 v1 s14 K14 v18) fun K19 =>
 bindP (aFad 2 v1) fun v26 =>
 bindP (aLd σ none v26) fun v27 =>
 bindP (aIstr v27 (s14.getD 3 .any)) fun v28 =>
 bindP (semBin .eql v28 (.sc (.int .u8 39))) fun v29 =>
 COND v29 (
 bindP (semBin .add (s14.getD 2 .any) (.s [39])) fun v30 =>
 K19 [v29, v30] σ n) (
 K19 [v29, (s14.getD 2 .any)] σ n)) (
 bindP (semBin .add (s14.getD 2 .any) (.s [39])) fun v31 =>
 R (.ret v31) σ n)
attribute [go_sem] kc_ref04_Literal1 jk_ref04_Literal2 lb_ref04_Literal3
noncomputable def sc_ref04_Literal : SCode := (Tryz.f48.body.bind (cmpC Tryz.prog Tryz.f48.ntmps [0, 7, 9, 6, 14, 18, 23, 30, 1, 4, 3, 2])).getD .skip
def sh_ref04_Literal (a0 : AV) (σ : Hp) (n : Nat) (R : AEnd → Hp → Nat → Prop) : Prop :=
 bindS (hBox n a0) σ n fun v1 σ n =>
 bindP (aFad 0 v1) fun v2 =>
 bindP (aLd σ none v2) fun v3 =>
 bindP (semBin .eql v3 (.sc (.int .i64 0))) fun v4 =>
 COND v4 (
 R (.ret (.s [78, 85, 76, 76])) σ n) (
 bindP (semBin .eql v3 (.sc (.int .i64 1))) fun v5 =>
 COND v5 (
 bindP (aFad 1 v1) fun v6 =>
 bindP (aLd σ none v6) fun v7 =>
 CALL Tryz.prog (.fn 49 []) [v7] σ n (kc_ref04_Literal1 R)) (
 bindP (semBin .eql v3 (.sc (.int .i64 2))) fun v10 =>
 COND v10 (
 bindP (aFad 1 v1) fun v11 =>
 bindP (aLd σ none v11) fun v12 =>
 bindP (semBin .eql v12 (.sc (.int .i64 1))) fun v13 =>
 COND v13 (
 R (.ret (.s [84, 82, 85, 69])) σ n) (
 R (.ret (.s [70, 65, 76, 83, 69])) σ n)) (
 LOOP (lb_ref04_Literal3 v1 R) [(.tp []), (.tp []), (.s [39]), (.sc (.int .i64 0))] σ n)))
theorem se_ref04_Literal (a0 : AV) (σ : Hp) (n : Nat) (R : AEnd → Hp → Nat → Prop) : sh_ref04_Literal a0 σ n R = swp Tryz.prog sc_ref04_Literal (retQ [(.t 2)] R) (entry [a0]) σ n := by kernel_rfl
theorem by_ref04_Literal {a0 : AV} {σ : Hp} {n : Nat} {R : AEnd → Hp → Nat → Prop} (h : sh_ref04_Literal a0 σ n R) : ConH Tryz.prog 48 [a0] σ n R := by
  rw [se_ref04_Literal] at h
  exact conH_of [(.t 2)] (fn := Tryz.f48) rfl [0, 7, 9, 6, 14, 18, 23, 30, 1, 4, 3, 2] (by kernel_rfl) (by kernel_rfl) (by kernel_rfl) (by kernel_rfl) h
def jk_ref04_Decimal1 (s1 : List AV) (K1 : List AV → Hp → Nat → Prop) (v5 : AV) (s7 : List AV) (σ : Hp) (n : Nat) : Prop :=
 bindP (semBin .add (.sc (.int .i64 48)) (s7.getD 1 .any)) fun v8 =>
 bindP (aCvi .u8 v8) fun v9 =>
 bindS (hBsl σ n 1 [(.int .u8 0)] 1 [(0, v9)]) σ n fun v10 σ n =>
 bindP (aCvb σ v10) fun v11 =>
 bindP (semBin .add v11 (s1.getD 3 .any)) fun v12 =>
 bindP (semBin .quo (s1.getD 4 .any) (.sc (.int .i64 10))) fun v13 =>
 K1 [v5, (s7.getD 0 .any), (s7.getD 1 .any), v12, v13] σ n
def jk_ref04_Decimal2 (R : AEnd → Hp → Nat → Prop) (s16 : List AV) (σ : Hp) (n : Nat) : Prop :=
 R (.ret (s16.getD 1 .any)) σ n
def lb_ref04_Decimal3 (R : AEnd → Hp → Nat → Prop) (a0 : AV) (K1 : List AV → Hp → Nat → Prop) (s1 : List AV) (σ : Hp) (n : Nat) : Prop :=
 bindP (semBin .neq (s1.getD 4 .any) (.sc (.int .i64 0))) fun v2 =>
 guardP v2 false (some (s1.getD 3 .any)) fun v3 =>
 guardP v2 false (semBin .eql v3 (.s [])) fun v4 =>
 bindP (aPick v2 (.sc (.bool true)) v4) fun v5 =>
 COND v5 (
 bindP (semBin .rem (s1.getD 4 .any) (.sc (.int .i64 10))) fun v6 =>
 JOIN (jk_ref04_Decimal1 s1 K1 v5) fun K7 =>
 bindP (semBin .lss v6 (.sc (.int .i64 0))) fun v14 =>
 COND v14 (
 bindP (aUn .neg v6) fun v15 =>
 K7 [v14, v15] σ n) (
 K7 [v14, v6] σ n)) (
 JOIN (jk_ref04_Decimal2 R) fun K16 =>
 bindP (semBin .lss a0 (.sc (.int .i64 0))) fun v17 =>
 COND v17 (
 bindP (semBin .add (.s [45]) (s1.getD 3 .any)) fun v18 =>
 K16 [v17, v18] σ n) (
 K16 [v17, (s1.getD 3 .any)] σ n))
attribute [go_sem] jk_ref04_Decimal1 jk_ref04_Decimal2 lb_ref04_Decimal3
noncomputable def sc_ref04_Decimal : SCode := (Tryz.f49.body.bind (cmpC Tryz.prog Tryz.f49.ntmps [12, 18, 5, 4, 0, 29, 3, 2])).getD .skip
def sh_ref04_Decimal (a0 : AV) (σ : Hp) (n : Nat) (R : AEnd → Hp → Nat → Prop) : Prop :=
 LOOP (lb_ref04_Decimal3 R a0) [(.tp []), (.tp []), (.tp []), (.s []), a0] σ n
theorem se_ref04_Decimal (a0 : AV) (σ : Hp) (n : Nat) (R : AEnd → Hp → Nat → Prop) : sh_ref04_Decimal a0 σ n R = swp Tryz.prog sc_ref04_Decimal (retQ [(.t 2)] R) (entry [a0]) σ n := by kernel_rfl
theorem by_ref04_Decimal {a0 : AV} {σ : Hp} {n : Nat} {R : AEnd → Hp → Nat → Prop} (h : sh_ref04_Decimal a0 σ n R) : ConH Tryz.prog 49 [a0] σ n R := by
  rw [se_ref04_Decimal] at h
  exact conH_of [(.t 2)] (fn := Tryz.f49) rfl [12, 18, 5, 4, 0, 29, 3, 2] (by kernel_rfl) (by kernel_rfl) (by kernel_rfl) (by kernel_rfl) h
end Go.Proofs.YtodoejfkjimeaaaGreatDoor
