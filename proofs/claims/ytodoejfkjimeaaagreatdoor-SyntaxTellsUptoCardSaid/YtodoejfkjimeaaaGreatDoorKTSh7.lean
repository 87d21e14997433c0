/- Packed by a program of this repo: Sh7. -/
import Derived.Test.YtodoejfkjimeaaaGreatDoorKTMs
import Derived.Test.YtodoejfkjimeaaaGreatDoorProg
set_option linter.unusedVariables false
set_option maxRecDepth 8000
namespace Go.Proofs.YtodoejfkjimeaaaGreatDoor
open Go Am
def kc_plain_CopyExpr1 (v1 : AV) (v2 : AV) (R : AEnd → Hp → Nat → Prop) (r : AEnd) (σ : Hp) (n : Nat) : Prop :=
 onEnd r (fun v5 =>
 bindP (aFad 6 v1) fun v7 =>
 bindS (hSt σ 1 v7 v5) σ n fun v8 σ n =>
 bindP (aLd σ (some 7) v1) fun v9 =>
 bindS (hSt σ 7 v2 v9) σ n fun v10 σ n =>
 bindP (aLd σ (some 7) v2) fun v11 =>
 R (.ret v11) σ n) (fun v6 => R (.pan v6) σ n)
attribute [go_sem] kc_plain_CopyExpr1
noncomputable def sc_plain_CopyExpr : SCode := (Tryz.f15.body.bind (cmpC Tryz.prog Tryz.f15.ntmps [0, 1, 2])).getD .skip
def sh_plain_CopyExpr (a0 : AV) (σ : Hp) (n : Nat) (R : AEnd → Hp → Nat → Prop) : Prop :=
 bindS (hBox n a0) σ n fun v1 σ n =>
 bindS (hAlloc n [(.int .i64 0), (.int .i64 0), (.int .i64 0), (.string ⟨#[]⟩), (.string ⟨#[]⟩), (.string ⟨#[]⟩), (.slice none 0 0)]) σ n fun v2 σ n =>
 bindP (aFad 6 v1) fun v3 =>
 bindP (aLd σ none v3) fun v4 =>
 CALL Tryz.prog (.fn 14 []) [v4] σ n (kc_plain_CopyExpr1 v1 v2 R)
theorem se_plain_CopyExpr (a0 : AV) (σ : Hp) (n : Nat) (R : AEnd → Hp → Nat → Prop) : sh_plain_CopyExpr a0 σ n R = swp Tryz.prog sc_plain_CopyExpr (retQ [(.c 2 (some 7))] R) (entry [a0]) σ n := by kernel_rfl
theorem by_plain_CopyExpr {a0 : AV} {σ : Hp} {n : Nat} {R : AEnd → Hp → Nat → Prop} (h : sh_plain_CopyExpr a0 σ n R) : ConH Tryz.prog 15 [a0] σ n R := by
  rw [se_plain_CopyExpr] at h
  exact conH_of [(.c 2 (some 7))] (fn := Tryz.f15) rfl [0, 1, 2] (by kernel_rfl) (by kernel_rfl) (by kernel_rfl) (by kernel_rfl) h
def kc_plain_CopyExprs1 (s1 : List AV) (K1 : List AV → Hp → Nat → Prop) (v3 : AV) (R : AEnd → Hp → Nat → Prop) (r : AEnd) (σ : Hp) (n : Nat) : Prop :=
 onEnd r (fun v6 =>
 bindS (hBsl σ n 7 [(.int .i64 0), (.int .i64 0), (.int .i64 0), (.string ⟨#[]⟩), (.string ⟨#[]⟩), (.string ⟨#[]⟩), (.slice none 0 0)] 1 [(0, v6)]) σ n fun v8 σ n =>
 bindS (hApp σ n 7 96 (s1.getD 1 .any) v8) σ n fun v9 σ n =>
 bindP (semBin .add (s1.getD 2 .any) (.sc (.int .i64 1))) fun v10 =>
 K1 [v3, v9, v10] σ n) (fun v7 => R (.pan v7) σ n)
def lb_plain_CopyExprs2 (a0 : AV) (R : AEnd → Hp → Nat → Prop) (K1 : List AV → Hp → Nat → Prop) (s1 : List AV) (σ : Hp) (n : Nat) : Prop :=
 bindP (aLen false a0) fun v2 => bnd σ a0 →
 bindP (semBin .lss (s1.getD 2 .any) v2) fun v3 =>
 COND v3 (
 bindP (aIad 7 a0 (s1.getD 2 .any)) fun v4 =>
 bindP (aLd σ (some 7) v4) fun v5 =>
 CALL Tryz.prog (.fn 15 []) [v5] σ n (kc_plain_CopyExprs1 s1 K1 v3 R)) (
 R (.ret (s1.getD 1 .any)) σ n)
attribute [go_sem] kc_plain_CopyExprs1 lb_plain_CopyExprs2
noncomputable def sc_plain_CopyExprs : SCode := (Tryz.f14.body.bind (cmpC Tryz.prog Tryz.f14.ntmps [8, 0, 4, 3, 2])).getD .skip
def sh_plain_CopyExprs (a0 : AV) (σ : Hp) (n : Nat) (R : AEnd → Hp → Nat → Prop) : Prop :=
 LOOP (lb_plain_CopyExprs2 a0 R) [(.tp []), .em, (.sc (.int .i64 0))] σ n
theorem se_plain_CopyExprs (a0 : AV) (σ : Hp) (n : Nat) (R : AEnd → Hp → Nat → Prop) : sh_plain_CopyExprs a0 σ n R = swp Tryz.prog sc_plain_CopyExprs (retQ [(.t 2)] R) (entry [a0]) σ n := by kernel_rfl
theorem by_plain_CopyExprs {a0 : AV} {σ : Hp} {n : Nat} {R : AEnd → Hp → Nat → Prop} (h : sh_plain_CopyExprs a0 σ n R) : ConH Tryz.prog 14 [a0] σ n R := by
  rw [se_plain_CopyExprs] at h
  exact conH_of [(.t 2)] (fn := Tryz.f14) rfl [8, 0, 4, 3, 2] (by kernel_rfl) (by kernel_rfl) (by kernel_rfl) (by kernel_rfl) h
def kc_plain_SameExpr1 (Kg : AV → Hp → Nat → Prop) (R : AEnd → Hp → Nat → Prop) (r : AEnd) (σ : Hp) (n : Nat) : Prop :=
 onEnd r (fun v31 =>
 Kg v31 σ n) (fun v32 => R (.pan v32) σ n)
attribute [go_sem] kc_plain_SameExpr1
noncomputable def sc_plain_SameExpr : SCode := (Tryz.f37.body.bind (cmpC Tryz.prog Tryz.f37.ntmps [0, 1, 2, 3, 4])).getD .skip
def sh_plain_SameExpr (a0 a1 : AV) (σ : Hp) (n : Nat) (R : AEnd → Hp → Nat → Prop) : Prop :=
 bindS (hBox n a0) σ n fun v1 σ n =>
 bindS (hBox n a1) σ n fun v2 σ n =>
 bindP (aFad 0 v1) fun v3 =>
 bindP (aLd σ none v3) fun v4 =>
 bindP (aFad 0 v2) fun v5 =>
 bindP (aLd σ none v5) fun v6 =>
 bindP (semBin .eql v4 v6) fun v7 =>
 guardP v7 true (aFad 1 v1) fun v8 =>
 guardP v7 true (aLd σ (some 3) v8) fun v9 =>
 guardP v7 true (aFad 1 v2) fun v10 =>
 guardP v7 true (aLd σ (some 3) v10) fun v11 =>
 guardP v7 true (aEqs [0, 0, 2] false v9 v11) fun v12 =>
 bindP (aPick v7 v12 (.sc (.bool false))) fun v13 =>
 guardP v13 true (aFad 4 v1) fun v14 =>
 guardP v13 true (aLd σ none v14) fun v15 =>
 guardP v13 true (aFad 4 v2) fun v16 =>
 guardP v13 true (aLd σ none v16) fun v17 =>
 guardP v13 true (semBin .eql v15 v17) fun v18 =>
 bindP (aPick v13 v18 (.sc (.bool false))) fun v19 =>
 guardP v19 true (aFad 5 v1) fun v20 =>
 guardP v19 true (aLd σ none v20) fun v21 =>
 guardP v19 true (aFad 5 v2) fun v22 =>
 guardP v19 true (aLd σ none v22) fun v23 =>
 guardP v19 true (semBin .eql v21 v23) fun v24 =>
 bindP (aPick v19 v24 (.sc (.bool false))) fun v25 =>
 guardP v25 true (aFad 6 v1) fun v26 =>
 guardP v25 true (aLd σ none v26) fun v27 =>
 guardP v25 true (aFad 6 v2) fun v28 =>
 guardP v25 true (aLd σ none v28) fun v29 =>
 guardK v25 true (fun Kg => CALL Tryz.prog (.fn 36 []) [v27, v29] σ n (kc_plain_SameExpr1 Kg R)) σ n fun v30 σ n =>
 bindP (aPick v25 v30 (.sc (.bool false))) fun v33 =>
 R (.ret v33) σ n
theorem se_plain_SameExpr (a0 a1 : AV) (σ : Hp) (n : Nat) (R : AEnd → Hp → Nat → Prop) : sh_plain_SameExpr a0 a1 σ n R = swp Tryz.prog sc_plain_SameExpr (retQ [(.t 4)] R) (entry [a0, a1]) σ n := by kernel_rfl
theorem by_plain_SameExpr {a0 a1 : AV} {σ : Hp} {n : Nat} {R : AEnd → Hp → Nat → Prop} (h : sh_plain_SameExpr a0 a1 σ n R) : ConH Tryz.prog 37 [a0, a1] σ n R := by
  rw [se_plain_SameExpr] at h
  exact conH_of [(.t 4)] (fn := Tryz.f37) rfl [0, 1, 2, 3, 4] (by kernel_rfl) (by kernel_rfl) (by kernel_rfl) (by kernel_rfl) h
def kd_plain_SameExprs1 (v9 : AV) (v13 : AV) (n : Nat) (σ : Hp) (R : AEnd → Hp → Nat → Prop) (s4 : List AV) (K4 : List AV → Hp → Nat → Prop) (v6 : AV) (r : AEnd) (w15 : Wr) (d15 : List Nat) : Prop :=
 onEnd r (fun v15 =>
 bindP (aUn .not v15) fun v17 =>
 Apt (names []) (rdA v9) (names []) (rdA v13) ∧
 ∀ n_, n + 16 * 10 ≤ n_ → (fun n => (fun σ => COND v17 (
 R (.ret (.sc (.bool false))) σ n) (
 bindP (semBin .add (s4.getD 3 .any) (.sc (.int .i64 1))) fun v18 =>
 K4 [v6, v17, (s4.getD 2 .any), v18] σ n)) (applyW σ w15)) n_) (fun v16 => Apt (names []) (rdA v9) (names []) (rdA v13) ∧
 ∀ (fr_ : Regs) σ n, R (.pan v16) σ n)
def lb_plain_SameExprs2 (a0 : AV) (a1 : AV) (R : AEnd → Hp → Nat → Prop) (K4 : List AV → Hp → Nat → Prop) (s4 : List AV) (σ : Hp) (n : Nat) : Prop :=
 bindP (aLen false a0) fun v5 => bnd σ a0 →
 bindP (semBin .lss (s4.getD 3 .any) v5) fun v6 =>
 COND v6 (
 bindP (aIad 7 a0 (s4.getD 3 .any)) fun v9 =>
 bindP (aLd σ (some 7) v9) fun v10 =>
 bindP (aIad 7 a1 (s4.getD 3 .any)) fun v13 =>
 bindP (aLd σ (some 7) v13) fun v14 =>
 callD Tryz.prog (.fn 37 []) [v10, v14] σ (n + 16 * 8) (kd_plain_SameExprs1 v9 v13 n σ R s4 K4 v6)) (
 R (.ret (.sc (.bool true))) σ n)
attribute [go_sem] kd_plain_SameExprs1 lb_plain_SameExprs2
noncomputable def sc_plain_SameExprs : SCode := (Tryz.f36.body.bind (cmpC Tryz.prog Tryz.f36.ntmps [10, 14, 0, 1, 26, 5, 4])).getD .skip
def sh_plain_SameExprs (a0 a1 : AV) (σ : Hp) (n : Nat) (R : AEnd → Hp → Nat → Prop) : Prop :=
 bindP (aLen false a0) fun v1 => bnd σ a0 →
 bindP (aLen false a1) fun v2 => bnd σ a1 →
 bindP (semBin .neq v1 v2) fun v3 =>
 COND v3 (
 R (.ret (.sc (.bool false))) σ n) (
 LOOP (lb_plain_SameExprs2 a0 a1 R) [(.tp []), (.tp []), (.sc (.bool false)), (.sc (.int .i64 0))] σ n)
theorem se_plain_SameExprs (a0 a1 : AV) (σ : Hp) (n : Nat) (R : AEnd → Hp → Nat → Prop) : sh_plain_SameExprs a0 a1 σ n R = swp Tryz.prog sc_plain_SameExprs (retQ [(.t 4)] R) (entry [a0, a1]) σ n := by kernel_rfl
theorem by_plain_SameExprs {a0 a1 : AV} {σ : Hp} {n : Nat} {R : AEnd → Hp → Nat → Prop} (h : sh_plain_SameExprs a0 a1 σ n R) : ConH Tryz.prog 36 [a0, a1] σ n R := by
  rw [se_plain_SameExprs] at h
  exact conH_of [(.t 4)] (fn := Tryz.f36) rfl [10, 14, 0, 1, 26, 5, 4] (by kernel_rfl) (by kernel_rfl) (by kernel_rfl) (by kernel_rfl) h
def kc_ref04_CheckExpr1 (R : AEnd → Hp → Nat → Prop) (r : AEnd) (σ : Hp) (n : Nat) : Prop :=
 onEnd r (fun v3 =>
 bindP (aExt v3 0) fun v5 =>
 bindP (aExt v3 1) fun v6 =>
 R (.ret v6) σ n) (fun v4 => R (.pan v4) σ n)
attribute [go_sem] kc_ref04_CheckExpr1
noncomputable def sc_ref04_CheckExpr : SCode := (Tryz.f31.body.bind (cmpC Tryz.prog Tryz.f31.ntmps [0, 1, 4, 2])).getD .skip
def sh_ref04_CheckExpr (a0 : AV) (σ : Hp) (n : Nat) (R : AEnd → Hp → Nat → Prop) : Prop :=
 bindS (hBox n a0) σ n fun v1 σ n =>
 bindP (aLd σ (some 7) v1) fun v2 =>
 CALL Tryz.prog (.fn 65 []) [v2, (.sc (.int .i64 1)), (.sc (.int .i64 0))] σ n (kc_ref04_CheckExpr1 R)
theorem se_ref04_CheckExpr (a0 : AV) (σ : Hp) (n : Nat) (R : AEnd → Hp → Nat → Prop) : sh_ref04_CheckExpr a0 σ n R = swp Tryz.prog sc_ref04_CheckExpr (retQ [(.t 2)] R) (entry [a0]) σ n := by kernel_rfl
theorem by_ref04_CheckExpr {a0 : AV} {σ : Hp} {n : Nat} {R : AEnd → Hp → Nat → Prop} (h : sh_ref04_CheckExpr a0 σ n R) : ConH Tryz.prog 31 [a0] σ n R := by
  rw [se_ref04_CheckExpr] at h
  exact conH_of [(.t 2)] (fn := Tryz.f31) rfl [0, 1, 4, 2] (by kernel_rfl) (by kernel_rfl) (by kernel_rfl) (by kernel_rfl) h
noncomputable def sc_syntax_told : SCode := (Tryz.f62.body.bind (cmpC Tryz.prog Tryz.f62.ntmps [0, 5, 11, 1, 4])).getD .skip
def sh_syntax_told (a0 a1 : AV) (σ : Hp) (n : Nat) (R : AEnd → Hp → Nat → Prop) : Prop :=
 bindP (aTas 30 (.int .i64 0) a0) fun v1 =>
 bindP (aExt v1 0) fun v2 =>
 bindP (aExt v1 1) fun v3 =>
 COND v3 (
 bindP (aNck a1) fun v4 =>
 bindS (hSt σ 1 v4 v2) σ n fun v5 σ n =>
 R (.ret (.tp [])) σ n) (
 R (.ret (.tp [])) σ n)
theorem se_syntax_told (a0 a1 : AV) (σ : Hp) (n : Nat) (R : AEnd → Hp → Nat → Prop) : sh_syntax_told a0 a1 σ n R = swp Tryz.prog sc_syntax_told (retQ [] R) (entry [a0, a1]) σ n := by kernel_rfl
theorem by_syntax_told {a0 a1 : AV} {σ : Hp} {n : Nat} {R : AEnd → Hp → Nat → Prop} (h : sh_syntax_told a0 a1 σ n R) : ConH Tryz.prog 62 [a0, a1] σ n R := by
  rw [se_syntax_told] at h
  exact conH_of [] (fn := Tryz.f62) rfl [0, 5, 11, 1, 4] (by kernel_rfl) (by kernel_rfl) (by kernel_rfl) (by kernel_rfl) h
def kc_psyntax_walker_walk1 (s23 : List AV) (K23 : List AV → Hp → Nat → Prop) (v24 : AV) (v27 : AV) (R : AEnd → Hp → Nat → Prop) (r : AEnd) (σ : Hp) (n : Nat) : Prop :=
 onEnd r (fun v31 =>
 bindP (semBin .add (s23.getD 2 .any) (.sc (.int .i64 1))) fun v33 =>
 K23 [v24, v27, v33] σ n) (fun v32 => R (.pan v32) σ n)
def lb_psyntax_walker_walk2 (v22 : AV) (v21 : AV) (a2 : AV) (a0 : AV) (R : AEnd → Hp → Nat → Prop) (K23 : List AV → Hp → Nat → Prop) (s23 : List AV) (σ : Hp) (n : Nat) : Prop :=
 bindP (semBin .lss (s23.getD 2 .any) v22) fun v24 =>
 COND v24 (
 bindP (aIad 7 v21 (s23.getD 2 .any)) fun v25 =>
 bindP (aLd σ (some 7) v25) fun v26 =>
 bindS (hAlloc n [(.int .i64 0), (.int .i64 0), (.int .i64 0), (.string ⟨#[]⟩), (.string ⟨#[]⟩), (.string ⟨#[]⟩), (.slice none 0 0)]) σ n fun v27 σ n =>
 bindS (hSt σ 7 v27 v26) σ n fun v28 σ n =>
 bindP (aLd σ (some 7) v27) fun v29 =>
 bindP (semBin .add a2 (.sc (.int .i64 1))) fun v30 =>
 CALL Tryz.prog (.fn 63 []) [a0, v29, v30] σ n (kc_psyntax_walker_walk1 s23 K23 v24 v27 R)) (
 R (.ret (.tp [])) σ n)
def kc_psyntax_walker_walk3 (a0 : AV) (v1 : AV) (a2 : AV) (R : AEnd → Hp → Nat → Prop) (r : AEnd) (σ : Hp) (n : Nat) : Prop :=
 onEnd r (fun v13 =>
 bindP (aNck a0) fun v15 =>
 bindP (aLd σ none v15) fun v16 =>
 bindP (semBin .add v16 (.sc (.int .i64 1))) fun v17 =>
 bindP (aNck a0) fun v18 =>
 bindS (hSt σ 1 v18 v17) σ n fun v19 σ n =>
 bindP (aFad 6 v1) fun v20 =>
 bindP (aLd σ none v20) fun v21 =>
 bindP (aLen false v21) fun v22 => bnd σ v21 →
 LOOP (lb_psyntax_walker_walk2 v22 v21 a2 a0 R) [(.tp []), (.tp []), (.sc (.int .i64 0))] σ n) (fun v14 => R (.pan v14) σ n)
def kc_psyntax_walker_walk4 (a0 : AV) (v1 : AV) (a2 : AV) (R : AEnd → Hp → Nat → Prop) (r : AEnd) (σ : Hp) (n : Nat) : Prop :=
 onEnd r (fun v11 =>
 CALL Tryz.prog (.fn 82 []) [v11, (.sc (.int .i64 9))] σ n (kc_psyntax_walker_walk3 a0 v1 a2 R)) (fun v12 => R (.pan v12) σ n)
def kc_psyntax_walker_walk5 (v1 : AV) (a0 : AV) (a2 : AV) (R : AEnd → Hp → Nat → Prop) (r : AEnd) (σ : Hp) (n : Nat) : Prop :=
 onEnd r (fun v8 =>
 bindP (aLd σ (some 7) v1) fun v10 =>
 CALL Tryz.prog (.fn 83 []) [v10] σ n (kc_psyntax_walker_walk4 a0 v1 a2 R)) (fun v9 => R (.pan v9) σ n)
def kc_psyntax_walker_walk6 (a0 : AV) (v1 : AV) (a2 : AV) (R : AEnd → Hp → Nat → Prop) (r : AEnd) (σ : Hp) (n : Nat) : Prop :=
 onEnd r (fun v3 =>
 bindP (aNck a0) fun v5 =>
 bindP (aLd σ none v5) fun v6 =>
 bindP (semBin .lss v6 (.sc (.int .i64 64))) fun v7 =>
 CALL Tryz.prog (.fn 82 []) [v7, (.sc (.int .i64 3))] σ n (kc_psyntax_walker_walk5 v1 a0 a2 R)) (fun v4 => R (.pan v4) σ n)
attribute [go_sem] kc_psyntax_walker_walk1 lb_psyntax_walker_walk2 kc_psyntax_walker_walk3 kc_psyntax_walker_walk4 kc_psyntax_walker_walk5 kc_psyntax_walker_walk6
noncomputable def sc_psyntax_walker_walk : SCode := (Tryz.f63.body.bind (cmpC Tryz.prog Tryz.f63.ntmps [1, 4, 26, 28, 25, 0, 7, 2, 27])).getD .skip
def sh_psyntax_walker_walk (a0 a1 a2 : AV) (σ : Hp) (n : Nat) (R : AEnd → Hp → Nat → Prop) : Prop :=
 bindS (hBox n a1) σ n fun v1 σ n =>
 bindP (semBin .leq a2 (.sc (.int .i64 12))) fun v2 =>
 CALL Tryz.prog (.fn 82 []) [v2, (.sc (.int .i64 10))] σ n (kc_psyntax_walker_walk6 a0 v1 a2 R)
theorem se_psyntax_walker_walk (a0 a1 a2 : AV) (σ : Hp) (n : Nat) (R : AEnd → Hp → Nat → Prop) : sh_psyntax_walker_walk a0 a1 a2 σ n R = swp Tryz.prog sc_psyntax_walker_walk (retQ [] R) (entry [a0, a1, a2]) σ n := by kernel_rfl
theorem by_psyntax_walker_walk {a0 a1 a2 : AV} {σ : Hp} {n : Nat} {R : AEnd → Hp → Nat → Prop} (h : sh_psyntax_walker_walk a0 a1 a2 σ n R) : ConH Tryz.prog 63 [a0, a1, a2] σ n R := by
  rw [se_psyntax_walker_walk] at h
  exact conH_of [] (fn := Tryz.f63) rfl [1, 4, 26, 28, 25, 0, 7, 2, 27] (by kernel_rfl) (by kernel_rfl) (by kernel_rfl) (by kernel_rfl) h
def kc_ref04_walk1 (R : AEnd → Hp → Nat → Prop) (s9 : List AV) (K9 : List AV → Hp → Nat → Prop) (v13 : AV) (r : AEnd) (σ : Hp) (n : Nat) : Prop :=
 onEnd r (fun v19 =>
 bindP (aExt v19 0) fun v21 =>
 bindP (aExt v19 1) fun v22 =>
 bindP (semBin .neq v22 (.sc (.int .i64 0))) fun v23 =>
 COND v23 (
 R (.ret (.tp [v21, v22])) σ n) (
 bindP (semBin .add (s9.getD 7 .any) (.sc (.int .i64 1))) fun v24 =>
 K9 [v13, v21, v22, v23, (s9.getD 4 .any), (s9.getD 5 .any), v21, v24] σ n)) (fun v20 => R (.pan v20) σ n)
def lb_ref04_walk2 (v1 : AV) (a1 : AV) (R : AEnd → Hp → Nat → Prop) (K9 : List AV → Hp → Nat → Prop) (s9 : List AV) (σ : Hp) (n : Nat) : Prop :=
 bindP (aFad 6 v1) fun v10 =>
 bindP (aLd σ none v10) fun v11 =>
 bindP (aLen false v11) fun v12 => bnd σ v11 →
 bindP (semBin .lss (s9.getD 7 .any) v12) fun v13 =>
 COND v13 (
 bindP (aFad 6 v1) fun v14 =>
 bindP (aLd σ none v14) fun v15 =>
 bindP (aIad 7 v15 (s9.getD 7 .any)) fun v16 =>
 bindP (aLd σ (some 7) v16) fun v17 =>
 bindP (semBin .add a1 (.sc (.int .i64 1))) fun v18 =>
 CALL Tryz.prog (.fn 65 []) [v17, v18, (s9.getD 6 .any)] σ n (kc_ref04_walk1 R s9 K9 v13)) (
 R (.ret (.tp [(s9.getD 6 .any), (.sc (.int .i64 0))])) σ n)
def kc_ref04_walk3 (R : AEnd → Hp → Nat → Prop) (a2 : AV) (v1 : AV) (a1 : AV) (r : AEnd) (σ : Hp) (n : Nat) : Prop :=
 onEnd r (fun v5 =>
 bindP (aUn .not v5) fun v7 =>
 COND v7 (
 R (.ret (.tp [a2, (.sc (.int .i64 9))])) σ n) (
 bindP (semBin .add a2 (.sc (.int .i64 1))) fun v8 =>
 LOOP (lb_ref04_walk2 v1 a1 R) [(.tp []), (.tp []), (.tp []), (.tp []), (.sc (.int .i64 0)), (.sc (.int .i64 0)), v8, (.sc (.int .i64 0))] σ n)) (fun v6 => R (.pan v6) σ n)
attribute [go_sem] kc_ref04_walk1 lb_ref04_walk2 kc_ref04_walk3
noncomputable def sc_ref04_walk : SCode := (Tryz.f65.body.bind (cmpC Tryz.prog Tryz.f65.ntmps [0, 11, 15, 19, 30, 3, 1, 46, 10, 9, 8, 2, 6, 7])).getD .skip
def sh_ref04_walk (a0 a1 a2 : AV) (σ : Hp) (n : Nat) (R : AEnd → Hp → Nat → Prop) : Prop :=
 bindS (hBox n a0) σ n fun v1 σ n =>
 bindP (semBin .gtr a1 (.sc (.int .i64 12))) fun v2 =>
 COND v2 (
 R (.ret (.tp [a2, (.sc (.int .i64 10))])) σ n) (
 bindP (semBin .geq a2 (.sc (.int .i64 64))) fun v3 =>
 COND v3 (
 R (.ret (.tp [a2, (.sc (.int .i64 3))])) σ n) (
 bindP (aLd σ (some 7) v1) fun v4 =>
 CALL Tryz.prog (.fn 84 []) [v4] σ n (kc_ref04_walk3 R a2 v1 a1)))
theorem se_ref04_walk (a0 a1 a2 : AV) (σ : Hp) (n : Nat) (R : AEnd → Hp → Nat → Prop) : sh_ref04_walk a0 a1 a2 σ n R = swp Tryz.prog sc_ref04_walk (retQ [(.t 6), (.t 7)] R) (entry [a0, a1, a2]) σ n := by kernel_rfl
theorem by_ref04_walk {a0 a1 a2 : AV} {σ : Hp} {n : Nat} {R : AEnd → Hp → Nat → Prop} (h : sh_ref04_walk a0 a1 a2 σ n R) : ConH Tryz.prog 65 [a0, a1, a2] σ n R := by
  rw [se_ref04_walk] at h
  exact conH_of [(.t 6), (.t 7)] (fn := Tryz.f65) rfl [0, 11, 15, 19, 30, 3, 1, 46, 10, 9, 8, 2, 6, 7] (by kernel_rfl) (by kernel_rfl) (by kernel_rfl) (by kernel_rfl) h
def kc_slices_IndexFunc_lapi_Column_api_Column1 (R : AEnd → Hp → Nat → Prop) (s2 : List AV) (K2 : List AV → Hp → Nat → Prop) (v3 : AV) (r : AEnd) (σ : Hp) (n : Nat) : Prop :=
 onEnd r (fun v6 =>
 COND v6 (
 R (.ret (s2.getD 4 .any)) σ n) (
 bindP (semBin .add (s2.getD 4 .any) (.sc (.int .i64 1))) fun v8 =>
 K2 [v3, (s2.getD 4 .any), v6, (s2.getD 3 .any), v8] σ n)) (fun v7 => R (.pan v7) σ n)
def lb_slices_IndexFunc_lapi_Column_api_Column2 (v1 : AV) (a0 : AV) (a1 : AV) (R : AEnd → Hp → Nat → Prop) (K2 : List AV → Hp → Nat → Prop) (s2 : List AV) (σ : Hp) (n : Nat) : Prop :=
 bindP (semBin .lss (s2.getD 4 .any) v1) fun v3 =>
 COND v3 (
 bindP (aIad 3 a0 (s2.getD 4 .any)) fun v4 =>
 bindP (aLd σ (some 3) v4) fun v5 =>
 CALL Tryz.prog a1 [v5] σ n (kc_slices_IndexFunc_lapi_Column_api_Column1 R s2 K2 v3)) (
 R (.ret (.sc (.int .i64 (-1)))) σ n)
attribute [go_sem] kc_slices_IndexFunc_lapi_Column_api_Column1 lb_slices_IndexFunc_lapi_Column_api_Column2
noncomputable def sc_slices_IndexFunc_lapi_Column_api_Column : SCode := (Tryz.f78.body.bind (cmpC Tryz.prog Tryz.f78.ntmps [7, 9, 1, 0, 16, 5, 8, 4])).getD .skip
def sh_slices_IndexFunc_lapi_Column_api_Column (a0 a1 : AV) (σ : Hp) (n : Nat) (R : AEnd → Hp → Nat → Prop) : Prop :=
 bindP (aLen false a0) fun v1 => bnd σ a0 →
 LOOP (lb_slices_IndexFunc_lapi_Column_api_Column2 v1 a0 a1 R) [(.tp []), (.tp []), (.tp []), (.sc (.int .i64 0)), (.sc (.int .i64 0))] σ n
theorem se_slices_IndexFunc_lapi_Column_api_Column (a0 a1 : AV) (σ : Hp) (n : Nat) (R : AEnd → Hp → Nat → Prop) : sh_slices_IndexFunc_lapi_Column_api_Column a0 a1 σ n R = swp Tryz.prog sc_slices_IndexFunc_lapi_Column_api_Column (retQ [(.t 4)] R) (entry [a0, a1]) σ n := by kernel_rfl
theorem by_slices_IndexFunc_lapi_Column_api_Column {a0 a1 : AV} {σ : Hp} {n : Nat} {R : AEnd → Hp → Nat → Prop} (h : sh_slices_IndexFunc_lapi_Column_api_Column a0 a1 σ n R) : ConH Tryz.prog 78 [a0, a1] σ n R := by
  rw [se_slices_IndexFunc_lapi_Column_api_Column] at h
  exact conH_of [(.t 4)] (fn := Tryz.f78) rfl [7, 9, 1, 0, 16, 5, 8, 4] (by kernel_rfl) (by kernel_rfl) (by kernel_rfl) (by kernel_rfl) h
def jk_value_Check1 (R : AEnd → Hp → Nat → Prop) (s2 : List AV) (σ : Hp) (n : Nat) : Prop :=
 bindP (aUn .not (s2.getD 5 .any)) fun v3 =>
 COND v3 (
 R (.ret (.sc (.int .i64 9))) σ n) (
 R (.ret (.sc (.int .i64 0))) σ n)
attribute [go_sem] jk_value_Check1
noncomputable def sc_value_Check : SCode := (Tryz.f90.body.bind (cmpC Tryz.prog Tryz.f90.ntmps [0, 6, 11, 16, 5, 27, 1, 3, 39, 2])).getD .skip
def sh_value_Check (a0 : AV) (σ : Hp) (n : Nat) (R : AEnd → Hp → Nat → Prop) : Prop :=
 bindS (hBox n a0) σ n fun v1 σ n =>
 JOIN (jk_value_Check1 R) fun K2 =>
 bindP (aFad 0 v1) fun v4 =>
 bindP (aLd σ none v4) fun v5 =>
 bindP (semBin .eql v5 (.sc (.int .i64 0))) fun v6 =>
 COND v6 (
 bindP (aLd σ (some 3) v1) fun v7 =>
 bindP (aBuild [(.int .i64 0), (.int .i64 0), (.string ⟨#[]⟩)] []) fun v8 =>
 bindP (aEqs [0, 0, 2] false v7 v8) fun v9 =>
 K2 [v5, v6, (.tp []), (.tp []), (.tp []), v9] σ n) (
 bindP (semBin .eql v5 (.sc (.int .i64 1))) fun v10 =>
 COND v10 (
 bindP (aFad 2 v1) fun v11 =>
 bindP (aLd σ none v11) fun v12 =>
 bindP (semBin .eql v12 (.s [])) fun v13 =>
 K2 [v5, v6, v10, (.tp []), (.tp []), v13] σ n) (
 bindP (semBin .eql v5 (.sc (.int .i64 2))) fun v14 =>
 COND v14 (
 bindP (aFad 2 v1) fun v15 =>
 bindP (aLd σ none v15) fun v16 =>
 bindP (semBin .eql v16 (.s [])) fun v17 =>
 guardP v17 true (aFad 1 v1) fun v18 =>
 guardP v17 true (aLd σ none v18) fun v19 =>
 guardP v17 true (aCvi .u64 v19) fun v20 =>
 guardP v17 true (semBin .leq v20 (.sc (.int .u64 1))) fun v21 =>
 bindP (aPick v17 v21 (.sc (.bool false))) fun v22 =>
 K2 [v5, v6, v10, v14, (.tp []), v22] σ n) (
 bindP (semBin .eql v5 (.sc (.int .i64 3))) fun v23 =>
 COND v23 (
 bindP (aFad 1 v1) fun v24 =>
 bindP (aLd σ none v24) fun v25 =>
 bindP (semBin .eql v25 (.sc (.int .i64 0))) fun v26 =>
 guardP v26 true (aFad 2 v1) fun v27 =>
 guardP v26 true (aLd σ none v27) fun v28 =>
 guardP v26 true (aLen true v28) fun v29 =>
 guardP v26 true (semBin .leq v29 (.sc (.int .i64 64))) fun v30 =>
 bindP (aPick v26 v30 (.sc (.bool false))) fun v31 =>
 K2 [v5, v6, v10, v14, v23, v31] σ n) (
 K2 [v5, v6, v10, v14, v23, (.sc (.bool false))] σ n))))
theorem se_value_Check (a0 : AV) (σ : Hp) (n : Nat) (R : AEnd → Hp → Nat → Prop) : sh_value_Check a0 σ n R = swp Tryz.prog sc_value_Check (retQ [(.t 2)] R) (entry [a0]) σ n := by kernel_rfl
theorem by_value_Check {a0 : AV} {σ : Hp} {n : Nat} {R : AEnd → Hp → Nat → Prop} (h : sh_value_Check a0 σ n R) : ConH Tryz.prog 90 [a0] σ n R := by
  rw [se_value_Check] at h
  exact conH_of [(.t 2)] (fn := Tryz.f90) rfl [0, 6, 11, 16, 5, 27, 1, 3, 39, 2] (by kernel_rfl) (by kernel_rfl) (by kernel_rfl) (by kernel_rfl) h
noncomputable def sc_syntax_need : SCode := (Tryz.f82.body.bind (cmpC Tryz.prog Tryz.f82.ntmps [0, 5, 1])).getD .skip
def sh_syntax_need (a0 a1 : AV) (σ : Hp) (n : Nat) (R : AEnd → Hp → Nat → Prop) : Prop :=
 bindP (aUn .not a0) fun v1 =>
 COND v1 (
 bindP (aMki 30 a1) fun v2 =>
 PAN v2 fun v3 => R (.pan v3) σ n) (
 R (.ret (.tp [])) σ n)
theorem se_syntax_need (a0 a1 : AV) (σ : Hp) (n : Nat) (R : AEnd → Hp → Nat → Prop) : sh_syntax_need a0 a1 σ n R = swp Tryz.prog sc_syntax_need (retQ [] R) (entry [a0, a1]) σ n := by kernel_rfl
theorem by_syntax_need {a0 a1 : AV} {σ : Hp} {n : Nat} {R : AEnd → Hp → Nat → Prop} (h : sh_syntax_need a0 a1 σ n R) : ConH Tryz.prog 82 [a0, a1] σ n R := by
  rw [se_syntax_need] at h
  exact conH_of [] (fn := Tryz.f82) rfl [0, 5, 1] (by kernel_rfl) (by kernel_rfl) (by kernel_rfl) (by kernel_rfl) h
def kc_syntax_part1 (Kg : AV → Hp → Nat → Prop) (R : AEnd → Hp → Nat → Prop) (r : AEnd) (σ : Hp) (n : Nat) : Prop :=
 onEnd r (fun v27 =>
 Kg v27 σ n) (fun v28 => R (.pan v28) σ n)
def kc_syntax_part2 (Kg : AV → Hp → Nat → Prop) (R : AEnd → Hp → Nat → Prop) (r : AEnd) (σ : Hp) (n : Nat) : Prop :=
 onEnd r (fun v50 =>
 Kg v50 σ n) (fun v51 => R (.pan v51) σ n)
def kc_syntax_part3 (Kg : AV → Hp → Nat → Prop) (R : AEnd → Hp → Nat → Prop) (r : AEnd) (σ : Hp) (n : Nat) : Prop :=
 onEnd r (fun v60 =>
 Kg v60 σ n) (fun v61 => R (.pan v61) σ n)
def kc_syntax_part4 (v1 : AV) (R : AEnd → Hp → Nat → Prop) (r : AEnd) (σ : Hp) (n : Nat) : Prop :=
 onEnd r (fun v4 =>
 bindP (aExt v4 0) fun v6 =>
 bindP (aExt v4 1) fun v7 =>
 bindP (aUn .not v7) fun v8 =>
 guardP v8 false (some v6) fun v9 =>
 guardP v8 false (aFad 6 v1) fun v10 =>
 guardP v8 false (aLd σ none v10) fun v11 =>
 guardP v8 false (aLen false v11) fun v12 =>
 guardP v8 false (semBin .neq v9 v12) fun v13 =>
 bindP (aPick v8 (.sc (.bool true)) v13) fun v14 =>
 COND v14 (
 R (.ret (.sc (.bool false))) σ n) (
 bindP (aFad 0 v1) fun v15 =>
 bindP (aLd σ none v15) fun v16 =>
 bindP (semBin .eql v16 (.sc (.int .i64 0))) fun v17 =>
 COND v17 (
 bindP (aFad 4 v1) fun v18 =>
 bindP (aLd σ none v18) fun v19 =>
 bindP (aFad 5 v1) fun v20 =>
 bindP (aLd σ none v20) fun v21 =>
 bindP (semBin .add v19 v21) fun v22 =>
 bindP (semBin .eql v22 (.s [])) fun v23 =>
 guardP v23 true (aFad 1 v1) fun v24 =>
 guardP v23 true (aLd σ (some 3) v24) fun v25 =>
 guardK v23 true (fun Kg => CALL Tryz.prog (.fn 90 []) [v25] σ n (kc_syntax_part1 Kg R)) σ n fun v26 σ n =>
 guardP v23 true (semBin .eql v26 (.sc (.int .i64 0))) fun v29 =>
 bindP (aPick v23 v29 (.sc (.bool false))) fun v30 =>
 guardP v30 true (aFad 1 v1) fun v31 =>
 guardP v30 true (aFad 0 v31) fun v32 =>
 guardP v30 true (aLd σ none v32) fun v33 =>
 guardP v30 true (semBin .neq v33 (.sc (.int .i64 1))) fun v34 =>
 guardP v30 true (some v34) fun v35 =>
 guardP v35 false (aFad 1 v1) fun v36 =>
 guardP v35 false (aFad 1 v36) fun v37 =>
 guardP v35 false (aLd σ none v37) fun v38 =>
 guardP v35 false (semBin .geq v38 (.sc (.int .i64 0))) fun v39 =>
 guardP v30 true (aPick v35 (.sc (.bool true)) v39) fun v40 =>
 bindP (aPick v30 v40 (.sc (.bool false))) fun v41 =>
 R (.ret v41) σ n) (
 bindP (semBin .eql v16 (.sc (.int .i64 1))) fun v42 =>
 COND v42 (
 bindP (aFad 1 v1) fun v43 =>
 bindP (aLd σ (some 3) v43) fun v44 =>
 bindP (aBuild [(.int .i64 0), (.int .i64 0), (.string ⟨#[]⟩)] []) fun v45 =>
 bindP (aEqs [0, 0, 2] false v44 v45) fun v46 =>
 guardP v46 true (aFad 5 v1) fun v47 =>
 guardP v46 true (aLd σ none v47) fun v48 =>
 guardK v46 true (fun Kg => CALL Tryz.prog (.fn 10 []) [v48] σ n (kc_syntax_part2 Kg R)) σ n fun v49 σ n =>
 bindP (aPick v46 v49 (.sc (.bool false))) fun v52 =>
 guardP v52 true (aFad 4 v1) fun v53 =>
 guardP v52 true (aLd σ none v53) fun v54 =>
 guardP v52 true (semBin .eql v54 (.s [])) fun v55 =>
 guardP v52 true (some v55) fun v56 =>
 guardP v56 false (aFad 4 v1) fun v57 =>
 guardP v56 false (aLd σ none v57) fun v58 =>
 guardK v56 false (fun Kg => CALL Tryz.prog (.fn 10 []) [v58] σ n (kc_syntax_part3 Kg R)) σ n fun v59 σ n =>
 guardP v52 true (aPick v56 (.sc (.bool true)) v59) fun v62 =>
 bindP (aPick v52 v62 (.sc (.bool false))) fun v63 =>
 R (.ret v63) σ n) (
 bindP (aFad 1 v1) fun v64 =>
 bindP (aLd σ (some 3) v64) fun v65 =>
 bindP (aBuild [(.int .i64 0), (.int .i64 0), (.string ⟨#[]⟩)] []) fun v66 =>
 bindP (aEqs [0, 0, 2] false v65 v66) fun v67 =>
 guardP v67 true (aFad 4 v1) fun v68 =>
 guardP v67 true (aLd σ none v68) fun v69 =>
 guardP v67 true (aFad 5 v1) fun v70 =>
 guardP v67 true (aLd σ none v70) fun v71 =>
 guardP v67 true (semBin .add v69 v71) fun v72 =>
 guardP v67 true (semBin .eql v72 (.s [])) fun v73 =>
 bindP (aPick v67 v73 (.sc (.bool false))) fun v74 =>
 R (.ret v74) σ n)))) (fun v5 => R (.pan v5) σ n)
attribute [go_sem] kc_syntax_part1 kc_syntax_part2 kc_syntax_part3 kc_syntax_part4
noncomputable def sc_syntax_part : SCode := (Tryz.f83.body.bind (cmpC Tryz.prog Tryz.f83.ntmps [0, 4, 3, 19, 22, 21, 48, 1, 2])).getD .skip
def sh_syntax_part (a0 : AV) (σ : Hp) (n : Nat) (R : AEnd → Hp → Nat → Prop) : Prop :=
 bindS (hBox n a0) σ n fun v1 σ n =>
 bindP (aFad 0 v1) fun v2 =>
 bindP (aLd σ none v2) fun v3 =>
 CALL Tryz.prog (.fn 89 []) [v3] σ n (kc_syntax_part4 v1 R)
theorem se_syntax_part (a0 : AV) (σ : Hp) (n : Nat) (R : AEnd → Hp → Nat → Prop) : sh_syntax_part a0 σ n R = swp Tryz.prog sc_syntax_part (retQ [(.t 2)] R) (entry [a0]) σ n := by kernel_rfl
theorem by_syntax_part {a0 : AV} {σ : Hp} {n : Nat} {R : AEnd → Hp → Nat → Prop} (h : sh_syntax_part a0 σ n R) : ConH Tryz.prog 83 [a0] σ n R := by
  rw [se_syntax_part] at h
  exact conH_of [(.t 2)] (fn := Tryz.f83) rfl [0, 4, 3, 19, 22, 21, 48, 1, 2] (by kernel_rfl) (by kernel_rfl) (by kernel_rfl) (by kernel_rfl) h
def kc_ref04_part1 (v1 : AV) (R : AEnd → Hp → Nat → Prop) (r : AEnd) (σ : Hp) (n : Nat) : Prop :=
 onEnd r (fun v19 =>
 bindP (semBin .eql v19 (.sc (.int .i64 0))) fun v21 =>
 guardP v21 true (aFad 1 v1) fun v22 =>
 guardP v21 true (aFad 0 v22) fun v23 =>
 guardP v21 true (aLd σ none v23) fun v24 =>
 guardP v21 true (semBin .eql v24 (.sc (.int .i64 1))) fun v25 =>
 guardP v21 true (some v25) fun v26 =>
 guardP v26 true (aFad 1 v1) fun v27 =>
 guardP v26 true (aFad 1 v27) fun v28 =>
 guardP v26 true (aLd σ none v28) fun v29 =>
 guardP v26 true (semBin .lss v29 (.sc (.int .i64 0))) fun v30 =>
 guardP v21 true (aPick v26 v30 (.sc (.bool false))) fun v31 =>
 guardP v21 true (aUn .not v31) fun v32 =>
 bindP (aPick v21 v32 (.sc (.bool false))) fun v33 =>
 guardP v33 true (aFad 4 v1) fun v34 =>
 guardP v33 true (aLd σ none v34) fun v35 =>
 guardP v33 true (semBin .eql v35 (.s [])) fun v36 =>
 bindP (aPick v33 v36 (.sc (.bool false))) fun v37 =>
 guardP v37 true (aFad 5 v1) fun v38 =>
 guardP v37 true (aLd σ none v38) fun v39 =>
 guardP v37 true (semBin .eql v39 (.s [])) fun v40 =>
 bindP (aPick v37 v40 (.sc (.bool false))) fun v41 =>
 R (.ret v41) σ n) (fun v20 => R (.pan v20) σ n)
def kc_ref04_part2 (Kg : AV → Hp → Nat → Prop) (R : AEnd → Hp → Nat → Prop) (r : AEnd) (σ : Hp) (n : Nat) : Prop :=
 onEnd r (fun v46 =>
 Kg v46 σ n) (fun v47 => R (.pan v47) σ n)
def kc_ref04_part3 (Kg : AV → Hp → Nat → Prop) (R : AEnd → Hp → Nat → Prop) (r : AEnd) (σ : Hp) (n : Nat) : Prop :=
 onEnd r (fun v56 =>
 Kg v56 σ n) (fun v57 => R (.pan v57) σ n)
def kd_ref04_part4 (v1 : AV) (σ : Hp) (v2 : AV) (n : Nat) (R : AEnd → Hp → Nat → Prop) (r : AEnd) (w4 : Wr) (d4 : List Nat) : Prop :=
 onEnd r (fun v4 =>
 bindP (aFad 6 v1) fun v6 =>
 bindP (aLd σ none v6) fun v7 =>
 bindP (aLen false v7) fun v8 =>
 bindP (semBin .neq v4 v8) fun v9 =>
 Apt (names []) (rdA v2) (names []) (rdA v6) ∧
 Apt (names w4) d4 (names []) (rdA v6) ∧
 ∀ n_, n + 16 * 7 ≤ n_ → (fun n => (fun σ => COND v9 (
 R (.ret (.sc (.bool false))) σ n) (
 bindP (aFad 1 v1) fun v10 =>
 bindP (aLd σ (some 3) v10) fun v11 =>
 bindP (aBuild [(.int .i64 0), (.int .i64 0), (.string ⟨#[]⟩)] []) fun v12 =>
 bindP (aEqs [0, 0, 2] false v11 v12) fun v13 =>
 bindP (aFad 0 v1) fun v14 =>
 bindP (aLd σ none v14) fun v15 =>
 bindP (semBin .eql v15 (.sc (.int .i64 0))) fun v16 =>
 COND v16 (
 bindP (aFad 1 v1) fun v17 =>
 bindP (aLd σ (some 3) v17) fun v18 =>
 CALL Tryz.prog (.fn 92 []) [v18] σ n (kc_ref04_part1 v1 R)) (
 bindP (semBin .eql v15 (.sc (.int .i64 1))) fun v42 =>
 COND v42 (
 guardP v13 true (aFad 5 v1) fun v43 =>
 guardP v13 true (aLd σ none v43) fun v44 =>
 guardK v13 true (fun Kg => CALL Tryz.prog (.fn 11 []) [v44] σ n (kc_ref04_part2 Kg R)) σ n fun v45 σ n =>
 bindP (aPick v13 v45 (.sc (.bool false))) fun v48 =>
 guardP v48 true (aFad 4 v1) fun v49 =>
 guardP v48 true (aLd σ none v49) fun v50 =>
 guardP v48 true (semBin .eql v50 (.s [])) fun v51 =>
 guardP v48 true (some v51) fun v52 =>
 guardP v52 false (aFad 4 v1) fun v53 =>
 guardP v52 false (aLd σ none v53) fun v54 =>
 guardK v52 false (fun Kg => CALL Tryz.prog (.fn 11 []) [v54] σ n (kc_ref04_part3 Kg R)) σ n fun v55 σ n =>
 guardP v48 true (aPick v52 (.sc (.bool true)) v55) fun v58 =>
 bindP (aPick v48 v58 (.sc (.bool false))) fun v59 =>
 R (.ret v59) σ n) (
 guardP v13 true (aFad 4 v1) fun v60 =>
 guardP v13 true (aLd σ none v60) fun v61 =>
 guardP v13 true (semBin .eql v61 (.s [])) fun v62 =>
 bindP (aPick v13 v62 (.sc (.bool false))) fun v63 =>
 guardP v63 true (aFad 5 v1) fun v64 =>
 guardP v63 true (aLd σ none v64) fun v65 =>
 guardP v63 true (semBin .eql v65 (.s [])) fun v66 =>
 bindP (aPick v63 v66 (.sc (.bool false))) fun v67 =>
 R (.ret v67) σ n)))) (applyW σ w4)) n_) (fun v5 => bindP (aFad 6 v1) fun v68 =>
 bindP (aLd σ none v68) fun v69 =>
 bindP (aLen false v69) fun v70 =>
 Apt (names []) (rdA v2) (names []) (rdA v68) ∧
 Apt (names []) d4 (names []) (rdA v68) ∧
 ∀ (fr_ : Regs) σ n, R (.pan v5) σ n)
attribute [go_sem] kc_ref04_part1 kc_ref04_part2 kc_ref04_part3 kd_ref04_part4
noncomputable def sc_ref04_part : SCode := (Tryz.f84.body.bind (cmpC Tryz.prog Tryz.f84.ntmps [0, 10, 17, 16, 46, 3, 1, 2])).getD .skip
def sh_ref04_part (a0 : AV) (σ : Hp) (n : Nat) (R : AEnd → Hp → Nat → Prop) : Prop :=
 bindS (hBox n a0) σ n fun v1 σ n =>
 bindP (aFad 0 v1) fun v2 =>
 bindP (aLd σ none v2) fun v3 =>
 callD Tryz.prog (.fn 91 []) [v3] σ (n + 16 * 2) (kd_ref04_part4 v1 σ v2 n R)
theorem se_ref04_part (a0 : AV) (σ : Hp) (n : Nat) (R : AEnd → Hp → Nat → Prop) : sh_ref04_part a0 σ n R = swp Tryz.prog sc_ref04_part (retQ [(.t 2)] R) (entry [a0]) σ n := by kernel_rfl
theorem by_ref04_part {a0 : AV} {σ : Hp} {n : Nat} {R : AEnd → Hp → Nat → Prop} (h : sh_ref04_part a0 σ n R) : ConH Tryz.prog 84 [a0] σ n R := by
  rw [se_ref04_part] at h
  exact conH_of [(.t 2)] (fn := Tryz.f84) rfl [0, 10, 17, 16, 46, 3, 1, 2] (by kernel_rfl) (by kernel_rfl) (by kernel_rfl) (by kernel_rfl) h
def kc_ref04_Name1 (Kg : AV → Hp → Nat → Prop) (R : AEnd → Hp → Nat → Prop) (r : AEnd) (σ : Hp) (n : Nat) : Prop :=
 onEnd r (fun v18 =>
 Kg v18 σ n) (fun v19 => R (.pan v19) σ n)
def lb_ref04_Name2 (a0 : AV) (R : AEnd → Hp → Nat → Prop) (K21 : List AV → Hp → Nat → Prop) (s21 : List AV) (σ : Hp) (n : Nat) : Prop :=
 bindP (aLen true a0) fun v22 => bnd σ a0 →
 bindP (semBin .lss (s21.getD 4 .any) v22) fun v23 =>
 COND v23 (
 bindP (aIstr a0 (s21.getD 4 .any)) fun v24 =>
 bindP (semBin .geq v24 (.sc (.int .u8 97))) fun v25 =>
 guardP v25 true (some v24) fun v26 =>
 guardP v25 true (semBin .leq v26 (.sc (.int .u8 122))) fun v27 =>
 bindP (aPick v25 v27 (.sc (.bool false))) fun v28 =>
 guardP v28 false (some v24) fun v29 =>
 guardP v28 false (semBin .geq v29 (.sc (.int .u8 48))) fun v30 =>
 guardP v28 false (some v30) fun v31 =>
 guardP v31 true (some v24) fun v32 =>
 guardP v31 true (semBin .leq v32 (.sc (.int .u8 57))) fun v33 =>
 guardP v28 false (aPick v31 v33 (.sc (.bool false))) fun v34 =>
 bindP (aPick v28 (.sc (.bool true)) v34) fun v35 =>
 guardP v35 false (some v24) fun v36 =>
 guardP v35 false (semBin .eql v36 (.sc (.int .u8 95))) fun v37 =>
 bindP (aPick v35 (.sc (.bool true)) v37) fun v38 =>
 bindP (aUn .not v38) fun v39 =>
 COND v39 (
 R (.ret (.sc (.bool false))) σ n) (
 bindP (semBin .add (s21.getD 4 .any) (.sc (.int .i64 1))) fun v40 =>
 K21 [v23, v24, v39, (s21.getD 3 .any), v40] σ n)) (
 R (.ret (.sc (.bool true))) σ n)
attribute [go_sem] kc_ref04_Name1 lb_ref04_Name2
noncomputable def sc_ref04_Name : SCode := (Tryz.f11.body.bind (cmpC Tryz.prog Tryz.f11.ntmps [26, 30, 0, 4, 54, 3, 2])).getD .skip
def sh_ref04_Name (a0 : AV) (σ : Hp) (n : Nat) (R : AEnd → Hp → Nat → Prop) : Prop :=
 bindP (aLen true a0) fun v1 => bnd σ a0 →
 bindP (semBin .lss v1 (.sc (.int .i64 1))) fun v2 =>
 guardP v2 false (some a0) fun v3 =>
 guardP v2 false (aLen true v3) fun v4 =>
 guardP v2 false (semBin .gtr v4 (.sc (.int .i64 16))) fun v5 =>
 bindP (aPick v2 (.sc (.bool true)) v5) fun v6 =>
 guardP v6 false (some a0) fun v7 =>
 guardP v6 false (aIstr v7 (.sc (.int .i64 0))) fun v8 =>
 guardP v6 false (semBin .geq v8 (.sc (.int .u8 48))) fun v9 =>
 guardP v6 false (some v9) fun v10 =>
 guardP v10 true (some a0) fun v11 =>
 guardP v10 true (aIstr v11 (.sc (.int .i64 0))) fun v12 =>
 guardP v10 true (semBin .leq v12 (.sc (.int .u8 57))) fun v13 =>
 guardP v6 false (aPick v10 v13 (.sc (.bool false))) fun v14 =>
 bindP (aPick v6 (.sc (.bool true)) v14) fun v15 =>
 guardP v15 false (some a0) fun v16 =>
 guardK v15 false (fun Kg => CALL Tryz.prog (.fn 35 []) [v16] σ n (kc_ref04_Name1 Kg R)) σ n fun v17 σ n =>
 bindP (aPick v15 (.sc (.bool true)) v17) fun v20 =>
 COND v20 (
 R (.ret (.sc (.bool false))) σ n) (
 LOOP (lb_ref04_Name2 a0 R) [(.tp []), (.tp []), (.tp []), (.sc (.bool false)), (.sc (.int .i64 0))] σ n)
theorem se_ref04_Name (a0 : AV) (σ : Hp) (n : Nat) (R : AEnd → Hp → Nat → Prop) : sh_ref04_Name a0 σ n R = swp Tryz.prog sc_ref04_Name (retQ [(.t 2)] R) (entry [a0]) σ n := by kernel_rfl
theorem by_ref04_Name {a0 : AV} {σ : Hp} {n : Nat} {R : AEnd → Hp → Nat → Prop} (h : sh_ref04_Name a0 σ n R) : ConH Tryz.prog 11 [a0] σ n R := by
  rw [se_ref04_Name] at h
  exact conH_of [(.t 2)] (fn := Tryz.f11) rfl [26, 30, 0, 4, 54, 3, 2] (by kernel_rfl) (by kernel_rfl) (by kernel_rfl) (by kernel_rfl) h
def jk_syntax_Args1 (R : AEnd → Hp → Nat → Prop) (a0 : AV) (s2 : List AV) (σ : Hp) (n : Nat) : Prop :=
 COND (s2.getD 0 .any) (
 R (.ret (.tp [(.sc (.int .i64 1)), (.sc (.bool true))])) σ n) (
 bindP (semBin .geq a0 (.sc (.int .i64 4))) fun v3 =>
 guardP v3 true (some a0) fun v4 =>
 guardP v3 true (semBin .lss v4 (.sc (.int .i64 16))) fun v5 =>
 bindP (aPick v3 v5 (.sc (.bool false))) fun v6 =>
 R (.ret (.tp [(.sc (.int .i64 2)), v6])) σ n)
def jk_syntax_Args2 (R : AEnd → Hp → Nat → Prop) (a0 : AV) (s1 : List AV) (σ : Hp) (n : Nat) : Prop :=
 COND (s1.getD 0 .any) (
 R (.ret (.tp [(.sc (.int .i64 0)), (.sc (.bool true))])) σ n) (
 JOIN (jk_syntax_Args1 R a0) fun K2 =>
 bindP (semBin .eql a0 (.sc (.int .i64 2))) fun v7 =>
 COND v7 (
 K2 [v7] σ n) (
 bindP (semBin .eql a0 (.sc (.int .i64 3))) fun v8 =>
 COND v8 (
 K2 [v8] σ n) (
 bindP (semBin .eql a0 (.sc (.int .i64 16))) fun v9 =>
 COND v9 (
 K2 [v9] σ n) (
 bindP (semBin .eql a0 (.sc (.int .i64 17))) fun v10 =>
 COND v10 (
 K2 [v10] σ n) (
 bindP (semBin .eql a0 (.sc (.int .i64 19))) fun v11 =>
 COND v11 (
 K2 [v11] σ n) (
 bindP (semBin .eql a0 (.sc (.int .i64 20))) fun v12 =>
 COND v12 (
 K2 [v12] σ n) (
 bindP (semBin .eql a0 (.sc (.int .i64 21))) fun v13 =>
 COND v13 (
 K2 [v13] σ n) (
 bindP (semBin .eql a0 (.sc (.int .i64 22))) fun v14 =>
 K2 [v14] σ n))))))))
attribute [go_sem] jk_syntax_Args1 jk_syntax_Args2
noncomputable def sc_syntax_Args : SCode := (Tryz.f89.body.bind (cmpC Tryz.prog Tryz.f89.ntmps [5, 4, 9, 0, 2, 3])).getD .skip
def sh_syntax_Args (a0 : AV) (σ : Hp) (n : Nat) (R : AEnd → Hp → Nat → Prop) : Prop :=
 JOIN (jk_syntax_Args2 R a0) fun K1 =>
 bindP (semBin .eql a0 (.sc (.int .i64 0))) fun v15 =>
 COND v15 (
 K1 [v15] σ n) (
 bindP (semBin .eql a0 (.sc (.int .i64 1))) fun v16 =>
 COND v16 (
 K1 [v16] σ n) (
 bindP (semBin .eql a0 (.sc (.int .i64 18))) fun v17 =>
 K1 [v17] σ n))
theorem se_syntax_Args (a0 : AV) (σ : Hp) (n : Nat) (R : AEnd → Hp → Nat → Prop) : sh_syntax_Args a0 σ n R = swp Tryz.prog sc_syntax_Args (retQ [(.t 2), (.t 3)] R) (entry [a0]) σ n := by kernel_rfl
theorem by_syntax_Args {a0 : AV} {σ : Hp} {n : Nat} {R : AEnd → Hp → Nat → Prop} (h : sh_syntax_Args a0 σ n R) : ConH Tryz.prog 89 [a0] σ n R := by
  rw [se_syntax_Args] at h
  exact conH_of [(.t 2), (.t 3)] (fn := Tryz.f89) rfl [5, 4, 9, 0, 2, 3] (by kernel_rfl) (by kernel_rfl) (by kernel_rfl) (by kernel_rfl) h
noncomputable def sc_ref04_args : SCode := (Tryz.f91.body.bind (cmpC Tryz.prog Tryz.f91.ntmps [3, 10, 0, 17, 2])).getD .skip
def sh_ref04_args (a0 : AV) (σ : Hp) (n : Nat) (R : AEnd → Hp → Nat → Prop) : Prop :=
 bindP (semBin .lss a0 (.sc (.int .i64 0))) fun v1 =>
 guardP v1 false (some a0) fun v2 =>
 guardP v1 false (semBin .gtr v2 (.sc (.int .i64 22))) fun v3 =>
 bindP (aPick v1 (.sc (.bool true)) v3) fun v4 =>
 COND v4 (
 R (.ret (.sc (.int .i64 (-1)))) σ n) (
 bindP (semBin .leq a0 (.sc (.int .i64 1))) fun v5 =>
 guardP v5 false (some a0) fun v6 =>
 guardP v5 false (semBin .eql v6 (.sc (.int .i64 18))) fun v7 =>
 bindP (aPick v5 (.sc (.bool true)) v7) fun v8 =>
 COND v8 (
 R (.ret (.sc (.int .i64 0))) σ n) (
 bindP (semBin .leq a0 (.sc (.int .i64 3))) fun v9 =>
 guardP v9 false (some a0) fun v10 =>
 guardP v9 false (semBin .geq v10 (.sc (.int .i64 16))) fun v11 =>
 bindP (aPick v9 (.sc (.bool true)) v11) fun v12 =>
 COND v12 (
 R (.ret (.sc (.int .i64 1))) σ n) (
 R (.ret (.sc (.int .i64 2))) σ n)))
theorem se_ref04_args (a0 : AV) (σ : Hp) (n : Nat) (R : AEnd → Hp → Nat → Prop) : sh_ref04_args a0 σ n R = swp Tryz.prog sc_ref04_args (retQ [(.t 2)] R) (entry [a0]) σ n := by kernel_rfl
theorem by_ref04_args {a0 : AV} {σ : Hp} {n : Nat} {R : AEnd → Hp → Nat → Prop} (h : sh_ref04_args a0 σ n R) : ConH Tryz.prog 91 [a0] σ n R := by
  rw [se_ref04_args] at h
  exact conH_of [(.t 2)] (fn := Tryz.f91) rfl [3, 10, 0, 17, 2] (by kernel_rfl) (by kernel_rfl) (by kernel_rfl) (by kernel_rfl) h
def jk_ref01_Check1 (R : AEnd → Hp → Nat → Prop) (s2 : List AV) (σ : Hp) (n : Nat) : Prop :=
 R (.ret (.sc (.int .i64 9))) σ n
attribute [go_sem] jk_ref01_Check1
noncomputable def sc_ref01_Check : SCode := (Tryz.f92.body.bind (cmpC Tryz.prog Tryz.f92.ntmps [0, 5, 14, 15, 19, 20, 34, 4, 35, 1, 45, 2])).getD .skip
def sh_ref01_Check (a0 : AV) (σ : Hp) (n : Nat) (R : AEnd → Hp → Nat → Prop) : Prop :=
 bindS (hBox n a0) σ n fun v1 σ n =>
 JOIN (jk_ref01_Check1 R) fun K2 =>
 bindP (aFad 0 v1) fun v3 =>
 bindP (aLd σ none v3) fun v4 =>
 bindP (semBin .eql v4 (.sc (.int .i64 0))) fun v5 =>
 COND v5 (
 bindP (aFad 1 v1) fun v6 =>
 bindP (aLd σ none v6) fun v7 =>
 bindP (semBin .eql v7 (.sc (.int .i64 0))) fun v8 =>
 guardP v8 true (aFad 2 v1) fun v9 =>
 guardP v8 true (aLd σ none v9) fun v10 =>
 guardP v8 true (semBin .eql v10 (.s [])) fun v11 =>
 bindP (aPick v8 v11 (.sc (.bool false))) fun v12 =>
 COND v12 (
 R (.ret (.sc (.int .i64 0))) σ n) (
 K2 [v4, v5, v12, (.tp []), (.tp []), (.tp []), (.tp []), (.tp []), (.tp []), (.sc (.int .i64 0))] σ n)) (
 bindP (semBin .eql v4 (.sc (.int .i64 1))) fun v13 =>
 COND v13 (
 bindP (aFad 2 v1) fun v14 =>
 bindP (aLd σ none v14) fun v15 =>
 bindP (semBin .eql v15 (.s [])) fun v16 =>
 COND v16 (
 R (.ret (.sc (.int .i64 0))) σ n) (
 K2 [v4, v5, (.tp []), v13, v16, (.tp []), (.tp []), (.tp []), (.tp []), (.sc (.int .i64 0))] σ n)) (
 bindP (semBin .eql v4 (.sc (.int .i64 2))) fun v17 =>
 COND v17 (
 bindP (aFad 2 v1) fun v18 =>
 bindP (aLd σ none v18) fun v19 =>
 bindP (semBin .eql v19 (.s [])) fun v20 =>
 guardP v20 true (aFad 1 v1) fun v21 =>
 guardP v20 true (aLd σ none v21) fun v22 =>
 guardP v20 true (semBin .eql v22 (.sc (.int .i64 0))) fun v23 =>
 guardP v20 true (some v23) fun v24 =>
 guardP v24 false (aFad 1 v1) fun v25 =>
 guardP v24 false (aLd σ none v25) fun v26 =>
 guardP v24 false (semBin .eql v26 (.sc (.int .i64 1))) fun v27 =>
 guardP v20 true (aPick v24 (.sc (.bool true)) v27) fun v28 =>
 bindP (aPick v20 v28 (.sc (.bool false))) fun v29 =>
 COND v29 (
 R (.ret (.sc (.int .i64 0))) σ n) (
 K2 [v4, v5, (.tp []), v13, (.tp []), v17, v29, (.tp []), (.tp []), (.sc (.int .i64 0))] σ n)) (
 bindP (semBin .eql v4 (.sc (.int .i64 3))) fun v30 =>
 COND v30 (
 bindP (aFad 1 v1) fun v31 =>
 bindP (aLd σ none v31) fun v32 =>
 bindP (semBin .eql v32 (.sc (.int .i64 0))) fun v33 =>
 guardP v33 true (aFad 2 v1) fun v34 =>
 guardP v33 true (aLd σ none v34) fun v35 =>
 guardP v33 true (aLen true v35) fun v36 =>
 guardP v33 true (semBin .leq v36 (.sc (.int .i64 64))) fun v37 =>
 bindP (aPick v33 v37 (.sc (.bool false))) fun v38 =>
 COND v38 (
 R (.ret (.sc (.int .i64 0))) σ n) (
 K2 [v4, v5, (.tp []), v13, (.tp []), v17, (.tp []), v30, v38, (.sc (.int .i64 0))] σ n)) (
 K2 [v4, v5, (.tp []), v13, (.tp []), v17, (.tp []), v30, (.tp []), (.sc (.int .i64 0))] σ n))))
theorem se_ref01_Check (a0 : AV) (σ : Hp) (n : Nat) (R : AEnd → Hp → Nat → Prop) : sh_ref01_Check a0 σ n R = swp Tryz.prog sc_ref01_Check (retQ [(.t 2)] R) (entry [a0]) σ n := by kernel_rfl
theorem by_ref01_Check {a0 : AV} {σ : Hp} {n : Nat} {R : AEnd → Hp → Nat → Prop} (h : sh_ref01_Check a0 σ n R) : ConH Tryz.prog 92 [a0] σ n R := by
  rw [se_ref01_Check] at h
  exact conH_of [(.t 2)] (fn := Tryz.f92) rfl [0, 5, 14, 15, 19, 20, 34, 4, 35, 1, 45, 2] (by kernel_rfl) (by kernel_rfl) (by kernel_rfl) (by kernel_rfl) h
def jk_ref03_Keyword1 (R : AEnd → Hp → Nat → Prop) (s3 : List AV) (σ : Hp) (n : Nat) : Prop :=
 COND (s3.getD 0 .any) (
 R (.ret (.sc (.bool true))) σ n) (
 R (.ret (.sc (.bool false))) σ n)
def kc_ref03_Keyword2 (R : AEnd → Hp → Nat → Prop) (r : AEnd) (σ : Hp) (n : Nat) : Prop :=
 onEnd r (fun v1 =>
 JOIN (jk_ref03_Keyword1 R) fun K3 =>
 bindP (semBin .eql v1 (.s [99, 114, 101, 97, 116, 101])) fun v4 =>
 COND v4 (
 K3 [v4] σ n) (
 bindP (semBin .eql v1 (.s [116, 97, 98, 108, 101])) fun v5 =>
 COND v5 (
 K3 [v5] σ n) (
 bindP (semBin .eql v1 (.s [105, 110, 100, 101, 120])) fun v6 =>
 COND v6 (
 K3 [v6] σ n) (
 bindP (semBin .eql v1 (.s [111, 110])) fun v7 =>
 COND v7 (
 K3 [v7] σ n) (
 bindP (semBin .eql v1 (.s [100, 114, 111, 112])) fun v8 =>
 COND v8 (
 K3 [v8] σ n) (
 bindP (semBin .eql v1 (.s [105, 110, 115, 101, 114, 116])) fun v9 =>
 COND v9 (
 K3 [v9] σ n) (
 bindP (semBin .eql v1 (.s [105, 110, 116, 111])) fun v10 =>
 COND v10 (
 K3 [v10] σ n) (
 bindP (semBin .eql v1 (.s [118, 97, 108, 117, 101, 115])) fun v11 =>
 COND v11 (
 K3 [v11] σ n) (
 bindP (semBin .eql v1 (.s [117, 112, 100, 97, 116, 101])) fun v12 =>
 COND v12 (
 K3 [v12] σ n) (
 bindP (semBin .eql v1 (.s [115, 101, 116])) fun v13 =>
 COND v13 (
 K3 [v13] σ n) (
 bindP (semBin .eql v1 (.s [100, 101, 108, 101, 116, 101])) fun v14 =>
 COND v14 (
 K3 [v14] σ n) (
 bindP (semBin .eql v1 (.s [102, 114, 111, 109])) fun v15 =>
 COND v15 (
 K3 [v15] σ n) (
 bindP (semBin .eql v1 (.s [119, 104, 101, 114, 101])) fun v16 =>
 COND v16 (
 K3 [v16] σ n) (
 bindP (semBin .eql v1 (.s [115, 101, 108, 101, 99, 116])) fun v17 =>
 COND v17 (
 K3 [v17] σ n) (
 bindP (semBin .eql v1 (.s [106, 111, 105, 110])) fun v18 =>
 COND v18 (
 K3 [v18] σ n) (
 bindP (semBin .eql v1 (.s [103, 114, 111, 117, 112])) fun v19 =>
 COND v19 (
 K3 [v19] σ n) (
 bindP (semBin .eql v1 (.s [98, 121])) fun v20 =>
 COND v20 (
 K3 [v20] σ n) (
 bindP (semBin .eql v1 (.s [111, 114, 100, 101, 114])) fun v21 =>
 COND v21 (
 K3 [v21] σ n) (
 bindP (semBin .eql v1 (.s [100, 101, 115, 99])) fun v22 =>
 COND v22 (
 K3 [v22] σ n) (
 bindP (semBin .eql v1 (.s [108, 105, 109, 105, 116])) fun v23 =>
 COND v23 (
 K3 [v23] σ n) (
 bindP (semBin .eql v1 (.s [98, 101, 103, 105, 110])) fun v24 =>
 COND v24 (
 K3 [v24] σ n) (
 bindP (semBin .eql v1 (.s [99, 111, 109, 109, 105, 116])) fun v25 =>
 COND v25 (
 K3 [v25] σ n) (
 bindP (semBin .eql v1 (.s [114, 111, 108, 108, 98, 97, 99, 107])) fun v26 =>
 COND v26 (
 K3 [v26] σ n) (
 bindP (semBin .eql v1 (.s [112, 114, 105, 109, 97, 114, 121])) fun v27 =>
 COND v27 (
 K3 [v27] σ n) (
 bindP (semBin .eql v1 (.s [107, 101, 121])) fun v28 =>
 COND v28 (
 K3 [v28] σ n) (
 bindP (semBin .eql v1 (.s [110, 111, 116])) fun v29 =>
 COND v29 (
 K3 [v29] σ n) (
 bindP (semBin .eql v1 (.s [110, 117, 108, 108])) fun v30 =>
 COND v30 (
 K3 [v30] σ n) (
 bindP (semBin .eql v1 (.s [105, 115])) fun v31 =>
 COND v31 (
 K3 [v31] σ n) (
 bindP (semBin .eql v1 (.s [97, 110, 100])) fun v32 =>
 COND v32 (
 K3 [v32] σ n) (
 bindP (semBin .eql v1 (.s [111, 114])) fun v33 =>
 COND v33 (
 K3 [v33] σ n) (
 bindP (semBin .eql v1 (.s [116, 114, 117, 101])) fun v34 =>
 COND v34 (
 K3 [v34] σ n) (
 bindP (semBin .eql v1 (.s [102, 97, 108, 115, 101])) fun v35 =>
 COND v35 (
 K3 [v35] σ n) (
 bindP (semBin .eql v1 (.s [105, 110, 116])) fun v36 =>
 COND v36 (
 K3 [v36] σ n) (
 bindP (semBin .eql v1 (.s [98, 111, 111, 108])) fun v37 =>
 COND v37 (
 K3 [v37] σ n) (
 bindP (semBin .eql v1 (.s [116, 101, 120, 116])) fun v38 =>
 COND v38 (
 K3 [v38] σ n) (
 bindP (semBin .eql v1 (.s [99, 111, 117, 110, 116])) fun v39 =>
 COND v39 (
 K3 [v39] σ n) (
 bindP (semBin .eql v1 (.s [115, 117, 109])) fun v40 =>
 COND v40 (
 K3 [v40] σ n) (
 bindP (semBin .eql v1 (.s [109, 105, 110])) fun v41 =>
 COND v41 (
 K3 [v41] σ n) (
 bindP (semBin .eql v1 (.s [109, 97, 120])) fun v42 =>
 K3 [v42] σ n))))))))))))))))))))))))))))))))))))))) (fun v2 => R (.pan v2) σ n)
attribute [go_sem] jk_ref03_Keyword1 kc_ref03_Keyword2
noncomputable def sc_ref03_Keyword : SCode := (Tryz.f35.body.bind (cmpC Tryz.prog Tryz.f35.ntmps [0, 4, 5, 2])).getD .skip
def sh_ref03_Keyword (a0 : AV) (σ : Hp) (n : Nat) (R : AEnd → Hp → Nat → Prop) : Prop :=
 CALL Tryz.prog (.fn 69 []) [a0] σ n (kc_ref03_Keyword2 R)
theorem se_ref03_Keyword (a0 : AV) (σ : Hp) (n : Nat) (R : AEnd → Hp → Nat → Prop) : sh_ref03_Keyword a0 σ n R = swp Tryz.prog sc_ref03_Keyword (retQ [(.t 2)] R) (entry [a0]) σ n := by kernel_rfl
theorem by_ref03_Keyword {a0 : AV} {σ : Hp} {n : Nat} {R : AEnd → Hp → Nat → Prop} (h : sh_ref03_Keyword a0 σ n R) : ConH Tryz.prog 35 [a0] σ n R := by
  rw [se_ref03_Keyword] at h
  exact conH_of [(.t 2)] (fn := Tryz.f35) rfl [0, 4, 5, 2] (by kernel_rfl) (by kernel_rfl) (by kernel_rfl) (by kernel_rfl) h
def dk_syntax_CheckExpr1 (v2 : AV) (R : AEnd → Hp → Nat → Prop) (σ : Hp) (n : Nat) : Prop :=
 bindP (aLd σ none v2) fun v8 =>
 R (.ret v8) σ n
def dk_syntax_CheckExpr2 (v2 : AV) (R : AEnd → Hp → Nat → Prop) (σ : Hp) (n : Nat) : Prop :=
 bindP (aLd σ none v2) fun v9 =>
 R (.ret v9) σ n
def kc_syntax_CheckExpr3 (v2 : AV) (R : AEnd → Hp → Nat → Prop) (r : AEnd) (σ : Hp) (n : Nat) : Prop :=
 onEnd r (fun v5 =>
 bindS (hSt σ 1 v2 (.sc (.int .i64 0))) σ n fun v7 σ n =>
 DEF Tryz.prog (.fn 61 [v2]) none σ n (dk_syntax_CheckExpr1 v2 R)) (fun v6 => DEF Tryz.prog (.fn 61 [v2]) (some v6) σ n (dk_syntax_CheckExpr2 v2 R))
attribute [go_sem] dk_syntax_CheckExpr1 dk_syntax_CheckExpr2 kc_syntax_CheckExpr3
def sa_syntax_CheckExpr : SCode := (.seq (.reg [
   ⟨(some 1), none, (.box (.t 0))⟩,
    ⟨(some 2), none, (.alloc [(.int .i64 0)])⟩]) (.reg [
   ⟨(some 4), none, (.mkf 61 [(.t 2)])⟩]))
def sb_syntax_CheckExpr : SCode := (.seq (.reg [
   ⟨(some 3), none, (.alloc [(.int .i64 0)])⟩]) (.seq (.reg [
   ⟨(some 5), none, (.ld (some 7) (.t 1))⟩,
    ⟨(some 6), none, (.call (.c (.fn 63 [])) [(.t 3), (.t 5), (.c (.sc (.int .i64 1)))])⟩]) (.seq (.reg [
   ⟨none, none, (.st 1 (.t 2) (.c (.sc (.int .i64 0))))⟩]) .ret)))
def sh_syntax_CheckExpr (a0 : AV) (σ : Hp) (n : Nat) (R : AEnd → Hp → Nat → Prop) : Prop :=
 bindS (hBox n a0) σ n fun v1 σ n =>
 bindS (hAlloc n [(.int .i64 0)]) σ n fun v2 σ n =>
 DFN (.fn 61 [v2]) (
 bindS (hAlloc n [(.int .i64 0)]) σ n fun v3 σ n =>
 bindP (aLd σ (some 7) v1) fun v4 =>
 CALL Tryz.prog (.fn 63 []) [v3, v4, (.sc (.int .i64 1))] σ n (kc_syntax_CheckExpr3 v2 R))
theorem se_syntax_CheckExpr (a0 : AV) (σ : Hp) (n : Nat) (R : AEnd → Hp → Nat → Prop) : sh_syntax_CheckExpr a0 σ n R = swpD Tryz.prog sa_syntax_CheckExpr (.t 4) sb_syntax_CheckExpr [(.c 2 none)] R (entry [a0]) σ n := by kernel_rfl
theorem by_syntax_CheckExpr {a0 : AV} {σ : Hp} {n : Nat} {R : AEnd → Hp → Nat → Prop} (h : sh_syntax_CheckExpr a0 σ n R) : ConH Tryz.prog 26 [a0] σ n R := by
  rw [se_syntax_CheckExpr] at h
  exact conH_of_defer [(.c 2 none)] (fn := Tryz.f26) rfl [0, 1, 3, 2] (by kernel_rfl) (by kernel_rfl) (by kernel_rfl) (by kernel_rfl) h
def kc_syntax_CheckExpr_c11 (Rr : Hp → Nat → Prop) (r : AEnd) (σ : Hp) (n : Nat) : Prop :=
 onEnd r (fun v1 =>
 Rr σ n) (fun v2 => False)
attribute [go_sem] kc_syntax_CheckExpr_c11
def sc_syntax_CheckExpr_c1 : SCode := (.reg [ ⟨some 2,none,.call (.c (.fn 62 [])) [(.t 1),(.t 0)]⟩])
def sh_syntax_CheckExpr_c1 (a0 a1 : AV) (σ : Hp) (n : Nat) (Rr : Hp → Nat → Prop) : Prop :=
 CALL Tryz.prog (.fn 62 []) [a1, a0] σ n (kc_syntax_CheckExpr_c11 Rr)
theorem se_syntax_CheckExpr_c1 (a0 a1 : AV) (σ : Hp) (n : Nat) (R : Hp → Nat → Prop) : sh_syntax_CheckExpr_c1 a0 a1 σ n R = swp Tryz.prog sc_syntax_CheckExpr_c1 (recQ R) (put (entry [a0]) (some 1) a1) σ n := by kernel_rfl
theorem by_syntax_CheckExpr_c1 {a0 : AV} {pv : Option Value} {σ : Hp} {n : Nat} {R : Hp → Nat → Prop} (h : sh_syntax_CheckExpr_c1 a0 (recV pv) σ n R) : ConR Tryz.prog 61 [a0] σ n pv R := by
  rw [se_syntax_CheckExpr_c1] at h
  exact conR_of (fn := Tryz.f61) rfl [1, 0] (by kernel_rfl) (by kernel_rfl) (by kernel_rfl) rfl h
def jk_ref03_Lower1 (s1 : List AV) (K1 : List AV → Hp → Nat → Prop) (v3 : AV) (s5 : List AV) (σ : Hp) (n : Nat) : Prop :=
 bindS (hBsl σ n 1 [(.int .u8 0)] 1 [(0, (s5.getD 1 .any))]) σ n fun v6 σ n =>
 bindS (hApp σ n 1 1 (s1.getD 3 .any) v6) σ n fun v7 σ n =>
 bindP (semBin .add (s1.getD 4 .any) (.sc (.int .i64 1))) fun v8 =>
 K1 [v3, (s5.getD 0 .any), (s5.getD 1 .any), v7, v8] σ n
def lb_ref03_Lower2 (a0 : AV) (R : AEnd → Hp → Nat → Prop) (K1 : List AV → Hp → Nat → Prop) (s1 : List AV) (σ : Hp) (n : Nat) : Prop :=
 bindP (aLen true a0) fun v2 => bnd σ a0 →
 bindP (semBin .lss (s1.getD 4 .any) v2) fun v3 =>
 COND v3 (
 bindP (aIstr a0 (s1.getD 4 .any)) fun v4 =>
 JOIN (jk_ref03_Lower1 s1 K1 v3) fun K5 =>
 bindP (semBin .geq v4 (.sc (.int .u8 65))) fun v9 =>
 guardP v9 true (some v4) fun v10 =>
 guardP v9 true (semBin .leq v10 (.sc (.int .u8 90))) fun v11 =>
 bindP (aPick v9 v11 (.sc (.bool false))) fun v12 =>
 COND v12 (
 bindP (semBin .add v4 (.sc (.int .u8 32))) fun v13 =>
 K5 [v12, v13] σ n) (
 K5 [v12, v4] σ n)) (
 bindP (aCvb σ (s1.getD 3 .any)) fun v14 =>
 R (.ret v14) σ n)
attribute [go_sem] jk_ref03_Lower1 lb_ref03_Lower2
noncomputable def sc_ref03_Lower : SCode := (Tryz.f69.body.bind (cmpC Tryz.prog Tryz.f69.ntmps [9, 0, 20, 5, 4, 3, 2])).getD .skip
def sh_ref03_Lower (a0 : AV) (σ : Hp) (n : Nat) (R : AEnd → Hp → Nat → Prop) : Prop :=
 LOOP (lb_ref03_Lower2 a0 R) [(.tp []), (.tp []), (.tp []), .em, (.sc (.int .i64 0))] σ n
theorem se_ref03_Lower (a0 : AV) (σ : Hp) (n : Nat) (R : AEnd → Hp → Nat → Prop) : sh_ref03_Lower a0 σ n R = swp Tryz.prog sc_ref03_Lower (retQ [(.t 2)] R) (entry [a0]) σ n := by kernel_rfl
theorem by_ref03_Lower {a0 : AV} {σ : Hp} {n : Nat} {R : AEnd → Hp → Nat → Prop} (h : sh_ref03_Lower a0 σ n R) : ConH Tryz.prog 69 [a0] σ n R := by
  rw [se_ref03_Lower] at h
  exact conH_of [(.t 2)] (fn := Tryz.f69) rfl [9, 0, 20, 5, 4, 3, 2] (by kernel_rfl) (by kernel_rfl) (by kernel_rfl) (by kernel_rfl) h
end Go.Proofs.YtodoejfkjimeaaaGreatDoor
