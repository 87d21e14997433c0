/- Packed by a program of this repo: Sh4b. -/
import Derived.Test.YtodoejfkjimeaaaDoorKRMs
import Derived.Test.YtodoejfkjimeaaaDoorProg
set_option linter.unusedVariables false
set_option maxRecDepth 8000
namespace Go.Proofs.YtodoejfkjimeaaaDoor
open Go Am
def kc_law04_SyntaxPrints1 (Kg : AV → Hp → Nat → Prop) (R : AEnd → Hp → Nat → Prop) (r : AEnd) (σ : Hp) (n : Nat) : Prop :=
 onEnd r (fun v21 =>
 Kg v21 σ n) (fun v22 => R (.pan v22) σ n)
def kc_law04_SyntaxPrints2 (v29 : AV) (R : AEnd → Hp → Nat → Prop) (r : AEnd) (σ : Hp) (n : Nat) : Prop :=
 onEnd r (fun v32 =>
 bindP (aEqb false v29 v32) fun v34 =>
 R (.ret v34) σ n) (fun v33 => R (.pan v33) σ n)
def kc_law04_SyntaxPrints3 (v15 : AV) (R : AEnd → Hp → Nat → Prop) (v9 : AV) (v14 : AV) (v1 : AV) (v2 : AV) (r : AEnd) (σ : Hp) (n : Nat) : Prop :=
 onEnd r (fun v16 =>
 bindP (semBin .neq v16 (.sc (.int .i64 0))) fun v18 =>
 guardP v18 false (some v15) fun v19 =>
 guardK v18 false (fun Kg => CALL Tryd.prog (.fn 11 []) [v19] σ n (kc_law04_SyntaxPrints1 Kg R)) σ n fun v20 σ n =>
 guardP v18 false (semBin .neq v20 (.sc (.int .i64 0))) fun v23 =>
 bindP (aPick v18 (.sc (.bool true)) v23) fun v24 =>
 COND v24 (
 bindP (semBin .eql v9 (.s [])) fun v25 =>
 guardP v25 false (some v14) fun v26 =>
 guardP v25 false (semBin .eql v26 (.s [])) fun v27 =>
 bindP (aPick v25 (.sc (.bool true)) v27) fun v28 =>
 R (.ret v28) σ n) (
 bindP (semBin .eql v9 v14) fun v29 =>
 bindP (aLd σ (some 14) v1) fun v30 =>
 bindP (aLd σ (some 14) v2) fun v31 =>
 CALL Tryd.prog (.fn 22 []) [v30, v31] σ n (kc_law04_SyntaxPrints2 v29 R))) (fun v17 => R (.pan v17) σ n)
def kc_law04_SyntaxPrints4 (v10 : AV) (R : AEnd → Hp → Nat → Prop) (v9 : AV) (v1 : AV) (v2 : AV) (r : AEnd) (σ : Hp) (n : Nat) : Prop :=
 onEnd r (fun v12 =>
 bindP (aExt v12 0) fun v14 =>
 bindP (aExt v12 1) fun v15 =>
 CALL Tryd.prog (.fn 11 []) [v10] σ n (kc_law04_SyntaxPrints3 v15 R v9 v14 v1 v2)) (fun v13 => R (.pan v13) σ n)
def kc_law04_SyntaxPrints5 (v2 : AV) (R : AEnd → Hp → Nat → Prop) (v1 : AV) (r : AEnd) (σ : Hp) (n : Nat) : Prop :=
 onEnd r (fun v7 =>
 bindP (aExt v7 0) fun v9 =>
 bindP (aExt v7 1) fun v10 =>
 bindP (aLd σ (some 14) v2) fun v11 =>
 CALL Tryd.prog (.fn 21 []) [v11] σ n (kc_law04_SyntaxPrints4 v10 R v9 v1 v2)) (fun v8 => R (.pan v8) σ n)
def kc_law04_SyntaxPrints6 (R : AEnd → Hp → Nat → Prop) (v1 : AV) (v2 : AV) (r : AEnd) (σ : Hp) (n : Nat) : Prop :=
 onEnd r (fun v3 =>
 bindP (aUn .not v3) fun v5 =>
 COND v5 (
 R (.ret (.sc (.bool false))) σ n) (
 bindP (aLd σ (some 14) v1) fun v6 =>
 CALL Tryd.prog (.fn 21 []) [v6] σ n (kc_law04_SyntaxPrints5 v2 R v1))) (fun v4 => R (.pan v4) σ n)
attribute [go_sem] kc_law04_SyntaxPrints1 kc_law04_SyntaxPrints2 kc_law04_SyntaxPrints3 kc_law04_SyntaxPrints4 kc_law04_SyntaxPrints5 kc_law04_SyntaxPrints6
def sc_law04_SyntaxPrints : SCode := (.seq (.reg [ ⟨some 2,none,.box (.t 0)⟩,⟨some 3,none,.box (.t 1)⟩,⟨some 4,none,.mv (.c (.sc (.bool false)))⟩]) (.seq (.seq (.reg [ ⟨some 9,none,.call (.c (.fn 9 [])) []⟩,⟨some 10,none,.un .not (.t 9)⟩]) (.cond (.t 10) (.seq (.reg [ ⟨some 4,none,.mv (.c (.sc (.bool false)))⟩]) .ret) .skip)) (.seq (.reg [ ⟨some 12,none,.ld (some 14) (.t 2)⟩,⟨some 13,none,.call (.c (.fn 21 [])) [(.t 12)]⟩,⟨some 11,none,.mv (.t 13)⟩,⟨some 14,none,.ext (.t 11) 0⟩,⟨some 15,none,.ext (.t 11) 1⟩,⟨some 5,none,.mv (.t 14)⟩,⟨some 6,none,.mv (.t 15)⟩]) (.seq (.reg [ ⟨some 17,none,.ld (some 14) (.t 3)⟩,⟨some 18,none,.call (.c (.fn 21 [])) [(.t 17)]⟩,⟨some 16,none,.mv (.t 18)⟩,⟨some 19,none,.ext (.t 16) 0⟩,⟨some 20,none,.ext (.t 16) 1⟩,⟨some 7,none,.mv (.t 19)⟩,⟨some 8,none,.mv (.t 20)⟩]) (.seq (.seq (.reg [ ⟨some 21,none,.mv (.t 6)⟩,⟨some 22,none,.call (.c (.fn 11 [])) [(.t 21)]⟩,⟨some 23,none,.bin .neq (.t 22) (.c (.sc (.int .i64 0)))⟩,⟨some 24,none,.mv (.t 23)⟩,⟨(some 25),(some (24,false)),(.mv (.t 8))⟩,⟨(some 26),(some (24,false)),(.call (.c (.fn 11 [])) [(.t 25)])⟩,⟨(some 27),(some (24,false)),(.bin .neq (.t 26) (.c (.sc (.int .i64 0))))⟩,⟨some 28,none,.pick (.t 24) (.c (.sc (.bool true))) (.t 27)⟩]) (.cond (.t 28) (.seq (.reg [ ⟨some 29,none,.mv (.t 5)⟩,⟨some 30,none,.bin .eql (.t 29) (.c (.s []))⟩,⟨some 31,none,.mv (.t 30)⟩,⟨(some 32),(some (31,false)),(.mv (.t 7))⟩,⟨(some 33),(some (31,false)),(.bin .eql (.t 32) (.c (.s [])))⟩,⟨some 34,none,.pick (.t 31) (.c (.sc (.bool true))) (.t 33)⟩,⟨some 4,none,.mv (.t 34)⟩]) .ret) .skip)) (.seq (.reg [ ⟨some 35,none,.mv (.t 5)⟩,⟨some 36,none,.mv (.t 7)⟩,⟨some 37,none,.bin .eql (.t 35) (.t 36)⟩,⟨some 38,none,.ld (some 14) (.t 2)⟩,⟨some 39,none,.ld (some 14) (.t 3)⟩,⟨some 40,none,.call (.c (.fn 22 [])) [(.t 38),(.t 39)]⟩,⟨some 41,none,.eqb false (.t 37) (.t 40)⟩,⟨some 4,none,.mv (.t 41)⟩]) .ret))))))
def sh_law04_SyntaxPrints (a0 a1 : AV) (σ : Hp) (n : Nat) (R : AEnd → Hp → Nat → Prop) : Prop :=
 bindS (hBox n a0) σ n fun v1 σ n =>
 bindS (hBox n a1) σ n fun v2 σ n =>
 CALL Tryd.prog (.fn 9 []) [] σ n (kc_law04_SyntaxPrints6 R v1 v2)
theorem se_law04_SyntaxPrints (a0 a1 : AV) (σ : Hp) (n : Nat) (R : AEnd → Hp → Nat → Prop) : sh_law04_SyntaxPrints a0 a1 σ n R = swp Tryd.prog sc_law04_SyntaxPrints (retQ [(.t 4)] R) (entry [a0, a1]) σ n := by kernel_rfl
theorem by_law04_SyntaxPrints {a0 a1 : AV} {σ : Hp} {n : Nat} {R : AEnd → Hp → Nat → Prop} (h : sh_law04_SyntaxPrints a0 a1 σ n R) : ConH Tryd.prog 6 [a0, a1] σ n R := by
  rw [se_law04_SyntaxPrints] at h
  exact conH_of [(.t 4)] (fn := Tryd.f6) rfl [0, 1, 10, 6, 8, 28, 5, 7, 2, 3, 4] (by kernel_rfl) (by kernel_rfl) (by kernel_rfl) (by kernel_rfl) h
end Go.Proofs.YtodoejfkjimeaaaDoor
