/- Packed by a program of this repo: Sh7. -/
import Derived.Test.YtodoejfkjimeaaaDoorKRMs
import Derived.Test.YtodoejfkjimeaaaDoorProg
set_option linter.unusedVariables false
set_option maxRecDepth 8000
namespace Go.Proofs.YtodoejfkjimeaaaDoor
open Go Am
def kc_plain_SameExpr1 (Kg : AV → Hp → Nat → Prop) (R : AEnd → Hp → Nat → Prop) (r : AEnd) (σ : Hp) (n : Nat) : Prop :=
 onEnd r (fun v31 =>
 Kg v31 σ n) (fun v32 => R (.pan v32) σ n)
attribute [go_sem] kc_plain_SameExpr1
def sc_plain_SameExpr : SCode := (.seq (.reg [ ⟨some 2,none,.box (.t 0)⟩,⟨some 3,none,.box (.t 1)⟩,⟨some 4,none,.mv (.c (.sc (.bool false)))⟩]) (.seq (.reg [ ⟨some 5,none,.fad 0 (.t 2)⟩,⟨some 6,none,.ld none (.t 5)⟩,⟨some 7,none,.fad 0 (.t 3)⟩,⟨some 8,none,.ld none (.t 7)⟩,⟨some 9,none,.bin .eql (.t 6) (.t 8)⟩,⟨some 10,none,.mv (.t 9)⟩,⟨(some 11),(some (10,true)),(.fad 1 (.t 2))⟩,⟨(some 12),(some (10,true)),(.ld (some 3) (.t 11))⟩,⟨(some 13),(some (10,true)),(.fad 1 (.t 3))⟩,⟨(some 14),(some (10,true)),(.ld (some 3) (.t 13))⟩,⟨(some 15),(some (10,true)),(.eqs [0,0,2] false (.t 12) (.t 14))⟩,⟨some 16,none,.pick (.t 10) (.t 15) (.c (.sc (.bool false)))⟩,⟨some 17,none,.mv (.t 16)⟩,⟨(some 18),(some (17,true)),(.fad 4 (.t 2))⟩,⟨(some 19),(some (17,true)),(.ld none (.t 18))⟩,⟨(some 20),(some (17,true)),(.fad 4 (.t 3))⟩,⟨(some 21),(some (17,true)),(.ld none (.t 20))⟩,⟨(some 22),(some (17,true)),(.bin .eql (.t 19) (.t 21))⟩,⟨some 23,none,.pick (.t 17) (.t 22) (.c (.sc (.bool false)))⟩,⟨some 24,none,.mv (.t 23)⟩,⟨(some 25),(some (24,true)),(.fad 5 (.t 2))⟩,⟨(some 26),(some (24,true)),(.ld none (.t 25))⟩,⟨(some 27),(some (24,true)),(.fad 5 (.t 3))⟩,⟨(some 28),(some (24,true)),(.ld none (.t 27))⟩,⟨(some 29),(some (24,true)),(.bin .eql (.t 26) (.t 28))⟩,⟨some 30,none,.pick (.t 24) (.t 29) (.c (.sc (.bool false)))⟩,⟨some 31,none,.mv (.t 30)⟩,⟨(some 32),(some (31,true)),(.fad 6 (.t 2))⟩,⟨(some 33),(some (31,true)),(.ld none (.t 32))⟩,⟨(some 34),(some (31,true)),(.fad 6 (.t 3))⟩,⟨(some 35),(some (31,true)),(.ld none (.t 34))⟩,⟨(some 36),(some (31,true)),(.call (.c (.fn 34 [])) [(.t 33),(.t 35)])⟩,⟨some 37,none,.pick (.t 31) (.t 36) (.c (.sc (.bool false)))⟩,⟨some 4,none,.mv (.t 37)⟩]) .ret))
def sh_plain_SameExpr (a0 a1 : AV) (σ : Hp) (n : Nat) (R : AEnd → Hp → Nat → Prop) : Prop :=
 bindS (hBox n a0) σ n fun v1 σ n =>
 bindS (hBox n a1) σ n fun v2 σ n =>
 bindP (aFad 0 v1) fun v3 =>
 bindP (aLd σ none v3) fun v4 =>
 bindP (aFad 0 v2) fun v5 =>
 bindP (aLd σ none v5) fun v6 =>
 bindP (semBin .eql v4 v6) fun v7 =>
 guardP v7 true (aFad 1 v1) fun v8 =>
 guardP v7 true (aLd σ (some 3) v8) fun v9 =>
 guardP v7 true (aFad 1 v2) fun v10 =>
 guardP v7 true (aLd σ (some 3) v10) fun v11 =>
 guardP v7 true (aEqs [0, 0, 2] false v9 v11) fun v12 =>
 bindP (aPick v7 v12 (.sc (.bool false))) fun v13 =>
 guardP v13 true (aFad 4 v1) fun v14 =>
 guardP v13 true (aLd σ none v14) fun v15 =>
 guardP v13 true (aFad 4 v2) fun v16 =>
 guardP v13 true (aLd σ none v16) fun v17 =>
 guardP v13 true (semBin .eql v15 v17) fun v18 =>
 bindP (aPick v13 v18 (.sc (.bool false))) fun v19 =>
 guardP v19 true (aFad 5 v1) fun v20 =>
 guardP v19 true (aLd σ none v20) fun v21 =>
 guardP v19 true (aFad 5 v2) fun v22 =>
 guardP v19 true (aLd σ none v22) fun v23 =>
 guardP v19 true (semBin .eql v21 v23) fun v24 =>
 bindP (aPick v19 v24 (.sc (.bool false))) fun v25 =>
 guardP v25 true (aFad 6 v1) fun v26 =>
 guardP v25 true (aLd σ none v26) fun v27 =>
 guardP v25 true (aFad 6 v2) fun v28 =>
 guardP v25 true (aLd σ none v28) fun v29 =>
 guardK v25 true (fun Kg => CALL Tryd.prog (.fn 34 []) [v27, v29] σ n (kc_plain_SameExpr1 Kg R)) σ n fun v30 σ n =>
 bindP (aPick v25 v30 (.sc (.bool false))) fun v33 =>
 R (.ret v33) σ n
theorem se_plain_SameExpr (a0 a1 : AV) (σ : Hp) (n : Nat) (R : AEnd → Hp → Nat → Prop) : sh_plain_SameExpr a0 a1 σ n R = swp Tryd.prog sc_plain_SameExpr (retQ [(.t 4)] R) (entry [a0, a1]) σ n := by kernel_rfl
theorem by_plain_SameExpr {a0 a1 : AV} {σ : Hp} {n : Nat} {R : AEnd → Hp → Nat → Prop} (h : sh_plain_SameExpr a0 a1 σ n R) : ConH Tryd.prog 16 [a0, a1] σ n R := by
  rw [se_plain_SameExpr] at h
  exact conH_of [(.t 4)] (fn := Tryd.f16) rfl [0, 1, 2, 3, 4] (by kernel_rfl) (by kernel_rfl) (by kernel_rfl) (by kernel_rfl) h
def kd_plain_SameExprs1 (v9 : AV) (v13 : AV) (n : Nat) (σ : Hp) (R : AEnd → Hp → Nat → Prop) (s4 : List AV) (K4 : List AV → Hp → Nat → Prop) (v6 : AV) (r : AEnd) (w15 : Wr) (d15 : List Nat) : Prop :=
 onEnd r (fun v15 =>
 bindP (aUn .not v15) fun v17 =>
 Apt (names []) (rdA v9) (names []) (rdA v13) ∧
 ∀ n_, n + 16 * 10 ≤ n_ → (fun n => (fun σ => COND v17 (
 R (.ret (.sc (.bool false))) σ n) (
 bindP (semBin .add (s4.getD 3 .any) (.sc (.int .i64 1))) fun v18 =>
 K4 [v6, v17, (s4.getD 2 .any), v18] σ n)) (applyW σ w15)) n_) (fun v16 => Apt (names []) (rdA v9) (names []) (rdA v13) ∧
 ∀ (fr_ : Regs) σ n, R (.pan v16) σ n)
def lb_plain_SameExprs2 (a0 : AV) (a1 : AV) (R : AEnd → Hp → Nat → Prop) (K4 : List AV → Hp → Nat → Prop) (s4 : List AV) (σ : Hp) (n : Nat) : Prop :=
 bindP (aLen false a0) fun v5 => bnd σ a0 →
 bindP (semBin .lss (s4.getD 3 .any) v5) fun v6 =>
 COND v6 (
 bindP (aIad 7 a0 (s4.getD 3 .any)) fun v9 =>
 bindP (aLd σ (some 7) v9) fun v10 =>
 bindP (aIad 7 a1 (s4.getD 3 .any)) fun v13 =>
 bindP (aLd σ (some 7) v13) fun v14 =>
 callD Tryd.prog (.fn 16 []) [v10, v14] σ (n + 16 * 8) (kd_plain_SameExprs1 v9 v13 n σ R s4 K4 v6)) (
 R (.ret (.sc (.bool true))) σ n)
attribute [go_sem] kd_plain_SameExprs1 lb_plain_SameExprs2
def sc_plain_SameExprs : SCode := (.seq (.reg [ ⟨some 4,none,.mv (.c (.sc (.bool false)))⟩]) (.seq (.seq (.reg [ ⟨some 6,none,.mv (.t 0)⟩,⟨some 7,none,.len false (.t 6)⟩,⟨some 8,none,.mv (.t 1)⟩,⟨some 9,none,.len false (.t 8)⟩,⟨some 10,none,.bin .neq (.t 7) (.t 9)⟩]) (.cond (.t 10) (.seq (.reg [ ⟨some 4,none,.mv (.c (.sc (.bool false)))⟩]) .ret) .skip)) (.seq (.seq (.reg [ ⟨some 5,none,.mv (.c (.sc (.int .i64 0)))⟩]) (.block 0 (.loop [14,26,4,5] [11,12,13,14,17,18,19,20,21,22,23,24,25,26,4,15,16,5] (.seq (.seq (.reg [ ⟨some 11,none,.mv (.t 5)⟩,⟨some 12,none,.mv (.t 0)⟩,⟨some 13,none,.len false (.t 12)⟩,⟨some 14,none,.bin .lss (.t 11) (.t 13)⟩]) (.cond (.t 14) .skip (.exit 0))) (.seq (.block 1 (.seq (.regD [(⟨some 17,none,.mv (.t 0)⟩,[]),(⟨some 18,none,.mv (.t 5)⟩,[]),(⟨some 19,none,.iad 7 (.t 17) (.t 18)⟩,[0,1]),(⟨some 20,none,.ld (some 7) (.t 19)⟩,[2,0,1]),(⟨some 21,none,.mv (.t 1)⟩,[]),(⟨some 22,none,.mv (.t 5)⟩,[]),(⟨some 23,none,.iad 7 (.t 21) (.t 22)⟩,[4,5]),(⟨some 24,none,.ld (some 7) (.t 23)⟩,[6,4,5]),(⟨some 25,none,.call (.c (.fn 16 [])) [(.t 20),(.t 24)]⟩,[3,2,0,1,7,6,4,5]),(⟨some 26,none,.un .not (.t 25)⟩,[8,3,2,0,1,7,6,4,5])]) (.cond (.t 26) (.seq (.reg [ ⟨some 4,none,.mv (.c (.sc (.bool false)))⟩]) .ret) .skip))) (.reg [ ⟨some 15,none,.mv (.t 5)⟩,⟨some 16,none,.bin .add (.t 15) (.c (.sc (.int .i64 1)))⟩,⟨some 5,none,.mv (.t 16)⟩])))))) (.seq (.reg [ ⟨some 4,none,.mv (.c (.sc (.bool true)))⟩]) .ret))))
def sh_plain_SameExprs (a0 a1 : AV) (σ : Hp) (n : Nat) (R : AEnd → Hp → Nat → Prop) : Prop :=
 bindP (aLen false a0) fun v1 => bnd σ a0 →
 bindP (aLen false a1) fun v2 => bnd σ a1 →
 bindP (semBin .neq v1 v2) fun v3 =>
 COND v3 (
 R (.ret (.sc (.bool false))) σ n) (
 LOOP (lb_plain_SameExprs2 a0 a1 R) [(.tp []), (.tp []), (.sc (.bool false)), (.sc (.int .i64 0))] σ n)
theorem se_plain_SameExprs (a0 a1 : AV) (σ : Hp) (n : Nat) (R : AEnd → Hp → Nat → Prop) : sh_plain_SameExprs a0 a1 σ n R = swp Tryd.prog sc_plain_SameExprs (retQ [(.t 4)] R) (entry [a0, a1]) σ n := by kernel_rfl
theorem by_plain_SameExprs {a0 a1 : AV} {σ : Hp} {n : Nat} {R : AEnd → Hp → Nat → Prop} (h : sh_plain_SameExprs a0 a1 σ n R) : ConH Tryd.prog 34 [a0, a1] σ n R := by
  rw [se_plain_SameExprs] at h
  exact conH_of [(.t 4)] (fn := Tryd.f34) rfl [10, 14, 0, 1, 26, 5, 4] (by kernel_rfl) (by kernel_rfl) (by kernel_rfl) (by kernel_rfl) h
def sc_syntax_told : SCode := (.seq (.reg [ ⟨some 7,none,.mv (.t 0)⟩,⟨some 8,none,.tas 28 (.int .i64 0) (.t 7)⟩,⟨some 6,none,.mv (.t 8)⟩,⟨some 9,none,.ext (.t 6) 0⟩,⟨some 10,none,.ext (.t 6) 1⟩,⟨some 4,none,.mv (.t 9)⟩,⟨some 5,none,.mv (.t 10)⟩]) (.seq (.reg [ ⟨some 11,none,.mv (.t 5)⟩]) (.cond (.t 11) (.reg [ ⟨some 12,none,.mv (.t 1)⟩,⟨some 13,none,.mv (.t 4)⟩,⟨some 14,none,.nck (.t 12)⟩,⟨none,none,(.st 1 (.t 14) (.t 13))⟩]) .skip)))
def sh_syntax_told (a0 a1 : AV) (σ : Hp) (n : Nat) (R : AEnd → Hp → Nat → Prop) : Prop :=
 bindP (aTas 28 (.int .i64 0) a0) fun v1 =>
 bindP (aExt v1 0) fun v2 =>
 bindP (aExt v1 1) fun v3 =>
 COND v3 (
 bindP (aNck a1) fun v4 =>
 bindS (hSt σ 1 v4 v2) σ n fun v5 σ n =>
 R (.ret (.tp [])) σ n) (
 R (.ret (.tp [])) σ n)
theorem se_syntax_told (a0 a1 : AV) (σ : Hp) (n : Nat) (R : AEnd → Hp → Nat → Prop) : sh_syntax_told a0 a1 σ n R = swp Tryd.prog sc_syntax_told (retQ [] R) (entry [a0, a1]) σ n := by kernel_rfl
theorem by_syntax_told {a0 a1 : AV} {σ : Hp} {n : Nat} {R : AEnd → Hp → Nat → Prop} (h : sh_syntax_told a0 a1 σ n R) : ConH Tryd.prog 31 [a0, a1] σ n R := by
  rw [se_syntax_told] at h
  exact conH_of [] (fn := Tryd.f31) rfl [0, 5, 11, 1, 4] (by kernel_rfl) (by kernel_rfl) (by kernel_rfl) (by kernel_rfl) h
def kc_psyntax_walker_walk1 (s23 : List AV) (K23 : List AV → Hp → Nat → Prop) (v24 : AV) (v27 : AV) (R : AEnd → Hp → Nat → Prop) (r : AEnd) (σ : Hp) (n : Nat) : Prop :=
 onEnd r (fun v31 =>
 bindP (semBin .add (s23.getD 2 .any) (.sc (.int .i64 1))) fun v33 =>
 K23 [v24, v27, v33] σ n) (fun v32 => R (.pan v32) σ n)
def lb_psyntax_walker_walk2 (v22 : AV) (v21 : AV) (a2 : AV) (a0 : AV) (R : AEnd → Hp → Nat → Prop) (K23 : List AV → Hp → Nat → Prop) (s23 : List AV) (σ : Hp) (n : Nat) : Prop :=
 bindP (semBin .lss (s23.getD 2 .any) v22) fun v24 =>
 COND v24 (
 bindP (aIad 7 v21 (s23.getD 2 .any)) fun v25 =>
 bindP (aLd σ (some 7) v25) fun v26 =>
 bindS (hAlloc n [(.int .i64 0), (.int .i64 0), (.int .i64 0), (.string ⟨#[]⟩), (.string ⟨#[]⟩), (.string ⟨#[]⟩), (.slice none 0 0)]) σ n fun v27 σ n =>
 bindS (hSt σ 7 v27 v26) σ n fun v28 σ n =>
 bindP (aLd σ (some 7) v27) fun v29 =>
 bindP (semBin .add a2 (.sc (.int .i64 1))) fun v30 =>
 CALL Tryd.prog (.fn 32 []) [a0, v29, v30] σ n (kc_psyntax_walker_walk1 s23 K23 v24 v27 R)) (
 R (.ret (.tp [])) σ n)
def kc_psyntax_walker_walk3 (a0 : AV) (v1 : AV) (a2 : AV) (R : AEnd → Hp → Nat → Prop) (r : AEnd) (σ : Hp) (n : Nat) : Prop :=
 onEnd r (fun v13 =>
 bindP (aNck a0) fun v15 =>
 bindP (aLd σ none v15) fun v16 =>
 bindP (semBin .add v16 (.sc (.int .i64 1))) fun v17 =>
 bindP (aNck a0) fun v18 =>
 bindS (hSt σ 1 v18 v17) σ n fun v19 σ n =>
 bindP (aFad 6 v1) fun v20 =>
 bindP (aLd σ none v20) fun v21 =>
 bindP (aLen false v21) fun v22 => bnd σ v21 →
 LOOP (lb_psyntax_walker_walk2 v22 v21 a2 a0 R) [(.tp []), (.tp []), (.sc (.int .i64 0))] σ n) (fun v14 => R (.pan v14) σ n)
def kc_psyntax_walker_walk4 (a0 : AV) (v1 : AV) (a2 : AV) (R : AEnd → Hp → Nat → Prop) (r : AEnd) (σ : Hp) (n : Nat) : Prop :=
 onEnd r (fun v11 =>
 CALL Tryd.prog (.fn 62 []) [v11, (.sc (.int .i64 9))] σ n (kc_psyntax_walker_walk3 a0 v1 a2 R)) (fun v12 => R (.pan v12) σ n)
def kc_psyntax_walker_walk5 (v1 : AV) (a0 : AV) (a2 : AV) (R : AEnd → Hp → Nat → Prop) (r : AEnd) (σ : Hp) (n : Nat) : Prop :=
 onEnd r (fun v8 =>
 bindP (aLd σ (some 7) v1) fun v10 =>
 CALL Tryd.prog (.fn 63 []) [v10] σ n (kc_psyntax_walker_walk4 a0 v1 a2 R)) (fun v9 => R (.pan v9) σ n)
def kc_psyntax_walker_walk6 (a0 : AV) (v1 : AV) (a2 : AV) (R : AEnd → Hp → Nat → Prop) (r : AEnd) (σ : Hp) (n : Nat) : Prop :=
 onEnd r (fun v3 =>
 bindP (aNck a0) fun v5 =>
 bindP (aLd σ none v5) fun v6 =>
 bindP (semBin .lss v6 (.sc (.int .i64 64))) fun v7 =>
 CALL Tryd.prog (.fn 62 []) [v7, (.sc (.int .i64 3))] σ n (kc_psyntax_walker_walk5 v1 a0 a2 R)) (fun v4 => R (.pan v4) σ n)
attribute [go_sem] kc_psyntax_walker_walk1 lb_psyntax_walker_walk2 kc_psyntax_walker_walk3 kc_psyntax_walker_walk4 kc_psyntax_walker_walk5 kc_psyntax_walker_walk6
def sc_psyntax_walker_walk : SCode := (.seq (.reg [ ⟨some 4,none,.box (.t 1)⟩]) (.seq (.reg [ ⟨some 8,none,.mv (.t 2)⟩,⟨some 9,none,.bin .leq (.t 8) (.c (.sc (.int .i64 12)))⟩,⟨some 10,none,.call (.c (.fn 62 [])) [(.t 9),(.c (.sc (.int .i64 10)))]⟩]) (.seq (.reg [ ⟨some 11,none,.mv (.t 0)⟩,⟨some 12,none,.nck (.t 11)⟩,⟨some 13,none,.ld none (.t 12)⟩,⟨some 14,none,.bin .lss (.t 13) (.c (.sc (.int .i64 64)))⟩,⟨some 15,none,.call (.c (.fn 62 [])) [(.t 14),(.c (.sc (.int .i64 3)))]⟩]) (.seq (.reg [ ⟨some 16,none,.ld (some 7) (.t 4)⟩,⟨some 17,none,.call (.c (.fn 63 [])) [(.t 16)]⟩,⟨some 18,none,.call (.c (.fn 62 [])) [(.t 17),(.c (.sc (.int .i64 9)))]⟩]) (.seq (.reg [ ⟨some 19,none,.mv (.t 0)⟩,⟨some 20,none,.nck (.t 19)⟩,⟨some 21,none,.ld none (.t 20)⟩,⟨some 22,none,.bin .add (.t 21) (.c (.sc (.int .i64 1)))⟩,⟨some 23,none,.nck (.t 19)⟩,⟨none,none,(.st 1 (.t 23) (.t 22))⟩]) (.seq (.reg [ ⟨some 24,none,.fad 6 (.t 4)⟩,⟨some 25,none,.ld none (.t 24)⟩,⟨some 26,none,.len false (.t 25)⟩,⟨some 27,none,.mv (.c (.sc (.int .i64 0)))⟩]) (.block 0 (.loop [28,7,27] [28,29,30,7,31,32,33,34,35,36,27] (.seq (.reg [ ⟨some 28,none,.bin .lss (.t 27) (.t 26)⟩]) (.seq (.cond (.t 28) .skip (.exit 0)) (.seq (.block 1 (.seq (.reg [ ⟨some 29,none,.iad 7 (.t 25) (.t 27)⟩,⟨some 30,none,.ld (some 7) (.t 29)⟩,⟨some 7,none,.alloc [(.int .i64 0),(.int .i64 0),(.int .i64 0),(.string ⟨#[]⟩),(.string ⟨#[]⟩),(.string ⟨#[]⟩),(.slice none 0 0)]⟩,⟨none,none,(.st 7 (.t 7) (.t 30))⟩]) (.reg [ ⟨some 31,none,.mv (.t 0)⟩,⟨some 32,none,.ld (some 7) (.t 7)⟩,⟨some 33,none,.mv (.t 2)⟩,⟨some 34,none,.bin .add (.t 33) (.c (.sc (.int .i64 1)))⟩,⟨some 35,none,.call (.c (.fn 32 [])) [(.t 31),(.t 32),(.t 34)]⟩]))) (.reg [ ⟨some 36,none,.bin .add (.t 27) (.c (.sc (.int .i64 1)))⟩,⟨some 27,none,.mv (.t 36)⟩]))))))))))))
def sh_psyntax_walker_walk (a0 a1 a2 : AV) (σ : Hp) (n : Nat) (R : AEnd → Hp → Nat → Prop) : Prop :=
 bindS (hBox n a1) σ n fun v1 σ n =>
 bindP (semBin .leq a2 (.sc (.int .i64 12))) fun v2 =>
 CALL Tryd.prog (.fn 62 []) [v2, (.sc (.int .i64 10))] σ n (kc_psyntax_walker_walk6 a0 v1 a2 R)
theorem se_psyntax_walker_walk (a0 a1 a2 : AV) (σ : Hp) (n : Nat) (R : AEnd → Hp → Nat → Prop) : sh_psyntax_walker_walk a0 a1 a2 σ n R = swp Tryd.prog sc_psyntax_walker_walk (retQ [] R) (entry [a0, a1, a2]) σ n := by kernel_rfl
theorem by_psyntax_walker_walk {a0 a1 a2 : AV} {σ : Hp} {n : Nat} {R : AEnd → Hp → Nat → Prop} (h : sh_psyntax_walker_walk a0 a1 a2 σ n R) : ConH Tryd.prog 32 [a0, a1, a2] σ n R := by
  rw [se_psyntax_walker_walk] at h
  exact conH_of [] (fn := Tryd.f32) rfl [1, 4, 26, 28, 25, 0, 7, 2, 27] (by kernel_rfl) (by kernel_rfl) (by kernel_rfl) (by kernel_rfl) h
def kc_slices_IndexFunc_lapi_Column_api_Column1 (R : AEnd → Hp → Nat → Prop) (s2 : List AV) (K2 : List AV → Hp → Nat → Prop) (v3 : AV) (r : AEnd) (σ : Hp) (n : Nat) : Prop :=
 onEnd r (fun v6 =>
 COND v6 (
 R (.ret (s2.getD 4 .any)) σ n) (
 bindP (semBin .add (s2.getD 4 .any) (.sc (.int .i64 1))) fun v8 =>
 K2 [v3, (s2.getD 4 .any), v6, (s2.getD 3 .any), v8] σ n)) (fun v7 => R (.pan v7) σ n)
def lb_slices_IndexFunc_lapi_Column_api_Column2 (v1 : AV) (a0 : AV) (a1 : AV) (R : AEnd → Hp → Nat → Prop) (K2 : List AV → Hp → Nat → Prop) (s2 : List AV) (σ : Hp) (n : Nat) : Prop :=
 bindP (semBin .lss (s2.getD 4 .any) v1) fun v3 =>
 COND v3 (
 bindP (aIad 3 a0 (s2.getD 4 .any)) fun v4 =>
 bindP (aLd σ (some 3) v4) fun v5 =>
 CALL Tryd.prog a1 [v5] σ n (kc_slices_IndexFunc_lapi_Column_api_Column1 R s2 K2 v3)) (
 R (.ret (.sc (.int .i64 (-1)))) σ n)
attribute [go_sem] kc_slices_IndexFunc_lapi_Column_api_Column1 lb_slices_IndexFunc_lapi_Column_api_Column2
def sc_slices_IndexFunc_lapi_Column_api_Column : SCode := (.seq (.reg [ ⟨some 4,none,.mv (.c (.sc (.int .i64 0)))⟩]) (.seq (.seq (.reg [ ⟨some 6,none,.mv (.t 0)⟩,⟨some 7,none,.len false (.t 6)⟩,⟨some 8,none,.mv (.c (.sc (.int .i64 0)))⟩]) (.block 0 (.loop [9,5,16,4,8] [9,10,5,11,12,13,14,15,16,17,4,18,8] (.seq (.reg [ ⟨some 9,none,.bin .lss (.t 8) (.t 7)⟩]) (.seq (.cond (.t 9) .skip (.exit 0)) (.seq (.block 1 (.seq (.reg [ ⟨some 10,none,.mv (.t 8)⟩,⟨some 5,none,.mv (.t 10)⟩]) (.seq (.reg [ ⟨some 11,none,.mv (.t 1)⟩,⟨some 12,none,.mv (.t 0)⟩,⟨some 13,none,.mv (.t 5)⟩,⟨some 14,none,.iad 3 (.t 12) (.t 13)⟩,⟨some 15,none,.ld (some 3) (.t 14)⟩,⟨some 16,none,.call (.t 11) [(.t 15)]⟩]) (.cond (.t 16) (.seq (.reg [ ⟨some 17,none,.mv (.t 5)⟩,⟨some 4,none,.mv (.t 17)⟩]) .ret) .skip)))) (.reg [ ⟨some 18,none,.bin .add (.t 8) (.c (.sc (.int .i64 1)))⟩,⟨some 8,none,.mv (.t 18)⟩]))))))) (.seq (.reg [ ⟨(some 4),none,(.mv (.c (.sc (.int .i64 (-1)))))⟩]) .ret)))
def sh_slices_IndexFunc_lapi_Column_api_Column (a0 a1 : AV) (σ : Hp) (n : Nat) (R : AEnd → Hp → Nat → Prop) : Prop :=
 bindP (aLen false a0) fun v1 => bnd σ a0 →
 LOOP (lb_slices_IndexFunc_lapi_Column_api_Column2 v1 a0 a1 R) [(.tp []), (.tp []), (.tp []), (.sc (.int .i64 0)), (.sc (.int .i64 0))] σ n
theorem se_slices_IndexFunc_lapi_Column_api_Column (a0 a1 : AV) (σ : Hp) (n : Nat) (R : AEnd → Hp → Nat → Prop) : sh_slices_IndexFunc_lapi_Column_api_Column a0 a1 σ n R = swp Tryd.prog sc_slices_IndexFunc_lapi_Column_api_Column (retQ [(.t 4)] R) (entry [a0, a1]) σ n := by kernel_rfl
theorem by_slices_IndexFunc_lapi_Column_api_Column {a0 a1 : AV} {σ : Hp} {n : Nat} {R : AEnd → Hp → Nat → Prop} (h : sh_slices_IndexFunc_lapi_Column_api_Column a0 a1 σ n R) : ConH Tryd.prog 120 [a0, a1] σ n R := by
  rw [se_slices_IndexFunc_lapi_Column_api_Column] at h
  exact conH_of [(.t 4)] (fn := Tryd.f120) rfl [7, 9, 1, 0, 16, 5, 8, 4] (by kernel_rfl) (by kernel_rfl) (by kernel_rfl) (by kernel_rfl) h
def jk_value_Check1 (R : AEnd → Hp → Nat → Prop) (s2 : List AV) (σ : Hp) (n : Nat) : Prop :=
 bindP (aUn .not (s2.getD 5 .any)) fun v3 =>
 COND v3 (
 R (.ret (.sc (.int .i64 9))) σ n) (
 R (.ret (.sc (.int .i64 0))) σ n)
attribute [go_sem] jk_value_Check1
def sc_value_Check : SCode := (.seq (.reg [ ⟨some 1,none,.box (.t 0)⟩,⟨some 2,none,.mv (.c (.sc (.int .i64 0)))⟩]) (.seq (.reg [ ⟨some 3,none,.mv (.c (.sc (.bool false)))⟩]) (.seqJ [5,6,11,16,27,3] [4,5,7,6,8,9,10,3,12,11,13,14,15,3,17,16,18,19,20,21,22,23,24,25,26,3,28,27,29,30,31,32,33,34,35,36,37,3] (.seq (.reg [ ⟨some 4,none,.fad 0 (.t 1)⟩,⟨some 5,none,.ld none (.t 4)⟩]) (.block 0 (.seq (.reg [ ⟨some 7,none,.bin .eql (.t 5) (.c (.sc (.int .i64 0)))⟩,⟨some 6,none,.mv (.t 7)⟩]) (.cond (.t 6) (.reg [ ⟨some 8,none,.ld (some 3) (.t 1)⟩,⟨some 9,none,.build [(.int .i64 0),(.int .i64 0),(.string ⟨#[]⟩)] []⟩,⟨some 10,none,.eqs [0,0,2] false (.t 8) (.t 9)⟩,⟨some 3,none,.mv (.t 10)⟩]) (.seq (.reg [ ⟨some 12,none,.bin .eql (.t 5) (.c (.sc (.int .i64 1)))⟩,⟨some 11,none,.mv (.t 12)⟩]) (.cond (.t 11) (.reg [ ⟨some 13,none,.fad 2 (.t 1)⟩,⟨some 14,none,.ld none (.t 13)⟩,⟨some 15,none,.bin .eql (.t 14) (.c (.s []))⟩,⟨some 3,none,.mv (.t 15)⟩]) (.seq (.reg [ ⟨some 17,none,.bin .eql (.t 5) (.c (.sc (.int .i64 2)))⟩,⟨some 16,none,.mv (.t 17)⟩]) (.cond (.t 16) (.reg [ ⟨some 18,none,.fad 2 (.t 1)⟩,⟨some 19,none,.ld none (.t 18)⟩,⟨some 20,none,.bin .eql (.t 19) (.c (.s []))⟩,⟨some 21,none,.mv (.t 20)⟩,⟨(some 22),(some (21,true)),(.fad 1 (.t 1))⟩,⟨(some 23),(some (21,true)),(.ld none (.t 22))⟩,⟨(some 24),(some (21,true)),(.cvi .u64 (.t 23))⟩,⟨(some 25),(some (21,true)),(.bin .leq (.t 24) (.c (.sc (.int .u64 1))))⟩,⟨some 26,none,.pick (.t 21) (.t 25) (.c (.sc (.bool false)))⟩,⟨some 3,none,.mv (.t 26)⟩]) (.seq (.reg [ ⟨some 28,none,.bin .eql (.t 5) (.c (.sc (.int .i64 3)))⟩,⟨some 27,none,.mv (.t 28)⟩]) (.cond (.t 27) (.reg [ ⟨some 29,none,.fad 1 (.t 1)⟩,⟨some 30,none,.ld none (.t 29)⟩,⟨some 31,none,.bin .eql (.t 30) (.c (.sc (.int .i64 0)))⟩,⟨some 32,none,.mv (.t 31)⟩,⟨(some 33),(some (32,true)),(.fad 2 (.t 1))⟩,⟨(some 34),(some (32,true)),(.ld none (.t 33))⟩,⟨(some 35),(some (32,true)),(.len true (.t 34))⟩,⟨(some 36),(some (32,true)),(.bin .leq (.t 35) (.c (.sc (.int .i64 64))))⟩,⟨some 37,none,.pick (.t 32) (.t 36) (.c (.sc (.bool false)))⟩,⟨some 3,none,.mv (.t 37)⟩]) .skip)))))))))) (.seq (.seq (.reg [ ⟨some 38,none,.mv (.t 3)⟩,⟨some 39,none,.un .not (.t 38)⟩]) (.cond (.t 39) (.seq (.reg [ ⟨some 2,none,.mv (.c (.sc (.int .i64 9)))⟩]) .ret) .skip)) (.seq (.reg [ ⟨some 2,none,.mv (.c (.sc (.int .i64 0)))⟩]) .ret)))))
def sh_value_Check (a0 : AV) (σ : Hp) (n : Nat) (R : AEnd → Hp → Nat → Prop) : Prop :=
 bindS (hBox n a0) σ n fun v1 σ n =>
 JOIN (jk_value_Check1 R) fun K2 =>
 bindP (aFad 0 v1) fun v4 =>
 bindP (aLd σ none v4) fun v5 =>
 bindP (semBin .eql v5 (.sc (.int .i64 0))) fun v6 =>
 COND v6 (
 bindP (aLd σ (some 3) v1) fun v7 =>
 bindP (aBuild [(.int .i64 0), (.int .i64 0), (.string ⟨#[]⟩)] []) fun v8 =>
 bindP (aEqs [0, 0, 2] false v7 v8) fun v9 =>
 K2 [v5, v6, (.tp []), (.tp []), (.tp []), v9] σ n) (
 bindP (semBin .eql v5 (.sc (.int .i64 1))) fun v10 =>
 COND v10 (
 bindP (aFad 2 v1) fun v11 =>
 bindP (aLd σ none v11) fun v12 =>
 bindP (semBin .eql v12 (.s [])) fun v13 =>
 K2 [v5, v6, v10, (.tp []), (.tp []), v13] σ n) (
 bindP (semBin .eql v5 (.sc (.int .i64 2))) fun v14 =>
 COND v14 (
 bindP (aFad 2 v1) fun v15 =>
 bindP (aLd σ none v15) fun v16 =>
 bindP (semBin .eql v16 (.s [])) fun v17 =>
 guardP v17 true (aFad 1 v1) fun v18 =>
 guardP v17 true (aLd σ none v18) fun v19 =>
 guardP v17 true (aCvi .u64 v19) fun v20 =>
 guardP v17 true (semBin .leq v20 (.sc (.int .u64 1))) fun v21 =>
 bindP (aPick v17 v21 (.sc (.bool false))) fun v22 =>
 K2 [v5, v6, v10, v14, (.tp []), v22] σ n) (
 bindP (semBin .eql v5 (.sc (.int .i64 3))) fun v23 =>
 COND v23 (
 bindP (aFad 1 v1) fun v24 =>
 bindP (aLd σ none v24) fun v25 =>
 bindP (semBin .eql v25 (.sc (.int .i64 0))) fun v26 =>
 guardP v26 true (aFad 2 v1) fun v27 =>
 guardP v26 true (aLd σ none v27) fun v28 =>
 guardP v26 true (aLen true v28) fun v29 =>
 guardP v26 true (semBin .leq v29 (.sc (.int .i64 64))) fun v30 =>
 bindP (aPick v26 v30 (.sc (.bool false))) fun v31 =>
 K2 [v5, v6, v10, v14, v23, v31] σ n) (
 K2 [v5, v6, v10, v14, v23, (.sc (.bool false))] σ n))))
theorem se_value_Check (a0 : AV) (σ : Hp) (n : Nat) (R : AEnd → Hp → Nat → Prop) : sh_value_Check a0 σ n R = swp Tryd.prog sc_value_Check (retQ [(.t 2)] R) (entry [a0]) σ n := by kernel_rfl
theorem by_value_Check {a0 : AV} {σ : Hp} {n : Nat} {R : AEnd → Hp → Nat → Prop} (h : sh_value_Check a0 σ n R) : ConH Tryd.prog 105 [a0] σ n R := by
  rw [se_value_Check] at h
  exact conH_of [(.t 2)] (fn := Tryd.f105) rfl [0, 6, 11, 16, 5, 27, 1, 3, 39, 2] (by kernel_rfl) (by kernel_rfl) (by kernel_rfl) (by kernel_rfl) h
def sc_syntax_need : SCode := (.seq (.reg [ ⟨some 4,none,.mv (.t 0)⟩,⟨some 5,none,.un .not (.t 4)⟩]) (.cond (.t 5) (.reg [ ⟨some 6,none,.mv (.t 1)⟩,⟨some 7,none,.mki 28 (.t 6)⟩,⟨none,none,(.pan (.t 7))⟩]) .skip))
def sh_syntax_need (a0 a1 : AV) (σ : Hp) (n : Nat) (R : AEnd → Hp → Nat → Prop) : Prop :=
 bindP (aUn .not a0) fun v1 =>
 COND v1 (
 bindP (aMki 28 a1) fun v2 =>
 PAN v2 fun v3 => R (.pan v3) σ n) (
 R (.ret (.tp [])) σ n)
theorem se_syntax_need (a0 a1 : AV) (σ : Hp) (n : Nat) (R : AEnd → Hp → Nat → Prop) : sh_syntax_need a0 a1 σ n R = swp Tryd.prog sc_syntax_need (retQ [] R) (entry [a0, a1]) σ n := by kernel_rfl
theorem by_syntax_need {a0 a1 : AV} {σ : Hp} {n : Nat} {R : AEnd → Hp → Nat → Prop} (h : sh_syntax_need a0 a1 σ n R) : ConH Tryd.prog 62 [a0, a1] σ n R := by
  rw [se_syntax_need] at h
  exact conH_of [] (fn := Tryd.f62) rfl [0, 5, 1] (by kernel_rfl) (by kernel_rfl) (by kernel_rfl) (by kernel_rfl) h
def kc_syntax_part1 (Kg : AV → Hp → Nat → Prop) (R : AEnd → Hp → Nat → Prop) (r : AEnd) (σ : Hp) (n : Nat) : Prop :=
 onEnd r (fun v27 =>
 Kg v27 σ n) (fun v28 => R (.pan v28) σ n)
def kc_syntax_part2 (Kg : AV → Hp → Nat → Prop) (R : AEnd → Hp → Nat → Prop) (r : AEnd) (σ : Hp) (n : Nat) : Prop :=
 onEnd r (fun v50 =>
 Kg v50 σ n) (fun v51 => R (.pan v51) σ n)
def kc_syntax_part3 (Kg : AV → Hp → Nat → Prop) (R : AEnd → Hp → Nat → Prop) (r : AEnd) (σ : Hp) (n : Nat) : Prop :=
 onEnd r (fun v60 =>
 Kg v60 σ n) (fun v61 => R (.pan v61) σ n)
def kc_syntax_part4 (v1 : AV) (R : AEnd → Hp → Nat → Prop) (r : AEnd) (σ : Hp) (n : Nat) : Prop :=
 onEnd r (fun v4 =>
 bindP (aExt v4 0) fun v6 =>
 bindP (aExt v4 1) fun v7 =>
 bindP (aUn .not v7) fun v8 =>
 guardP v8 false (some v6) fun v9 =>
 guardP v8 false (aFad 6 v1) fun v10 =>
 guardP v8 false (aLd σ none v10) fun v11 =>
 guardP v8 false (aLen false v11) fun v12 =>
 guardP v8 false (semBin .neq v9 v12) fun v13 =>
 bindP (aPick v8 (.sc (.bool true)) v13) fun v14 =>
 COND v14 (
 R (.ret (.sc (.bool false))) σ n) (
 bindP (aFad 0 v1) fun v15 =>
 bindP (aLd σ none v15) fun v16 =>
 bindP (semBin .eql v16 (.sc (.int .i64 0))) fun v17 =>
 COND v17 (
 bindP (aFad 4 v1) fun v18 =>
 bindP (aLd σ none v18) fun v19 =>
 bindP (aFad 5 v1) fun v20 =>
 bindP (aLd σ none v20) fun v21 =>
 bindP (semBin .add v19 v21) fun v22 =>
 bindP (semBin .eql v22 (.s [])) fun v23 =>
 guardP v23 true (aFad 1 v1) fun v24 =>
 guardP v23 true (aLd σ (some 3) v24) fun v25 =>
 guardK v23 true (fun Kg => CALL Tryd.prog (.fn 105 []) [v25] σ n (kc_syntax_part1 Kg R)) σ n fun v26 σ n =>
 guardP v23 true (semBin .eql v26 (.sc (.int .i64 0))) fun v29 =>
 bindP (aPick v23 v29 (.sc (.bool false))) fun v30 =>
 guardP v30 true (aFad 1 v1) fun v31 =>
 guardP v30 true (aFad 0 v31) fun v32 =>
 guardP v30 true (aLd σ none v32) fun v33 =>
 guardP v30 true (semBin .neq v33 (.sc (.int .i64 1))) fun v34 =>
 guardP v30 true (some v34) fun v35 =>
 guardP v35 false (aFad 1 v1) fun v36 =>
 guardP v35 false (aFad 1 v36) fun v37 =>
 guardP v35 false (aLd σ none v37) fun v38 =>
 guardP v35 false (semBin .geq v38 (.sc (.int .i64 0))) fun v39 =>
 guardP v30 true (aPick v35 (.sc (.bool true)) v39) fun v40 =>
 bindP (aPick v30 v40 (.sc (.bool false))) fun v41 =>
 R (.ret v41) σ n) (
 bindP (semBin .eql v16 (.sc (.int .i64 1))) fun v42 =>
 COND v42 (
 bindP (aFad 1 v1) fun v43 =>
 bindP (aLd σ (some 3) v43) fun v44 =>
 bindP (aBuild [(.int .i64 0), (.int .i64 0), (.string ⟨#[]⟩)] []) fun v45 =>
 bindP (aEqs [0, 0, 2] false v44 v45) fun v46 =>
 guardP v46 true (aFad 5 v1) fun v47 =>
 guardP v46 true (aLd σ none v47) fun v48 =>
 guardK v46 true (fun Kg => CALL Tryd.prog (.fn 25 []) [v48] σ n (kc_syntax_part2 Kg R)) σ n fun v49 σ n =>
 bindP (aPick v46 v49 (.sc (.bool false))) fun v52 =>
 guardP v52 true (aFad 4 v1) fun v53 =>
 guardP v52 true (aLd σ none v53) fun v54 =>
 guardP v52 true (semBin .eql v54 (.s [])) fun v55 =>
 guardP v52 true (some v55) fun v56 =>
 guardP v56 false (aFad 4 v1) fun v57 =>
 guardP v56 false (aLd σ none v57) fun v58 =>
 guardK v56 false (fun Kg => CALL Tryd.prog (.fn 25 []) [v58] σ n (kc_syntax_part3 Kg R)) σ n fun v59 σ n =>
 guardP v52 true (aPick v56 (.sc (.bool true)) v59) fun v62 =>
 bindP (aPick v52 v62 (.sc (.bool false))) fun v63 =>
 R (.ret v63) σ n) (
 bindP (aFad 1 v1) fun v64 =>
 bindP (aLd σ (some 3) v64) fun v65 =>
 bindP (aBuild [(.int .i64 0), (.int .i64 0), (.string ⟨#[]⟩)] []) fun v66 =>
 bindP (aEqs [0, 0, 2] false v65 v66) fun v67 =>
 guardP v67 true (aFad 4 v1) fun v68 =>
 guardP v67 true (aLd σ none v68) fun v69 =>
 guardP v67 true (aFad 5 v1) fun v70 =>
 guardP v67 true (aLd σ none v70) fun v71 =>
 guardP v67 true (semBin .add v69 v71) fun v72 =>
 guardP v67 true (semBin .eql v72 (.s [])) fun v73 =>
 bindP (aPick v67 v73 (.sc (.bool false))) fun v74 =>
 R (.ret v74) σ n)))) (fun v5 => R (.pan v5) σ n)
attribute [go_sem] kc_syntax_part1 kc_syntax_part2 kc_syntax_part3 kc_syntax_part4
def sc_syntax_part : SCode := (.seq (.reg [ ⟨some 1,none,.box (.t 0)⟩,⟨some 2,none,.mv (.c (.sc (.bool false)))⟩]) (.seq (.reg [ ⟨some 6,none,.fad 0 (.t 1)⟩,⟨some 7,none,.ld none (.t 6)⟩,⟨some 8,none,.call (.c (.fn 104 [])) [(.t 7)]⟩,⟨some 5,none,.mv (.t 8)⟩,⟨some 9,none,.ext (.t 5) 0⟩,⟨some 10,none,.ext (.t 5) 1⟩,⟨some 3,none,.mv (.t 9)⟩,⟨some 4,none,.mv (.t 10)⟩]) (.seq (.seq (.reg [ ⟨some 11,none,.mv (.t 4)⟩,⟨some 12,none,.un .not (.t 11)⟩,⟨some 13,none,.mv (.t 12)⟩,⟨(some 14),(some (13,false)),(.mv (.t 3))⟩,⟨(some 15),(some (13,false)),(.fad 6 (.t 1))⟩,⟨(some 16),(some (13,false)),(.ld none (.t 15))⟩,⟨(some 17),(some (13,false)),(.len false (.t 16))⟩,⟨(some 18),(some (13,false)),(.bin .neq (.t 14) (.t 17))⟩,⟨some 19,none,.pick (.t 13) (.c (.sc (.bool true))) (.t 18)⟩]) (.cond (.t 19) (.seq (.reg [ ⟨some 2,none,.mv (.c (.sc (.bool false)))⟩]) .ret) .skip)) (.seq (.seq (.reg [ ⟨some 20,none,.fad 0 (.t 1)⟩,⟨some 21,none,.ld none (.t 20)⟩]) (.block 0 (.seq (.reg [ ⟨some 23,none,.bin .eql (.t 21) (.c (.sc (.int .i64 0)))⟩,⟨some 22,none,.mv (.t 23)⟩]) (.cond (.t 22) (.seq (.reg [ ⟨some 24,none,.fad 4 (.t 1)⟩,⟨some 25,none,.ld none (.t 24)⟩,⟨some 26,none,.fad 5 (.t 1)⟩,⟨some 27,none,.ld none (.t 26)⟩,⟨some 28,none,.bin .add (.t 25) (.t 27)⟩,⟨some 29,none,.bin .eql (.t 28) (.c (.s []))⟩,⟨some 30,none,.mv (.t 29)⟩,⟨(some 31),(some (30,true)),(.fad 1 (.t 1))⟩,⟨(some 32),(some (30,true)),(.ld (some 3) (.t 31))⟩,⟨(some 33),(some (30,true)),(.call (.c (.fn 105 [])) [(.t 32)])⟩,⟨(some 34),(some (30,true)),(.bin .eql (.t 33) (.c (.sc (.int .i64 0))))⟩,⟨some 35,none,.pick (.t 30) (.t 34) (.c (.sc (.bool false)))⟩,⟨some 36,none,.mv (.t 35)⟩,⟨(some 37),(some (36,true)),(.fad 1 (.t 1))⟩,⟨(some 38),(some (36,true)),(.fad 0 (.t 37))⟩,⟨(some 39),(some (36,true)),(.ld none (.t 38))⟩,⟨(some 40),(some (36,true)),(.bin .neq (.t 39) (.c (.sc (.int .i64 1))))⟩,⟨(some 41),(some (36,true)),(.mv (.t 40))⟩,⟨(some 42),(some (41,false)),(.fad 1 (.t 1))⟩,⟨(some 43),(some (41,false)),(.fad 1 (.t 42))⟩,⟨(some 44),(some (41,false)),(.ld none (.t 43))⟩,⟨(some 45),(some (41,false)),(.bin .geq (.t 44) (.c (.sc (.int .i64 0))))⟩,⟨(some 46),(some (36,true)),(.pick (.t 41) (.c (.sc (.bool true))) (.t 45))⟩,⟨some 47,none,.pick (.t 36) (.t 46) (.c (.sc (.bool false)))⟩,⟨some 2,none,.mv (.t 47)⟩]) .ret) (.seq (.reg [ ⟨some 49,none,.bin .eql (.t 21) (.c (.sc (.int .i64 1)))⟩,⟨some 48,none,.mv (.t 49)⟩]) (.cond (.t 48) (.seq (.reg [ ⟨some 50,none,.fad 1 (.t 1)⟩,⟨some 51,none,.ld (some 3) (.t 50)⟩,⟨some 52,none,.build [(.int .i64 0),(.int .i64 0),(.string ⟨#[]⟩)] []⟩,⟨some 53,none,.eqs [0,0,2] false (.t 51) (.t 52)⟩,⟨some 54,none,.mv (.t 53)⟩,⟨(some 55),(some (54,true)),(.fad 5 (.t 1))⟩,⟨(some 56),(some (54,true)),(.ld none (.t 55))⟩,⟨(some 57),(some (54,true)),(.call (.c (.fn 25 [])) [(.t 56)])⟩,⟨some 58,none,.pick (.t 54) (.t 57) (.c (.sc (.bool false)))⟩,⟨some 59,none,.mv (.t 58)⟩,⟨(some 60),(some (59,true)),(.fad 4 (.t 1))⟩,⟨(some 61),(some (59,true)),(.ld none (.t 60))⟩,⟨(some 62),(some (59,true)),(.bin .eql (.t 61) (.c (.s [])))⟩,⟨(some 63),(some (59,true)),(.mv (.t 62))⟩,⟨(some 64),(some (63,false)),(.fad 4 (.t 1))⟩,⟨(some 65),(some (63,false)),(.ld none (.t 64))⟩,⟨(some 66),(some (63,false)),(.call (.c (.fn 25 [])) [(.t 65)])⟩,⟨(some 67),(some (59,true)),(.pick (.t 63) (.c (.sc (.bool true))) (.t 66))⟩,⟨some 68,none,.pick (.t 59) (.t 67) (.c (.sc (.bool false)))⟩,⟨some 2,none,.mv (.t 68)⟩]) .ret) .skip)))))) (.seq (.reg [ ⟨some 69,none,.fad 1 (.t 1)⟩,⟨some 70,none,.ld (some 3) (.t 69)⟩,⟨some 71,none,.build [(.int .i64 0),(.int .i64 0),(.string ⟨#[]⟩)] []⟩,⟨some 72,none,.eqs [0,0,2] false (.t 70) (.t 71)⟩,⟨some 73,none,.mv (.t 72)⟩,⟨(some 74),(some (73,true)),(.fad 4 (.t 1))⟩,⟨(some 75),(some (73,true)),(.ld none (.t 74))⟩,⟨(some 76),(some (73,true)),(.fad 5 (.t 1))⟩,⟨(some 77),(some (73,true)),(.ld none (.t 76))⟩,⟨(some 78),(some (73,true)),(.bin .add (.t 75) (.t 77))⟩,⟨(some 79),(some (73,true)),(.bin .eql (.t 78) (.c (.s [])))⟩,⟨some 80,none,.pick (.t 73) (.t 79) (.c (.sc (.bool false)))⟩,⟨some 2,none,.mv (.t 80)⟩]) .ret)))))
def sh_syntax_part (a0 : AV) (σ : Hp) (n : Nat) (R : AEnd → Hp → Nat → Prop) : Prop :=
 bindS (hBox n a0) σ n fun v1 σ n =>
 bindP (aFad 0 v1) fun v2 =>
 bindP (aLd σ none v2) fun v3 =>
 CALL Tryd.prog (.fn 104 []) [v3] σ n (kc_syntax_part4 v1 R)
theorem se_syntax_part (a0 : AV) (σ : Hp) (n : Nat) (R : AEnd → Hp → Nat → Prop) : sh_syntax_part a0 σ n R = swp Tryd.prog sc_syntax_part (retQ [(.t 2)] R) (entry [a0]) σ n := by kernel_rfl
theorem by_syntax_part {a0 : AV} {σ : Hp} {n : Nat} {R : AEnd → Hp → Nat → Prop} (h : sh_syntax_part a0 σ n R) : ConH Tryd.prog 63 [a0] σ n R := by
  rw [se_syntax_part] at h
  exact conH_of [(.t 2)] (fn := Tryd.f63) rfl [0, 4, 3, 19, 22, 21, 48, 1, 2] (by kernel_rfl) (by kernel_rfl) (by kernel_rfl) (by kernel_rfl) h
def jk_syntax_Args1 (R : AEnd → Hp → Nat → Prop) (a0 : AV) (s2 : List AV) (σ : Hp) (n : Nat) : Prop :=
 COND (s2.getD 0 .any) (
 R (.ret (.tp [(.sc (.int .i64 1)), (.sc (.bool true))])) σ n) (
 bindP (semBin .geq a0 (.sc (.int .i64 4))) fun v3 =>
 guardP v3 true (some a0) fun v4 =>
 guardP v3 true (semBin .lss v4 (.sc (.int .i64 16))) fun v5 =>
 bindP (aPick v3 v5 (.sc (.bool false))) fun v6 =>
 R (.ret (.tp [(.sc (.int .i64 2)), v6])) σ n)
def jk_syntax_Args2 (R : AEnd → Hp → Nat → Prop) (a0 : AV) (s1 : List AV) (σ : Hp) (n : Nat) : Prop :=
 COND (s1.getD 0 .any) (
 R (.ret (.tp [(.sc (.int .i64 0)), (.sc (.bool true))])) σ n) (
 JOIN (jk_syntax_Args1 R a0) fun K2 =>
 bindP (semBin .eql a0 (.sc (.int .i64 2))) fun v7 =>
 COND v7 (
 K2 [v7] σ n) (
 bindP (semBin .eql a0 (.sc (.int .i64 3))) fun v8 =>
 COND v8 (
 K2 [v8] σ n) (
 bindP (semBin .eql a0 (.sc (.int .i64 16))) fun v9 =>
 COND v9 (
 K2 [v9] σ n) (
 bindP (semBin .eql a0 (.sc (.int .i64 17))) fun v10 =>
 COND v10 (
 K2 [v10] σ n) (
 bindP (semBin .eql a0 (.sc (.int .i64 19))) fun v11 =>
 COND v11 (
 K2 [v11] σ n) (
 bindP (semBin .eql a0 (.sc (.int .i64 20))) fun v12 =>
 COND v12 (
 K2 [v12] σ n) (
 bindP (semBin .eql a0 (.sc (.int .i64 21))) fun v13 =>
 COND v13 (
 K2 [v13] σ n) (
 bindP (semBin .eql a0 (.sc (.int .i64 22))) fun v14 =>
 K2 [v14] σ n))))))))
attribute [go_sem] jk_syntax_Args1 jk_syntax_Args2
def sc_syntax_Args : SCode := (.seq (.reg [ ⟨some 2,none,.mv (.c (.sc (.int .i64 0)))⟩,⟨some 3,none,.mv (.c (.sc (.bool false)))⟩]) (.seq (.seq (.reg [ ⟨some 4,none,.mv (.t 0)⟩]) (.block 0 (.seqJ [5] [6,5,7,5,8,5] (.seq (.reg [ ⟨some 6,none,.bin .eql (.t 4) (.c (.sc (.int .i64 0)))⟩,⟨some 5,none,.mv (.t 6)⟩]) (.cond (.t 5) .skip (.seq (.reg [ ⟨some 7,none,.bin .eql (.t 4) (.c (.sc (.int .i64 1)))⟩,⟨some 5,none,.mv (.t 7)⟩]) (.cond (.t 5) .skip (.reg [ ⟨some 8,none,.bin .eql (.t 4) (.c (.sc (.int .i64 18)))⟩,⟨some 5,none,.mv (.t 8)⟩]))))) (.cond (.t 5) (.seq (.reg [ ⟨some 2,none,.mv (.c (.sc (.int .i64 0)))⟩,⟨some 3,none,.mv (.c (.sc (.bool true)))⟩]) .ret) (.seqJ [9] [10,9,11,9,12,9,13,9,14,9,15,9,16,9,17,9] (.seq (.reg [ ⟨some 10,none,.bin .eql (.t 4) (.c (.sc (.int .i64 2)))⟩,⟨some 9,none,.mv (.t 10)⟩]) (.cond (.t 9) .skip (.seq (.reg [ ⟨some 11,none,.bin .eql (.t 4) (.c (.sc (.int .i64 3)))⟩,⟨some 9,none,.mv (.t 11)⟩]) (.cond (.t 9) .skip (.seq (.reg [ ⟨some 12,none,.bin .eql (.t 4) (.c (.sc (.int .i64 16)))⟩,⟨some 9,none,.mv (.t 12)⟩]) (.cond (.t 9) .skip (.seq (.reg [ ⟨some 13,none,.bin .eql (.t 4) (.c (.sc (.int .i64 17)))⟩,⟨some 9,none,.mv (.t 13)⟩]) (.cond (.t 9) .skip (.seq (.reg [ ⟨some 14,none,.bin .eql (.t 4) (.c (.sc (.int .i64 19)))⟩,⟨some 9,none,.mv (.t 14)⟩]) (.cond (.t 9) .skip (.seq (.reg [ ⟨some 15,none,.bin .eql (.t 4) (.c (.sc (.int .i64 20)))⟩,⟨some 9,none,.mv (.t 15)⟩]) (.cond (.t 9) .skip (.seq (.reg [ ⟨some 16,none,.bin .eql (.t 4) (.c (.sc (.int .i64 21)))⟩,⟨some 9,none,.mv (.t 16)⟩]) (.cond (.t 9) .skip (.reg [ ⟨some 17,none,.bin .eql (.t 4) (.c (.sc (.int .i64 22)))⟩,⟨some 9,none,.mv (.t 17)⟩]))))))))))))))) (.cond (.t 9) (.seq (.reg [ ⟨some 2,none,.mv (.c (.sc (.int .i64 1)))⟩,⟨some 3,none,.mv (.c (.sc (.bool true)))⟩]) .ret) .skip)))))) (.seq (.reg [ ⟨some 18,none,.mv (.t 0)⟩,⟨some 19,none,.bin .geq (.t 18) (.c (.sc (.int .i64 4)))⟩,⟨some 20,none,.mv (.t 19)⟩,⟨(some 21),(some (20,true)),(.mv (.t 0))⟩,⟨(some 22),(some (20,true)),(.bin .lss (.t 21) (.c (.sc (.int .i64 16))))⟩,⟨some 23,none,.pick (.t 20) (.t 22) (.c (.sc (.bool false)))⟩,⟨some 2,none,.mv (.c (.sc (.int .i64 2)))⟩,⟨some 3,none,.mv (.t 23)⟩]) .ret)))
def sh_syntax_Args (a0 : AV) (σ : Hp) (n : Nat) (R : AEnd → Hp → Nat → Prop) : Prop :=
 JOIN (jk_syntax_Args2 R a0) fun K1 =>
 bindP (semBin .eql a0 (.sc (.int .i64 0))) fun v15 =>
 COND v15 (
 K1 [v15] σ n) (
 bindP (semBin .eql a0 (.sc (.int .i64 1))) fun v16 =>
 COND v16 (
 K1 [v16] σ n) (
 bindP (semBin .eql a0 (.sc (.int .i64 18))) fun v17 =>
 K1 [v17] σ n))
theorem se_syntax_Args (a0 : AV) (σ : Hp) (n : Nat) (R : AEnd → Hp → Nat → Prop) : sh_syntax_Args a0 σ n R = swp Tryd.prog sc_syntax_Args (retQ [(.t 2), (.t 3)] R) (entry [a0]) σ n := by kernel_rfl
theorem by_syntax_Args {a0 : AV} {σ : Hp} {n : Nat} {R : AEnd → Hp → Nat → Prop} (h : sh_syntax_Args a0 σ n R) : ConH Tryd.prog 104 [a0] σ n R := by
  rw [se_syntax_Args] at h
  exact conH_of [(.t 2), (.t 3)] (fn := Tryd.f104) rfl [5, 4, 9, 0, 2, 3] (by kernel_rfl) (by kernel_rfl) (by kernel_rfl) (by kernel_rfl) h
def dk_syntax_CheckExpr1 (v2 : AV) (R : AEnd → Hp → Nat → Prop) (σ : Hp) (n : Nat) : Prop :=
 bindP (aLd σ none v2) fun v8 =>
 R (.ret v8) σ n
def dk_syntax_CheckExpr2 (v2 : AV) (R : AEnd → Hp → Nat → Prop) (σ : Hp) (n : Nat) : Prop :=
 bindP (aLd σ none v2) fun v9 =>
 R (.ret v9) σ n
def kc_syntax_CheckExpr3 (v2 : AV) (R : AEnd → Hp → Nat → Prop) (r : AEnd) (σ : Hp) (n : Nat) : Prop :=
 onEnd r (fun v5 =>
 bindS (hSt σ 1 v2 (.sc (.int .i64 0))) σ n fun v7 σ n =>
 DEF Tryd.prog (.fn 30 [v2]) none σ n (dk_syntax_CheckExpr1 v2 R)) (fun v6 => DEF Tryd.prog (.fn 30 [v2]) (some v6) σ n (dk_syntax_CheckExpr2 v2 R))
attribute [go_sem] dk_syntax_CheckExpr1 dk_syntax_CheckExpr2 kc_syntax_CheckExpr3
def sa_syntax_CheckExpr : SCode := (.seq (.reg [
   ⟨(some 1), none, (.box (.t 0))⟩,
    ⟨(some 2), none, (.alloc [(.int .i64 0)])⟩]) (.reg [
   ⟨(some 4), none, (.mkf 30 [(.t 2)])⟩]))
def sb_syntax_CheckExpr : SCode := (.seq (.reg [
   ⟨(some 3), none, (.alloc [(.int .i64 0)])⟩]) (.seq (.reg [
   ⟨(some 5), none, (.ld (some 7) (.t 1))⟩,
    ⟨(some 6), none, (.call (.c (.fn 32 [])) [(.t 3), (.t 5), (.c (.sc (.int .i64 1)))])⟩]) (.seq (.reg [
   ⟨none, none, (.st 1 (.t 2) (.c (.sc (.int .i64 0))))⟩]) .ret)))
def sh_syntax_CheckExpr (a0 : AV) (σ : Hp) (n : Nat) (R : AEnd → Hp → Nat → Prop) : Prop :=
 bindS (hBox n a0) σ n fun v1 σ n =>
 bindS (hAlloc n [(.int .i64 0)]) σ n fun v2 σ n =>
 DFN (.fn 30 [v2]) (
 bindS (hAlloc n [(.int .i64 0)]) σ n fun v3 σ n =>
 bindP (aLd σ (some 7) v1) fun v4 =>
 CALL Tryd.prog (.fn 32 []) [v3, v4, (.sc (.int .i64 1))] σ n (kc_syntax_CheckExpr3 v2 R))
theorem se_syntax_CheckExpr (a0 : AV) (σ : Hp) (n : Nat) (R : AEnd → Hp → Nat → Prop) : sh_syntax_CheckExpr a0 σ n R = swpD Tryd.prog sa_syntax_CheckExpr (.t 4) sb_syntax_CheckExpr [(.c 2 none)] R (entry [a0]) σ n := by kernel_rfl
theorem by_syntax_CheckExpr {a0 : AV} {σ : Hp} {n : Nat} {R : AEnd → Hp → Nat → Prop} (h : sh_syntax_CheckExpr a0 σ n R) : ConH Tryd.prog 14 [a0] σ n R := by
  rw [se_syntax_CheckExpr] at h
  exact conH_of_defer [(.c 2 none)] (fn := Tryd.f14) rfl [0, 1, 3, 2] (by kernel_rfl) (by kernel_rfl) (by kernel_rfl) (by kernel_rfl) h
def kc_syntax_CheckExpr_c11 (Rr : Hp → Nat → Prop) (r : AEnd) (σ : Hp) (n : Nat) : Prop :=
 onEnd r (fun v1 =>
 Rr σ n) (fun v2 => False)
attribute [go_sem] kc_syntax_CheckExpr_c11
def sc_syntax_CheckExpr_c1 : SCode := (.reg [ ⟨some 2,none,.call (.c (.fn 31 [])) [(.t 1),(.t 0)]⟩])
def sh_syntax_CheckExpr_c1 (a0 a1 : AV) (σ : Hp) (n : Nat) (Rr : Hp → Nat → Prop) : Prop :=
 CALL Tryd.prog (.fn 31 []) [a1, a0] σ n (kc_syntax_CheckExpr_c11 Rr)
theorem se_syntax_CheckExpr_c1 (a0 a1 : AV) (σ : Hp) (n : Nat) (R : Hp → Nat → Prop) : sh_syntax_CheckExpr_c1 a0 a1 σ n R = swp Tryd.prog sc_syntax_CheckExpr_c1 (recQ R) (put (entry [a0]) (some 1) a1) σ n := by kernel_rfl
theorem by_syntax_CheckExpr_c1 {a0 : AV} {pv : Option Value} {σ : Hp} {n : Nat} {R : Hp → Nat → Prop} (h : sh_syntax_CheckExpr_c1 a0 (recV pv) σ n R) : ConR Tryd.prog 30 [a0] σ n pv R := by
  rw [se_syntax_CheckExpr_c1] at h
  exact conR_of (fn := Tryd.f30) rfl [1, 0] (by kernel_rfl) (by kernel_rfl) (by kernel_rfl) rfl h
end Go.Proofs.YtodoejfkjimeaaaDoor
