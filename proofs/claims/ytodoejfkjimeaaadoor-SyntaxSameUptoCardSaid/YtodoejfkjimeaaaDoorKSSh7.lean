/- Packed by a program of this repo: Sh7. -/
import Derived.Test.YtodoejfkjimeaaaDoorKSMs
import Derived.Test.YtodoejfkjimeaaaDoorProg
set_option linter.unusedVariables false
set_option maxRecDepth 8000
namespace Go.Proofs.YtodoejfkjimeaaaDoor
open Go Am
def kc_plain_CopyExpr1 (v1 : AV) (v2 : AV) (R : AEnd → Hp → Nat → Prop) (r : AEnd) (σ : Hp) (n : Nat) : Prop :=
 onEnd r (fun v5 =>
 bindP (aFad 6 v1) fun v7 =>
 bindS (hSt σ 1 v7 v5) σ n fun v8 σ n =>
 bindP (aLd σ (some 7) v1) fun v9 =>
 bindS (hSt σ 7 v2 v9) σ n fun v10 σ n =>
 bindP (aLd σ (some 7) v2) fun v11 =>
 R (.ret v11) σ n) (fun v6 => R (.pan v6) σ n)
attribute [go_sem] kc_plain_CopyExpr1
def sc_plain_CopyExpr : SCode := (.seq (.reg [ ⟨some 1,none,.box (.t 0)⟩,⟨some 2,none,.alloc [(.int .i64 0),(.int .i64 0),(.int .i64 0),(.string ⟨#[]⟩),(.string ⟨#[]⟩),(.string ⟨#[]⟩),(.slice none 0 0)]⟩]) (.seq (.reg [ ⟨some 3,none,.fad 6 (.t 1)⟩,⟨some 4,none,.ld none (.t 3)⟩,⟨some 5,none,.call (.c (.fn 28 [])) [(.t 4)]⟩,⟨some 6,none,.fad 6 (.t 1)⟩,⟨none,none,(.st 1 (.t 6) (.t 5))⟩]) (.seq (.reg [ ⟨some 7,none,.ld (some 7) (.t 1)⟩,⟨none,none,(.st 7 (.t 2) (.t 7))⟩]) .ret)))
def sh_plain_CopyExpr (a0 : AV) (σ : Hp) (n : Nat) (R : AEnd → Hp → Nat → Prop) : Prop :=
 bindS (hBox n a0) σ n fun v1 σ n =>
 bindS (hAlloc n [(.int .i64 0), (.int .i64 0), (.int .i64 0), (.string ⟨#[]⟩), (.string ⟨#[]⟩), (.string ⟨#[]⟩), (.slice none 0 0)]) σ n fun v2 σ n =>
 bindP (aFad 6 v1) fun v3 =>
 bindP (aLd σ none v3) fun v4 =>
 CALL Tryd.prog (.fn 28 []) [v4] σ n (kc_plain_CopyExpr1 v1 v2 R)
theorem se_plain_CopyExpr (a0 : AV) (σ : Hp) (n : Nat) (R : AEnd → Hp → Nat → Prop) : sh_plain_CopyExpr a0 σ n R = swp Tryd.prog sc_plain_CopyExpr (retQ [(.c 2 (some 7))] R) (entry [a0]) σ n := by kernel_rfl
theorem by_plain_CopyExpr {a0 : AV} {σ : Hp} {n : Nat} {R : AEnd → Hp → Nat → Prop} (h : sh_plain_CopyExpr a0 σ n R) : ConH Tryd.prog 12 [a0] σ n R := by
  rw [se_plain_CopyExpr] at h
  exact conH_of [(.c 2 (some 7))] (fn := Tryd.f12) rfl [0, 1, 2] (by kernel_rfl) (by kernel_rfl) (by kernel_rfl) (by kernel_rfl) h
def kc_plain_CopyExprs1 (s1 : List AV) (K1 : List AV → Hp → Nat → Prop) (v3 : AV) (R : AEnd → Hp → Nat → Prop) (r : AEnd) (σ : Hp) (n : Nat) : Prop :=
 onEnd r (fun v6 =>
 bindS (hBsl σ n 7 [(.int .i64 0), (.int .i64 0), (.int .i64 0), (.string ⟨#[]⟩), (.string ⟨#[]⟩), (.string ⟨#[]⟩), (.slice none 0 0)] 1 [(0, v6)]) σ n fun v8 σ n =>
 bindS (hApp σ n 7 96 (s1.getD 1 .any) v8) σ n fun v9 σ n =>
 bindP (semBin .add (s1.getD 2 .any) (.sc (.int .i64 1))) fun v10 =>
 K1 [v3, v9, v10] σ n) (fun v7 => R (.pan v7) σ n)
def lb_plain_CopyExprs2 (a0 : AV) (R : AEnd → Hp → Nat → Prop) (K1 : List AV → Hp → Nat → Prop) (s1 : List AV) (σ : Hp) (n : Nat) : Prop :=
 bindP (aLen false a0) fun v2 => bnd σ a0 →
 bindP (semBin .lss (s1.getD 2 .any) v2) fun v3 =>
 COND v3 (
 bindP (aIad 7 a0 (s1.getD 2 .any)) fun v4 =>
 bindP (aLd σ (some 7) v4) fun v5 =>
 CALL Tryd.prog (.fn 12 []) [v5] σ n (kc_plain_CopyExprs1 s1 K1 v3 R)) (
 R (.ret (s1.getD 1 .any)) σ n)
attribute [go_sem] kc_plain_CopyExprs1 lb_plain_CopyExprs2
def sc_plain_CopyExprs : SCode := (.seq (.reg [ ⟨some 2,none,.mv (.c .em)⟩]) (.seq (.reg [ ⟨some 3,none,.mv (.c .em)⟩]) (.seq (.seq (.reg [ ⟨some 4,none,.mv (.c (.sc (.int .i64 0)))⟩]) (.block 0 (.loop [8,3,4] [5,6,7,8,11,12,13,14,15,16,17,18,3,9,10,4] (.seq (.seq (.reg [ ⟨some 5,none,.mv (.t 4)⟩,⟨some 6,none,.mv (.t 0)⟩,⟨some 7,none,.len false (.t 6)⟩,⟨some 8,none,.bin .lss (.t 5) (.t 7)⟩]) (.cond (.t 8) .skip (.exit 0))) (.seq (.block 1 (.reg [ ⟨some 11,none,.mv (.t 3)⟩,⟨some 12,none,.mv (.t 0)⟩,⟨some 13,none,.mv (.t 4)⟩,⟨some 14,none,.iad 7 (.t 12) (.t 13)⟩,⟨some 15,none,.ld (some 7) (.t 14)⟩,⟨some 16,none,.call (.c (.fn 12 [])) [(.t 15)]⟩,⟨some 17,none,.bsl 7 [(.int .i64 0),(.int .i64 0),(.int .i64 0),(.string ⟨#[]⟩),(.string ⟨#[]⟩),(.string ⟨#[]⟩),(.slice none 0 0)] 1 [(0,(.t 16))]⟩,⟨some 18,none,.app 7 96 (.t 11) (.t 17)⟩,⟨some 3,none,.mv (.t 18)⟩])) (.reg [ ⟨some 9,none,.mv (.t 4)⟩,⟨some 10,none,.bin .add (.t 9) (.c (.sc (.int .i64 1)))⟩,⟨some 4,none,.mv (.t 10)⟩])))))) (.seq (.reg [ ⟨some 19,none,.mv (.t 3)⟩,⟨some 2,none,.mv (.t 19)⟩]) .ret))))
def sh_plain_CopyExprs (a0 : AV) (σ : Hp) (n : Nat) (R : AEnd → Hp → Nat → Prop) : Prop :=
 LOOP (lb_plain_CopyExprs2 a0 R) [(.tp []), .em, (.sc (.int .i64 0))] σ n
theorem se_plain_CopyExprs (a0 : AV) (σ : Hp) (n : Nat) (R : AEnd → Hp → Nat → Prop) : sh_plain_CopyExprs a0 σ n R = swp Tryd.prog sc_plain_CopyExprs (retQ [(.t 2)] R) (entry [a0]) σ n := by kernel_rfl
theorem by_plain_CopyExprs {a0 : AV} {σ : Hp} {n : Nat} {R : AEnd → Hp → Nat → Prop} (h : sh_plain_CopyExprs a0 σ n R) : ConH Tryd.prog 28 [a0] σ n R := by
  rw [se_plain_CopyExprs] at h
  exact conH_of [(.t 2)] (fn := Tryd.f28) rfl [8, 0, 4, 3, 2] (by kernel_rfl) (by kernel_rfl) (by kernel_rfl) (by kernel_rfl) h
def kc_ref04_CheckExpr1 (R : AEnd → Hp → Nat → Prop) (r : AEnd) (σ : Hp) (n : Nat) : Prop :=
 onEnd r (fun v3 =>
 bindP (aExt v3 0) fun v5 =>
 bindP (aExt v3 1) fun v6 =>
 R (.ret v6) σ n) (fun v4 => R (.pan v4) σ n)
attribute [go_sem] kc_ref04_CheckExpr1
def sc_ref04_CheckExpr : SCode := (.seq (.reg [ ⟨some 1,none,.box (.t 0)⟩,⟨some 2,none,.mv (.c (.sc (.int .i64 0)))⟩]) (.seq (.reg [ ⟨some 6,none,.ld (some 7) (.t 1)⟩,⟨some 7,none,.call (.c (.fn 33 [])) [(.t 6),(.c (.sc (.int .i64 1))),(.c (.sc (.int .i64 0)))]⟩,⟨some 5,none,.mv (.t 7)⟩,⟨some 8,none,.ext (.t 5) 0⟩,⟨some 9,none,.ext (.t 5) 1⟩,⟨some 3,none,.mv (.t 8)⟩,⟨some 4,none,.mv (.t 9)⟩]) (.seq (.reg [ ⟨some 10,none,.mv (.t 4)⟩,⟨some 2,none,.mv (.t 10)⟩]) .ret)))
def sh_ref04_CheckExpr (a0 : AV) (σ : Hp) (n : Nat) (R : AEnd → Hp → Nat → Prop) : Prop :=
 bindS (hBox n a0) σ n fun v1 σ n =>
 bindP (aLd σ (some 7) v1) fun v2 =>
 CALL Tryd.prog (.fn 33 []) [v2, (.sc (.int .i64 1)), (.sc (.int .i64 0))] σ n (kc_ref04_CheckExpr1 R)
theorem se_ref04_CheckExpr (a0 : AV) (σ : Hp) (n : Nat) (R : AEnd → Hp → Nat → Prop) : sh_ref04_CheckExpr a0 σ n R = swp Tryd.prog sc_ref04_CheckExpr (retQ [(.t 2)] R) (entry [a0]) σ n := by kernel_rfl
theorem by_ref04_CheckExpr {a0 : AV} {σ : Hp} {n : Nat} {R : AEnd → Hp → Nat → Prop} (h : sh_ref04_CheckExpr a0 σ n R) : ConH Tryd.prog 15 [a0] σ n R := by
  rw [se_ref04_CheckExpr] at h
  exact conH_of [(.t 2)] (fn := Tryd.f15) rfl [0, 1, 4, 2] (by kernel_rfl) (by kernel_rfl) (by kernel_rfl) (by kernel_rfl) h
def sc_syntax_told : SCode := (.seq (.reg [ ⟨some 7,none,.mv (.t 0)⟩,⟨some 8,none,.tas 28 (.int .i64 0) (.t 7)⟩,⟨some 6,none,.mv (.t 8)⟩,⟨some 9,none,.ext (.t 6) 0⟩,⟨some 10,none,.ext (.t 6) 1⟩,⟨some 4,none,.mv (.t 9)⟩,⟨some 5,none,.mv (.t 10)⟩]) (.seq (.reg [ ⟨some 11,none,.mv (.t 5)⟩]) (.cond (.t 11) (.reg [ ⟨some 12,none,.mv (.t 1)⟩,⟨some 13,none,.mv (.t 4)⟩,⟨some 14,none,.nck (.t 12)⟩,⟨none,none,(.st 1 (.t 14) (.t 13))⟩]) .skip)))
def sh_syntax_told (a0 a1 : AV) (σ : Hp) (n : Nat) (R : AEnd → Hp → Nat → Prop) : Prop :=
 bindP (aTas 28 (.int .i64 0) a0) fun v1 =>
 bindP (aExt v1 0) fun v2 =>
 bindP (aExt v1 1) fun v3 =>
 COND v3 (
 bindP (aNck a1) fun v4 =>
 bindS (hSt σ 1 v4 v2) σ n fun v5 σ n =>
 R (.ret (.tp [])) σ n) (
 R (.ret (.tp [])) σ n)
theorem se_syntax_told (a0 a1 : AV) (σ : Hp) (n : Nat) (R : AEnd → Hp → Nat → Prop) : sh_syntax_told a0 a1 σ n R = swp Tryd.prog sc_syntax_told (retQ [] R) (entry [a0, a1]) σ n := by kernel_rfl
theorem by_syntax_told {a0 a1 : AV} {σ : Hp} {n : Nat} {R : AEnd → Hp → Nat → Prop} (h : sh_syntax_told a0 a1 σ n R) : ConH Tryd.prog 31 [a0, a1] σ n R := by
  rw [se_syntax_told] at h
  exact conH_of [] (fn := Tryd.f31) rfl [0, 5, 11, 1, 4] (by kernel_rfl) (by kernel_rfl) (by kernel_rfl) (by kernel_rfl) h
def kc_psyntax_walker_walk1 (s23 : List AV) (K23 : List AV → Hp → Nat → Prop) (v24 : AV) (v27 : AV) (R : AEnd → Hp → Nat → Prop) (r : AEnd) (σ : Hp) (n : Nat) : Prop :=
 onEnd r (fun v31 =>
 bindP (semBin .add (s23.getD 2 .any) (.sc (.int .i64 1))) fun v33 =>
 K23 [v24, v27, v33] σ n) (fun v32 => R (.pan v32) σ n)
def lb_psyntax_walker_walk2 (v22 : AV) (v21 : AV) (a2 : AV) (a0 : AV) (R : AEnd → Hp → Nat → Prop) (K23 : List AV → Hp → Nat → Prop) (s23 : List AV) (σ : Hp) (n : Nat) : Prop :=
 bindP (semBin .lss (s23.getD 2 .any) v22) fun v24 =>
 COND v24 (
 bindP (aIad 7 v21 (s23.getD 2 .any)) fun v25 =>
 bindP (aLd σ (some 7) v25) fun v26 =>
 bindS (hAlloc n [(.int .i64 0), (.int .i64 0), (.int .i64 0), (.string ⟨#[]⟩), (.string ⟨#[]⟩), (.string ⟨#[]⟩), (.slice none 0 0)]) σ n fun v27 σ n =>
 bindS (hSt σ 7 v27 v26) σ n fun v28 σ n =>
 bindP (aLd σ (some 7) v27) fun v29 =>
 bindP (semBin .add a2 (.sc (.int .i64 1))) fun v30 =>
 CALL Tryd.prog (.fn 32 []) [a0, v29, v30] σ n (kc_psyntax_walker_walk1 s23 K23 v24 v27 R)) (
 R (.ret (.tp [])) σ n)
def kc_psyntax_walker_walk3 (a0 : AV) (v1 : AV) (a2 : AV) (R : AEnd → Hp → Nat → Prop) (r : AEnd) (σ : Hp) (n : Nat) : Prop :=
 onEnd r (fun v13 =>
 bindP (aNck a0) fun v15 =>
 bindP (aLd σ none v15) fun v16 =>
 bindP (semBin .add v16 (.sc (.int .i64 1))) fun v17 =>
 bindP (aNck a0) fun v18 =>
 bindS (hSt σ 1 v18 v17) σ n fun v19 σ n =>
 bindP (aFad 6 v1) fun v20 =>
 bindP (aLd σ none v20) fun v21 =>
 bindP (aLen false v21) fun v22 => bnd σ v21 →
 LOOP (lb_psyntax_walker_walk2 v22 v21 a2 a0 R) [(.tp []), (.tp []), (.sc (.int .i64 0))] σ n) (fun v14 => R (.pan v14) σ n)
def kc_psyntax_walker_walk4 (a0 : AV) (v1 : AV) (a2 : AV) (R : AEnd → Hp → Nat → Prop) (r : AEnd) (σ : Hp) (n : Nat) : Prop :=
 onEnd r (fun v11 =>
 CALL Tryd.prog (.fn 62 []) [v11, (.sc (.int .i64 9))] σ n (kc_psyntax_walker_walk3 a0 v1 a2 R)) (fun v12 => R (.pan v12) σ n)
def kc_psyntax_walker_walk5 (v1 : AV) (a0 : AV) (a2 : AV) (R : AEnd → Hp → Nat → Prop) (r : AEnd) (σ : Hp) (n : Nat) : Prop :=
 onEnd r (fun v8 =>
 bindP (aLd σ (some 7) v1) fun v10 =>
 CALL Tryd.prog (.fn 63 []) [v10] σ n (kc_psyntax_walker_walk4 a0 v1 a2 R)) (fun v9 => R (.pan v9) σ n)
def kc_psyntax_walker_walk6 (a0 : AV) (v1 : AV) (a2 : AV) (R : AEnd → Hp → Nat → Prop) (r : AEnd) (σ : Hp) (n : Nat) : Prop :=
 onEnd r (fun v3 =>
 bindP (aNck a0) fun v5 =>
 bindP (aLd σ none v5) fun v6 =>
 bindP (semBin .lss v6 (.sc (.int .i64 64))) fun v7 =>
 CALL Tryd.prog (.fn 62 []) [v7, (.sc (.int .i64 3))] σ n (kc_psyntax_walker_walk5 v1 a0 a2 R)) (fun v4 => R (.pan v4) σ n)
attribute [go_sem] kc_psyntax_walker_walk1 lb_psyntax_walker_walk2 kc_psyntax_walker_walk3 kc_psyntax_walker_walk4 kc_psyntax_walker_walk5 kc_psyntax_walker_walk6
def sc_psyntax_walker_walk : SCode := (.seq (.reg [ ⟨some 4,none,.box (.t 1)⟩]) (.seq (.reg [ ⟨some 8,none,.mv (.t 2)⟩,⟨some 9,none,.bin .leq (.t 8) (.c (.sc (.int .i64 12)))⟩,⟨some 10,none,.call (.c (.fn 62 [])) [(.t 9),(.c (.sc (.int .i64 10)))]⟩]) (.seq (.reg [ ⟨some 11,none,.mv (.t 0)⟩,⟨some 12,none,.nck (.t 11)⟩,⟨some 13,none,.ld none (.t 12)⟩,⟨some 14,none,.bin .lss (.t 13) (.c (.sc (.int .i64 64)))⟩,⟨some 15,none,.call (.c (.fn 62 [])) [(.t 14),(.c (.sc (.int .i64 3)))]⟩]) (.seq (.reg [ ⟨some 16,none,.ld (some 7) (.t 4)⟩,⟨some 17,none,.call (.c (.fn 63 [])) [(.t 16)]⟩,⟨some 18,none,.call (.c (.fn 62 [])) [(.t 17),(.c (.sc (.int .i64 9)))]⟩]) (.seq (.reg [ ⟨some 19,none,.mv (.t 0)⟩,⟨some 20,none,.nck (.t 19)⟩,⟨some 21,none,.ld none (.t 20)⟩,⟨some 22,none,.bin .add (.t 21) (.c (.sc (.int .i64 1)))⟩,⟨some 23,none,.nck (.t 19)⟩,⟨none,none,(.st 1 (.t 23) (.t 22))⟩]) (.seq (.reg [ ⟨some 24,none,.fad 6 (.t 4)⟩,⟨some 25,none,.ld none (.t 24)⟩,⟨some 26,none,.len false (.t 25)⟩,⟨some 27,none,.mv (.c (.sc (.int .i64 0)))⟩]) (.block 0 (.loop [28,7,27] [28,29,30,7,31,32,33,34,35,36,27] (.seq (.reg [ ⟨some 28,none,.bin .lss (.t 27) (.t 26)⟩]) (.seq (.cond (.t 28) .skip (.exit 0)) (.seq (.block 1 (.seq (.reg [ ⟨some 29,none,.iad 7 (.t 25) (.t 27)⟩,⟨some 30,none,.ld (some 7) (.t 29)⟩,⟨some 7,none,.alloc [(.int .i64 0),(.int .i64 0),(.int .i64 0),(.string ⟨#[]⟩),(.string ⟨#[]⟩),(.string ⟨#[]⟩),(.slice none 0 0)]⟩,⟨none,none,(.st 7 (.t 7) (.t 30))⟩]) (.reg [ ⟨some 31,none,.mv (.t 0)⟩,⟨some 32,none,.ld (some 7) (.t 7)⟩,⟨some 33,none,.mv (.t 2)⟩,⟨some 34,none,.bin .add (.t 33) (.c (.sc (.int .i64 1)))⟩,⟨some 35,none,.call (.c (.fn 32 [])) [(.t 31),(.t 32),(.t 34)]⟩]))) (.reg [ ⟨some 36,none,.bin .add (.t 27) (.c (.sc (.int .i64 1)))⟩,⟨some 27,none,.mv (.t 36)⟩]))))))))))))
def sh_psyntax_walker_walk (a0 a1 a2 : AV) (σ : Hp) (n : Nat) (R : AEnd → Hp → Nat → Prop) : Prop :=
 bindS (hBox n a1) σ n fun v1 σ n =>
 bindP (semBin .leq a2 (.sc (.int .i64 12))) fun v2 =>
 CALL Tryd.prog (.fn 62 []) [v2, (.sc (.int .i64 10))] σ n (kc_psyntax_walker_walk6 a0 v1 a2 R)
theorem se_psyntax_walker_walk (a0 a1 a2 : AV) (σ : Hp) (n : Nat) (R : AEnd → Hp → Nat → Prop) : sh_psyntax_walker_walk a0 a1 a2 σ n R = swp Tryd.prog sc_psyntax_walker_walk (retQ [] R) (entry [a0, a1, a2]) σ n := by kernel_rfl
theorem by_psyntax_walker_walk {a0 a1 a2 : AV} {σ : Hp} {n : Nat} {R : AEnd → Hp → Nat → Prop} (h : sh_psyntax_walker_walk a0 a1 a2 σ n R) : ConH Tryd.prog 32 [a0, a1, a2] σ n R := by
  rw [se_psyntax_walker_walk] at h
  exact conH_of [] (fn := Tryd.f32) rfl [1, 4, 26, 28, 25, 0, 7, 2, 27] (by kernel_rfl) (by kernel_rfl) (by kernel_rfl) (by kernel_rfl) h
def kc_ref04_walk1 (R : AEnd → Hp → Nat → Prop) (s9 : List AV) (K9 : List AV → Hp → Nat → Prop) (v13 : AV) (r : AEnd) (σ : Hp) (n : Nat) : Prop :=
 onEnd r (fun v19 =>
 bindP (aExt v19 0) fun v21 =>
 bindP (aExt v19 1) fun v22 =>
 bindP (semBin .neq v22 (.sc (.int .i64 0))) fun v23 =>
 COND v23 (
 R (.ret (.tp [v21, v22])) σ n) (
 bindP (semBin .add (s9.getD 7 .any) (.sc (.int .i64 1))) fun v24 =>
 K9 [v13, v21, v22, v23, (s9.getD 4 .any), (s9.getD 5 .any), v21, v24] σ n)) (fun v20 => R (.pan v20) σ n)
def lb_ref04_walk2 (v1 : AV) (a1 : AV) (R : AEnd → Hp → Nat → Prop) (K9 : List AV → Hp → Nat → Prop) (s9 : List AV) (σ : Hp) (n : Nat) : Prop :=
 bindP (aFad 6 v1) fun v10 =>
 bindP (aLd σ none v10) fun v11 =>
 bindP (aLen false v11) fun v12 => bnd σ v11 →
 bindP (semBin .lss (s9.getD 7 .any) v12) fun v13 =>
 COND v13 (
 bindP (aFad 6 v1) fun v14 =>
 bindP (aLd σ none v14) fun v15 =>
 bindP (aIad 7 v15 (s9.getD 7 .any)) fun v16 =>
 bindP (aLd σ (some 7) v16) fun v17 =>
 bindP (semBin .add a1 (.sc (.int .i64 1))) fun v18 =>
 CALL Tryd.prog (.fn 33 []) [v17, v18, (s9.getD 6 .any)] σ n (kc_ref04_walk1 R s9 K9 v13)) (
 R (.ret (.tp [(s9.getD 6 .any), (.sc (.int .i64 0))])) σ n)
def kc_ref04_walk3 (R : AEnd → Hp → Nat → Prop) (a2 : AV) (v1 : AV) (a1 : AV) (r : AEnd) (σ : Hp) (n : Nat) : Prop :=
 onEnd r (fun v5 =>
 bindP (aUn .not v5) fun v7 =>
 COND v7 (
 R (.ret (.tp [a2, (.sc (.int .i64 9))])) σ n) (
 bindP (semBin .add a2 (.sc (.int .i64 1))) fun v8 =>
 LOOP (lb_ref04_walk2 v1 a1 R) [(.tp []), (.tp []), (.tp []), (.tp []), (.sc (.int .i64 0)), (.sc (.int .i64 0)), v8, (.sc (.int .i64 0))] σ n)) (fun v6 => R (.pan v6) σ n)
attribute [go_sem] kc_ref04_walk1 lb_ref04_walk2 kc_ref04_walk3
def sc_ref04_walk : SCode := (.seq (.reg [ ⟨some 3,none,.box (.t 0)⟩,⟨some 6,none,.mv (.c (.sc (.int .i64 0)))⟩,⟨some 7,none,.mv (.c (.sc (.int .i64 0)))⟩]) (.seq (.block 0 (.seq (.reg [ ⟨some 12,none,.mv (.t 1)⟩,⟨some 13,none,.bin .gtr (.t 12) (.c (.sc (.int .i64 12)))⟩,⟨some 11,none,.mv (.t 13)⟩]) (.cond (.t 11) (.seq (.reg [ ⟨some 14,none,.mv (.t 2)⟩,⟨some 6,none,.mv (.t 14)⟩,⟨some 7,none,.mv (.c (.sc (.int .i64 10)))⟩]) .ret) (.seq (.reg [ ⟨some 16,none,.mv (.t 2)⟩,⟨some 17,none,.bin .geq (.t 16) (.c (.sc (.int .i64 64)))⟩,⟨some 15,none,.mv (.t 17)⟩]) (.cond (.t 15) (.seq (.reg [ ⟨some 18,none,.mv (.t 2)⟩,⟨some 6,none,.mv (.t 18)⟩,⟨some 7,none,.mv (.c (.sc (.int .i64 3)))⟩]) .ret) (.seq (.reg [ ⟨some 20,none,.ld (some 7) (.t 3)⟩,⟨some 21,none,.call (.c (.fn 64 [])) [(.t 20)]⟩,⟨some 22,none,.un .not (.t 21)⟩,⟨some 19,none,.mv (.t 22)⟩]) (.cond (.t 19) (.seq (.reg [ ⟨some 23,none,.mv (.t 2)⟩,⟨some 6,none,.mv (.t 23)⟩,⟨some 7,none,.mv (.c (.sc (.int .i64 9)))⟩]) .ret) .skip))))))) (.seq (.reg [ ⟨some 24,none,.mv (.t 2)⟩,⟨some 25,none,.bin .add (.t 24) (.c (.sc (.int .i64 1)))⟩,⟨some 2,none,.mv (.t 25)⟩]) (.seq (.seq (.reg [ ⟨some 8,none,.mv (.c (.sc (.int .i64 0)))⟩]) (.block 1 (.loop [30,9,10,46,6,7,2,8] [26,27,28,29,30,34,35,36,37,38,39,40,41,42,33,43,44,9,10,45,46,47,48,6,7,49,2,31,32,8] (.seq (.seq (.reg [ ⟨some 26,none,.mv (.t 8)⟩,⟨some 27,none,.fad 6 (.t 3)⟩,⟨some 28,none,.ld none (.t 27)⟩,⟨some 29,none,.len false (.t 28)⟩,⟨some 30,none,.bin .lss (.t 26) (.t 29)⟩]) (.cond (.t 30) .skip (.exit 1))) (.seq (.block 2 (.seq (.reg [ ⟨some 34,none,.fad 6 (.t 3)⟩,⟨some 35,none,.ld none (.t 34)⟩,⟨some 36,none,.mv (.t 8)⟩,⟨some 37,none,.iad 7 (.t 35) (.t 36)⟩,⟨some 38,none,.ld (some 7) (.t 37)⟩,⟨some 39,none,.mv (.t 1)⟩,⟨some 40,none,.bin .add (.t 39) (.c (.sc (.int .i64 1)))⟩,⟨some 41,none,.mv (.t 2)⟩,⟨some 42,none,.call (.c (.fn 33 [])) [(.t 38),(.t 40),(.t 41)]⟩,⟨some 33,none,.mv (.t 42)⟩,⟨some 43,none,.ext (.t 33) 0⟩,⟨some 44,none,.ext (.t 33) 1⟩,⟨some 9,none,.mv (.t 43)⟩,⟨some 10,none,.mv (.t 44)⟩]) (.seq (.seq (.reg [ ⟨some 45,none,.mv (.t 10)⟩,⟨some 46,none,.bin .neq (.t 45) (.c (.sc (.int .i64 0)))⟩]) (.cond (.t 46) (.seq (.reg [ ⟨some 47,none,.mv (.t 9)⟩,⟨some 48,none,.mv (.t 10)⟩,⟨some 6,none,.mv (.t 47)⟩,⟨some 7,none,.mv (.t 48)⟩]) .ret) .skip)) (.reg [ ⟨some 49,none,.mv (.t 9)⟩,⟨some 2,none,.mv (.t 49)⟩])))) (.reg [ ⟨some 31,none,.mv (.t 8)⟩,⟨some 32,none,.bin .add (.t 31) (.c (.sc (.int .i64 1)))⟩,⟨some 8,none,.mv (.t 32)⟩])))))) (.seq (.reg [ ⟨some 50,none,.mv (.t 2)⟩,⟨some 6,none,.mv (.t 50)⟩,⟨some 7,none,.mv (.c (.sc (.int .i64 0)))⟩]) .ret)))))
def sh_ref04_walk (a0 a1 a2 : AV) (σ : Hp) (n : Nat) (R : AEnd → Hp → Nat → Prop) : Prop :=
 bindS (hBox n a0) σ n fun v1 σ n =>
 bindP (semBin .gtr a1 (.sc (.int .i64 12))) fun v2 =>
 COND v2 (
 R (.ret (.tp [a2, (.sc (.int .i64 10))])) σ n) (
 bindP (semBin .geq a2 (.sc (.int .i64 64))) fun v3 =>
 COND v3 (
 R (.ret (.tp [a2, (.sc (.int .i64 3))])) σ n) (
 bindP (aLd σ (some 7) v1) fun v4 =>
 CALL Tryd.prog (.fn 64 []) [v4] σ n (kc_ref04_walk3 R a2 v1 a1)))
theorem se_ref04_walk (a0 a1 a2 : AV) (σ : Hp) (n : Nat) (R : AEnd → Hp → Nat → Prop) : sh_ref04_walk a0 a1 a2 σ n R = swp Tryd.prog sc_ref04_walk (retQ [(.t 6), (.t 7)] R) (entry [a0, a1, a2]) σ n := by kernel_rfl
theorem by_ref04_walk {a0 a1 a2 : AV} {σ : Hp} {n : Nat} {R : AEnd → Hp → Nat → Prop} (h : sh_ref04_walk a0 a1 a2 σ n R) : ConH Tryd.prog 33 [a0, a1, a2] σ n R := by
  rw [se_ref04_walk] at h
  exact conH_of [(.t 6), (.t 7)] (fn := Tryd.f33) rfl [0, 11, 15, 19, 30, 3, 1, 46, 10, 9, 8, 2, 6, 7] (by kernel_rfl) (by kernel_rfl) (by kernel_rfl) (by kernel_rfl) h
def kc_slices_IndexFunc_lapi_Column_api_Column1 (R : AEnd → Hp → Nat → Prop) (s2 : List AV) (K2 : List AV → Hp → Nat → Prop) (v3 : AV) (r : AEnd) (σ : Hp) (n : Nat) : Prop :=
 onEnd r (fun v6 =>
 COND v6 (
 R (.ret (s2.getD 4 .any)) σ n) (
 bindP (semBin .add (s2.getD 4 .any) (.sc (.int .i64 1))) fun v8 =>
 K2 [v3, (s2.getD 4 .any), v6, (s2.getD 3 .any), v8] σ n)) (fun v7 => R (.pan v7) σ n)
def lb_slices_IndexFunc_lapi_Column_api_Column2 (v1 : AV) (a0 : AV) (a1 : AV) (R : AEnd → Hp → Nat → Prop) (K2 : List AV → Hp → Nat → Prop) (s2 : List AV) (σ : Hp) (n : Nat) : Prop :=
 bindP (semBin .lss (s2.getD 4 .any) v1) fun v3 =>
 COND v3 (
 bindP (aIad 3 a0 (s2.getD 4 .any)) fun v4 =>
 bindP (aLd σ (some 3) v4) fun v5 =>
 CALL Tryd.prog a1 [v5] σ n (kc_slices_IndexFunc_lapi_Column_api_Column1 R s2 K2 v3)) (
 R (.ret (.sc (.int .i64 (-1)))) σ n)
attribute [go_sem] kc_slices_IndexFunc_lapi_Column_api_Column1 lb_slices_IndexFunc_lapi_Column_api_Column2
def sc_slices_IndexFunc_lapi_Column_api_Column : SCode := (.seq (.reg [ ⟨some 4,none,.mv (.c (.sc (.int .i64 0)))⟩]) (.seq (.seq (.reg [ ⟨some 6,none,.mv (.t 0)⟩,⟨some 7,none,.len false (.t 6)⟩,⟨some 8,none,.mv (.c (.sc (.int .i64 0)))⟩]) (.block 0 (.loop [9,5,16,4,8] [9,10,5,11,12,13,14,15,16,17,4,18,8] (.seq (.reg [ ⟨some 9,none,.bin .lss (.t 8) (.t 7)⟩]) (.seq (.cond (.t 9) .skip (.exit 0)) (.seq (.block 1 (.seq (.reg [ ⟨some 10,none,.mv (.t 8)⟩,⟨some 5,none,.mv (.t 10)⟩]) (.seq (.reg [ ⟨some 11,none,.mv (.t 1)⟩,⟨some 12,none,.mv (.t 0)⟩,⟨some 13,none,.mv (.t 5)⟩,⟨some 14,none,.iad 3 (.t 12) (.t 13)⟩,⟨some 15,none,.ld (some 3) (.t 14)⟩,⟨some 16,none,.call (.t 11) [(.t 15)]⟩]) (.cond (.t 16) (.seq (.reg [ ⟨some 17,none,.mv (.t 5)⟩,⟨some 4,none,.mv (.t 17)⟩]) .ret) .skip)))) (.reg [ ⟨some 18,none,.bin .add (.t 8) (.c (.sc (.int .i64 1)))⟩,⟨some 8,none,.mv (.t 18)⟩]))))))) (.seq (.reg [ ⟨(some 4),none,(.mv (.c (.sc (.int .i64 (-1)))))⟩]) .ret)))
def sh_slices_IndexFunc_lapi_Column_api_Column (a0 a1 : AV) (σ : Hp) (n : Nat) (R : AEnd → Hp → Nat → Prop) : Prop :=
 bindP (aLen false a0) fun v1 => bnd σ a0 →
 LOOP (lb_slices_IndexFunc_lapi_Column_api_Column2 v1 a0 a1 R) [(.tp []), (.tp []), (.tp []), (.sc (.int .i64 0)), (.sc (.int .i64 0))] σ n
theorem se_slices_IndexFunc_lapi_Column_api_Column (a0 a1 : AV) (σ : Hp) (n : Nat) (R : AEnd → Hp → Nat → Prop) : sh_slices_IndexFunc_lapi_Column_api_Column a0 a1 σ n R = swp Tryd.prog sc_slices_IndexFunc_lapi_Column_api_Column (retQ [(.t 4)] R) (entry [a0, a1]) σ n := by kernel_rfl
theorem by_slices_IndexFunc_lapi_Column_api_Column {a0 a1 : AV} {σ : Hp} {n : Nat} {R : AEnd → Hp → Nat → Prop} (h : sh_slices_IndexFunc_lapi_Column_api_Column a0 a1 σ n R) : ConH Tryd.prog 120 [a0, a1] σ n R := by
  rw [se_slices_IndexFunc_lapi_Column_api_Column] at h
  exact conH_of [(.t 4)] (fn := Tryd.f120) rfl [7, 9, 1, 0, 16, 5, 8, 4] (by kernel_rfl) (by kernel_rfl) (by kernel_rfl) (by kernel_rfl) h
def jk_value_Check1 (R : AEnd → Hp → Nat → Prop) (s2 : List AV) (σ : Hp) (n : Nat) : Prop :=
 bindP (aUn .not (s2.getD 5 .any)) fun v3 =>
 COND v3 (
 R (.ret (.sc (.int .i64 9))) σ n) (
 R (.ret (.sc (.int .i64 0))) σ n)
attribute [go_sem] jk_value_Check1
def sc_value_Check : SCode := (.seq (.reg [ ⟨some 1,none,.box (.t 0)⟩,⟨some 2,none,.mv (.c (.sc (.int .i64 0)))⟩]) (.seq (.reg [ ⟨some 3,none,.mv (.c (.sc (.bool false)))⟩]) (.seqJ [5,6,11,16,27,3] [4,5,7,6,8,9,10,3,12,11,13,14,15,3,17,16,18,19,20,21,22,23,24,25,26,3,28,27,29,30,31,32,33,34,35,36,37,3] (.seq (.reg [ ⟨some 4,none,.fad 0 (.t 1)⟩,⟨some 5,none,.ld none (.t 4)⟩]) (.block 0 (.seq (.reg [ ⟨some 7,none,.bin .eql (.t 5) (.c (.sc (.int .i64 0)))⟩,⟨some 6,none,.mv (.t 7)⟩]) (.cond (.t 6) (.reg [ ⟨some 8,none,.ld (some 3) (.t 1)⟩,⟨some 9,none,.build [(.int .i64 0),(.int .i64 0),(.string ⟨#[]⟩)] []⟩,⟨some 10,none,.eqs [0,0,2] false (.t 8) (.t 9)⟩,⟨some 3,none,.mv (.t 10)⟩]) (.seq (.reg [ ⟨some 12,none,.bin .eql (.t 5) (.c (.sc (.int .i64 1)))⟩,⟨some 11,none,.mv (.t 12)⟩]) (.cond (.t 11) (.reg [ ⟨some 13,none,.fad 2 (.t 1)⟩,⟨some 14,none,.ld none (.t 13)⟩,⟨some 15,none,.bin .eql (.t 14) (.c (.s []))⟩,⟨some 3,none,.mv (.t 15)⟩]) (.seq (.reg [ ⟨some 17,none,.bin .eql (.t 5) (.c (.sc (.int .i64 2)))⟩,⟨some 16,none,.mv (.t 17)⟩]) (.cond (.t 16) (.reg [ ⟨some 18,none,.fad 2 (.t 1)⟩,⟨some 19,none,.ld none (.t 18)⟩,⟨some 20,none,.bin .eql (.t 19) (.c (.s []))⟩,⟨some 21,none,.mv (.t 20)⟩,⟨(some 22),(some (21,true)),(.fad 1 (.t 1))⟩,⟨(some 23),(some (21,true)),(.ld none (.t 22))⟩,⟨(some 24),(some (21,true)),(.cvi .u64 (.t 23))⟩,⟨(some 25),(some (21,true)),(.bin .leq (.t 24) (.c (.sc (.int .u64 1))))⟩,⟨some 26,none,.pick (.t 21) (.t 25) (.c (.sc (.bool false)))⟩,⟨some 3,none,.mv (.t 26)⟩]) (.seq (.reg [ ⟨some 28,none,.bin .eql (.t 5) (.c (.sc (.int .i64 3)))⟩,⟨some 27,none,.mv (.t 28)⟩]) (.cond (.t 27) (.reg [ ⟨some 29,none,.fad 1 (.t 1)⟩,⟨some 30,none,.ld none (.t 29)⟩,⟨some 31,none,.bin .eql (.t 30) (.c (.sc (.int .i64 0)))⟩,⟨some 32,none,.mv (.t 31)⟩,⟨(some 33),(some (32,true)),(.fad 2 (.t 1))⟩,⟨(some 34),(some (32,true)),(.ld none (.t 33))⟩,⟨(some 35),(some (32,true)),(.len true (.t 34))⟩,⟨(some 36),(some (32,true)),(.bin .leq (.t 35) (.c (.sc (.int .i64 64))))⟩,⟨some 37,none,.pick (.t 32) (.t 36) (.c (.sc (.bool false)))⟩,⟨some 3,none,.mv (.t 37)⟩]) .skip)))))))))) (.seq (.seq (.reg [ ⟨some 38,none,.mv (.t 3)⟩,⟨some 39,none,.un .not (.t 38)⟩]) (.cond (.t 39) (.seq (.reg [ ⟨some 2,none,.mv (.c (.sc (.int .i64 9)))⟩]) .ret) .skip)) (.seq (.reg [ ⟨some 2,none,.mv (.c (.sc (.int .i64 0)))⟩]) .ret)))))
def sh_value_Check (a0 : AV) (σ : Hp) (n : Nat) (R : AEnd → Hp → Nat → Prop) : Prop :=
 bindS (hBox n a0) σ n fun v1 σ n =>
 JOIN (jk_value_Check1 R) fun K2 =>
 bindP (aFad 0 v1) fun v4 =>
 bindP (aLd σ none v4) fun v5 =>
 bindP (semBin .eql v5 (.sc (.int .i64 0))) fun v6 =>
 COND v6 (
 bindP (aLd σ (some 3) v1) fun v7 =>
 bindP (aBuild [(.int .i64 0), (.int .i64 0), (.string ⟨#[]⟩)] []) fun v8 =>
 bindP (aEqs [0, 0, 2] false v7 v8) fun v9 =>
 K2 [v5, v6, (.tp []), (.tp []), (.tp []), v9] σ n) (
 bindP (semBin .eql v5 (.sc (.int .i64 1))) fun v10 =>
 COND v10 (
 bindP (aFad 2 v1) fun v11 =>
 bindP (aLd σ none v11) fun v12 =>
 bindP (semBin .eql v12 (.s [])) fun v13 =>
 K2 [v5, v6, v10, (.tp []), (.tp []), v13] σ n) (
 bindP (semBin .eql v5 (.sc (.int .i64 2))) fun v14 =>
 COND v14 (
 bindP (aFad 2 v1) fun v15 =>
 bindP (aLd σ none v15) fun v16 =>
 bindP (semBin .eql v16 (.s [])) fun v17 =>
 guardP v17 true (aFad 1 v1) fun v18 =>
 guardP v17 true (aLd σ none v18) fun v19 =>
 guardP v17 true (aCvi .u64 v19) fun v20 =>
 guardP v17 true (semBin .leq v20 (.sc (.int .u64 1))) fun v21 =>
 bindP (aPick v17 v21 (.sc (.bool false))) fun v22 =>
 K2 [v5, v6, v10, v14, (.tp []), v22] σ n) (
 bindP (semBin .eql v5 (.sc (.int .i64 3))) fun v23 =>
 COND v23 (
 bindP (aFad 1 v1) fun v24 =>
 bindP (aLd σ none v24) fun v25 =>
 bindP (semBin .eql v25 (.sc (.int .i64 0))) fun v26 =>
 guardP v26 true (aFad 2 v1) fun v27 =>
 guardP v26 true (aLd σ none v27) fun v28 =>
 guardP v26 true (aLen true v28) fun v29 =>
 guardP v26 true (semBin .leq v29 (.sc (.int .i64 64))) fun v30 =>
 bindP (aPick v26 v30 (.sc (.bool false))) fun v31 =>
 K2 [v5, v6, v10, v14, v23, v31] σ n) (
 K2 [v5, v6, v10, v14, v23, (.sc (.bool false))] σ n))))
theorem se_value_Check (a0 : AV) (σ : Hp) (n : Nat) (R : AEnd → Hp → Nat → Prop) : sh_value_Check a0 σ n R = swp Tryd.prog sc_value_Check (retQ [(.t 2)] R) (entry [a0]) σ n := by kernel_rfl
theorem by_value_Check {a0 : AV} {σ : Hp} {n : Nat} {R : AEnd → Hp → Nat → Prop} (h : sh_value_Check a0 σ n R) : ConH Tryd.prog 105 [a0] σ n R := by
  rw [se_value_Check] at h
  exact conH_of [(.t 2)] (fn := Tryd.f105) rfl [0, 6, 11, 16, 5, 27, 1, 3, 39, 2] (by kernel_rfl) (by kernel_rfl) (by kernel_rfl) (by kernel_rfl) h
def sc_syntax_need : SCode := (.seq (.reg [ ⟨some 4,none,.mv (.t 0)⟩,⟨some 5,none,.un .not (.t 4)⟩]) (.cond (.t 5) (.reg [ ⟨some 6,none,.mv (.t 1)⟩,⟨some 7,none,.mki 28 (.t 6)⟩,⟨none,none,(.pan (.t 7))⟩]) .skip))
def sh_syntax_need (a0 a1 : AV) (σ : Hp) (n : Nat) (R : AEnd → Hp → Nat → Prop) : Prop :=
 bindP (aUn .not a0) fun v1 =>
 COND v1 (
 bindP (aMki 28 a1) fun v2 =>
 PAN v2 fun v3 => R (.pan v3) σ n) (
 R (.ret (.tp [])) σ n)
theorem se_syntax_need (a0 a1 : AV) (σ : Hp) (n : Nat) (R : AEnd → Hp → Nat → Prop) : sh_syntax_need a0 a1 σ n R = swp Tryd.prog sc_syntax_need (retQ [] R) (entry [a0, a1]) σ n := by kernel_rfl
theorem by_syntax_need {a0 a1 : AV} {σ : Hp} {n : Nat} {R : AEnd → Hp → Nat → Prop} (h : sh_syntax_need a0 a1 σ n R) : ConH Tryd.prog 62 [a0, a1] σ n R := by
  rw [se_syntax_need] at h
  exact conH_of [] (fn := Tryd.f62) rfl [0, 5, 1] (by kernel_rfl) (by kernel_rfl) (by kernel_rfl) (by kernel_rfl) h
def kc_syntax_part1 (Kg : AV → Hp → Nat → Prop) (R : AEnd → Hp → Nat → Prop) (r : AEnd) (σ : Hp) (n : Nat) : Prop :=
 onEnd r (fun v27 =>
 Kg v27 σ n) (fun v28 => R (.pan v28) σ n)
def kc_syntax_part2 (Kg : AV → Hp → Nat → Prop) (R : AEnd → Hp → Nat → Prop) (r : AEnd) (σ : Hp) (n : Nat) : Prop :=
 onEnd r (fun v50 =>
 Kg v50 σ n) (fun v51 => R (.pan v51) σ n)
def kc_syntax_part3 (Kg : AV → Hp → Nat → Prop) (R : AEnd → Hp → Nat → Prop) (r : AEnd) (σ : Hp) (n : Nat) : Prop :=
 onEnd r (fun v60 =>
 Kg v60 σ n) (fun v61 => R (.pan v61) σ n)
def kc_syntax_part4 (v1 : AV) (R : AEnd → Hp → Nat → Prop) (r : AEnd) (σ : Hp) (n : Nat) : Prop :=
 onEnd r (fun v4 =>
 bindP (aExt v4 0) fun v6 =>
 bindP (aExt v4 1) fun v7 =>
 bindP (aUn .not v7) fun v8 =>
 guardP v8 false (some v6) fun v9 =>
 guardP v8 false (aFad 6 v1) fun v10 =>
 guardP v8 false (aLd σ none v10) fun v11 =>
 guardP v8 false (aLen false v11) fun v12 =>
 guardP v8 false (semBin .neq v9 v12) fun v13 =>
 bindP (aPick v8 (.sc (.bool true)) v13) fun v14 =>
 COND v14 (
 R (.ret (.sc (.bool false))) σ n) (
 bindP (aFad 0 v1) fun v15 =>
 bindP (aLd σ none v15) fun v16 =>
 bindP (semBin .eql v16 (.sc (.int .i64 0))) fun v17 =>
 COND v17 (
 bindP (aFad 4 v1) fun v18 =>
 bindP (aLd σ none v18) fun v19 =>
 bindP (aFad 5 v1) fun v20 =>
 bindP (aLd σ none v20) fun v21 =>
 bindP (semBin .add v19 v21) fun v22 =>
 bindP (semBin .eql v22 (.s [])) fun v23 =>
 guardP v23 true (aFad 1 v1) fun v24 =>
 guardP v23 true (aLd σ (some 3) v24) fun v25 =>
 guardK v23 true (fun Kg => CALL Tryd.prog (.fn 105 []) [v25] σ n (kc_syntax_part1 Kg R)) σ n fun v26 σ n =>
 guardP v23 true (semBin .eql v26 (.sc (.int .i64 0))) fun v29 =>
 bindP (aPick v23 v29 (.sc (.bool false))) fun v30 =>
 guardP v30 true (aFad 1 v1) fun v31 =>
 guardP v30 true (aFad 0 v31) fun v32 =>
 guardP v30 true (aLd σ none v32) fun v33 =>
 guardP v30 true (semBin .neq v33 (.sc (.int .i64 1))) fun v34 =>
 guardP v30 true (some v34) fun v35 =>
 guardP v35 false (aFad 1 v1) fun v36 =>
 guardP v35 false (aFad 1 v36) fun v37 =>
 guardP v35 false (aLd σ none v37) fun v38 =>
 guardP v35 false (semBin .geq v38 (.sc (.int .i64 0))) fun v39 =>
 guardP v30 true (aPick v35 (.sc (.bool true)) v39) fun v40 =>
 bindP (aPick v30 v40 (.sc (.bool false))) fun v41 =>
 R (.ret v41) σ n) (
 bindP (semBin .eql v16 (.sc (.int .i64 1))) fun v42 =>
 COND v42 (
 bindP (aFad 1 v1) fun v43 =>
 bindP (aLd σ (some 3) v43) fun v44 =>
 bindP (aBuild [(.int .i64 0), (.int .i64 0), (.string ⟨#[]⟩)] []) fun v45 =>
 bindP (aEqs [0, 0, 2] false v44 v45) fun v46 =>
 guardP v46 true (aFad 5 v1) fun v47 =>
 guardP v46 true (aLd σ none v47) fun v48 =>
 guardK v46 true (fun Kg => CALL Tryd.prog (.fn 25 []) [v48] σ n (kc_syntax_part2 Kg R)) σ n fun v49 σ n =>
 bindP (aPick v46 v49 (.sc (.bool false))) fun v52 =>
 guardP v52 true (aFad 4 v1) fun v53 =>
 guardP v52 true (aLd σ none v53) fun v54 =>
 guardP v52 true (semBin .eql v54 (.s [])) fun v55 =>
 guardP v52 true (some v55) fun v56 =>
 guardP v56 false (aFad 4 v1) fun v57 =>
 guardP v56 false (aLd σ none v57) fun v58 =>
 guardK v56 false (fun Kg => CALL Tryd.prog (.fn 25 []) [v58] σ n (kc_syntax_part3 Kg R)) σ n fun v59 σ n =>
 guardP v52 true (aPick v56 (.sc (.bool true)) v59) fun v62 =>
 bindP (aPick v52 v62 (.sc (.bool false))) fun v63 =>
 R (.ret v63) σ n) (
 bindP (aFad 1 v1) fun v64 =>
 bindP (aLd σ (some 3) v64) fun v65 =>
 bindP (aBuild [(.int .i64 0), (.int .i64 0), (.string ⟨#[]⟩)] []) fun v66 =>
 bindP (aEqs [0, 0, 2] false v65 v66) fun v67 =>
 guardP v67 true (aFad 4 v1) fun v68 =>
 guardP v67 true (aLd σ none v68) fun v69 =>
 guardP v67 true (aFad 5 v1) fun v70 =>
 guardP v67 true (aLd σ none v70) fun v71 =>
 guardP v67 true (semBin .add v69 v71) fun v72 =>
 guardP v67 true (semBin .eql v72 (.s [])) fun v73 =>
 bindP (aPick v67 v73 (.sc (.bool false))) fun v74 =>
 R (.ret v74) σ n)))) (fun v5 => R (.pan v5) σ n)
attribute [go_sem] kc_syntax_part1 kc_syntax_part2 kc_syntax_part3 kc_syntax_part4
def sc_syntax_part : SCode := (.seq (.reg [ ⟨some 1,none,.box (.t 0)⟩,⟨some 2,none,.mv (.c (.sc (.bool false)))⟩]) (.seq (.reg [ ⟨some 6,none,.fad 0 (.t 1)⟩,⟨some 7,none,.ld none (.t 6)⟩,⟨some 8,none,.call (.c (.fn 104 [])) [(.t 7)]⟩,⟨some 5,none,.mv (.t 8)⟩,⟨some 9,none,.ext (.t 5) 0⟩,⟨some 10,none,.ext (.t 5) 1⟩,⟨some 3,none,.mv (.t 9)⟩,⟨some 4,none,.mv (.t 10)⟩]) (.seq (.seq (.reg [ ⟨some 11,none,.mv (.t 4)⟩,⟨some 12,none,.un .not (.t 11)⟩,⟨some 13,none,.mv (.t 12)⟩,⟨(some 14),(some (13,false)),(.mv (.t 3))⟩,⟨(some 15),(some (13,false)),(.fad 6 (.t 1))⟩,⟨(some 16),(some (13,false)),(.ld none (.t 15))⟩,⟨(some 17),(some (13,false)),(.len false (.t 16))⟩,⟨(some 18),(some (13,false)),(.bin .neq (.t 14) (.t 17))⟩,⟨some 19,none,.pick (.t 13) (.c (.sc (.bool true))) (.t 18)⟩]) (.cond (.t 19) (.seq (.reg [ ⟨some 2,none,.mv (.c (.sc (.bool false)))⟩]) .ret) .skip)) (.seq (.seq (.reg [ ⟨some 20,none,.fad 0 (.t 1)⟩,⟨some 21,none,.ld none (.t 20)⟩]) (.block 0 (.seq (.reg [ ⟨some 23,none,.bin .eql (.t 21) (.c (.sc (.int .i64 0)))⟩,⟨some 22,none,.mv (.t 23)⟩]) (.cond (.t 22) (.seq (.reg [ ⟨some 24,none,.fad 4 (.t 1)⟩,⟨some 25,none,.ld none (.t 24)⟩,⟨some 26,none,.fad 5 (.t 1)⟩,⟨some 27,none,.ld none (.t 26)⟩,⟨some 28,none,.bin .add (.t 25) (.t 27)⟩,⟨some 29,none,.bin .eql (.t 28) (.c (.s []))⟩,⟨some 30,none,.mv (.t 29)⟩,⟨(some 31),(some (30,true)),(.fad 1 (.t 1))⟩,⟨(some 32),(some (30,true)),(.ld (some 3) (.t 31))⟩,⟨(some 33),(some (30,true)),(.call (.c (.fn 105 [])) [(.t 32)])⟩,⟨(some 34),(some (30,true)),(.bin .eql (.t 33) (.c (.sc (.int .i64 0))))⟩,⟨some 35,none,.pick (.t 30) (.t 34) (.c (.sc (.bool false)))⟩,⟨some 36,none,.mv (.t 35)⟩,⟨(some 37),(some (36,true)),(.fad 1 (.t 1))⟩,⟨(some 38),(some (36,true)),(.fad 0 (.t 37))⟩,⟨(some 39),(some (36,true)),(.ld none (.t 38))⟩,⟨(some 40),(some (36,true)),(.bin .neq (.t 39) (.c (.sc (.int .i64 1))))⟩,⟨(some 41),(some (36,true)),(.mv (.t 40))⟩,⟨(some 42),(some (41,false)),(.fad 1 (.t 1))⟩,⟨(some 43),(some (41,false)),(.fad 1 (.t 42))⟩,⟨(some 44),(some (41,false)),(.ld none (.t 43))⟩,⟨(some 45),(some (41,false)),(.bin .geq (.t 44) (.c (.sc (.int .i64 0))))⟩,⟨(some 46),(some (36,true)),(.pick (.t 41) (.c (.sc (.bool true))) (.t 45))⟩,⟨some 47,none,.pick (.t 36) (.t 46) (.c (.sc (.bool false)))⟩,⟨some 2,none,.mv (.t 47)⟩]) .ret) (.seq (.reg [ ⟨some 49,none,.bin .eql (.t 21) (.c (.sc (.int .i64 1)))⟩,⟨some 48,none,.mv (.t 49)⟩]) (.cond (.t 48) (.seq (.reg [ ⟨some 50,none,.fad 1 (.t 1)⟩,⟨some 51,none,.ld (some 3) (.t 50)⟩,⟨some 52,none,.build [(.int .i64 0),(.int .i64 0),(.string ⟨#[]⟩)] []⟩,⟨some 53,none,.eqs [0,0,2] false (.t 51) (.t 52)⟩,⟨some 54,none,.mv (.t 53)⟩,⟨(some 55),(some (54,true)),(.fad 5 (.t 1))⟩,⟨(some 56),(some (54,true)),(.ld none (.t 55))⟩,⟨(some 57),(some (54,true)),(.call (.c (.fn 25 [])) [(.t 56)])⟩,⟨some 58,none,.pick (.t 54) (.t 57) (.c (.sc (.bool false)))⟩,⟨some 59,none,.mv (.t 58)⟩,⟨(some 60),(some (59,true)),(.fad 4 (.t 1))⟩,⟨(some 61),(some (59,true)),(.ld none (.t 60))⟩,⟨(some 62),(some (59,true)),(.bin .eql (.t 61) (.c (.s [])))⟩,⟨(some 63),(some (59,true)),(.mv (.t 62))⟩,⟨(some 64),(some (63,false)),(.fad 4 (.t 1))⟩,⟨(some 65),(some (63,false)),(.ld none (.t 64))⟩,⟨(some 66),(some (63,false)),(.call (.c (.fn 25 [])) [(.t 65)])⟩,⟨(some 67),(some (59,true)),(.pick (.t 63) (.c (.sc (.bool true))) (.t 66))⟩,⟨some 68,none,.pick (.t 59) (.t 67) (.c (.sc (.bool false)))⟩,⟨some 2,none,.mv (.t 68)⟩]) .ret) .skip)))))) (.seq (.reg [ ⟨some 69,none,.fad 1 (.t 1)⟩,⟨some 70,none,.ld (some 3) (.t 69)⟩,⟨some 71,none,.build [(.int .i64 0),(.int .i64 0),(.string ⟨#[]⟩)] []⟩,⟨some 72,none,.eqs [0,0,2] false (.t 70) (.t 71)⟩,⟨some 73,none,.mv (.t 72)⟩,⟨(some 74),(some (73,true)),(.fad 4 (.t 1))⟩,⟨(some 75),(some (73,true)),(.ld none (.t 74))⟩,⟨(some 76),(some (73,true)),(.fad 5 (.t 1))⟩,⟨(some 77),(some (73,true)),(.ld none (.t 76))⟩,⟨(some 78),(some (73,true)),(.bin .add (.t 75) (.t 77))⟩,⟨(some 79),(some (73,true)),(.bin .eql (.t 78) (.c (.s [])))⟩,⟨some 80,none,.pick (.t 73) (.t 79) (.c (.sc (.bool false)))⟩,⟨some 2,none,.mv (.t 80)⟩]) .ret)))))
def sh_syntax_part (a0 : AV) (σ : Hp) (n : Nat) (R : AEnd → Hp → Nat → Prop) : Prop :=
 bindS (hBox n a0) σ n fun v1 σ n =>
 bindP (aFad 0 v1) fun v2 =>
 bindP (aLd σ none v2) fun v3 =>
 CALL Tryd.prog (.fn 104 []) [v3] σ n (kc_syntax_part4 v1 R)
theorem se_syntax_part (a0 : AV) (σ : Hp) (n : Nat) (R : AEnd → Hp → Nat → Prop) : sh_syntax_part a0 σ n R = swp Tryd.prog sc_syntax_part (retQ [(.t 2)] R) (entry [a0]) σ n := by kernel_rfl
theorem by_syntax_part {a0 : AV} {σ : Hp} {n : Nat} {R : AEnd → Hp → Nat → Prop} (h : sh_syntax_part a0 σ n R) : ConH Tryd.prog 63 [a0] σ n R := by
  rw [se_syntax_part] at h
  exact conH_of [(.t 2)] (fn := Tryd.f63) rfl [0, 4, 3, 19, 22, 21, 48, 1, 2] (by kernel_rfl) (by kernel_rfl) (by kernel_rfl) (by kernel_rfl) h
def kc_ref04_part1 (v1 : AV) (R : AEnd → Hp → Nat → Prop) (r : AEnd) (σ : Hp) (n : Nat) : Prop :=
 onEnd r (fun v19 =>
 bindP (semBin .eql v19 (.sc (.int .i64 0))) fun v21 =>
 guardP v21 true (aFad 1 v1) fun v22 =>
 guardP v21 true (aFad 0 v22) fun v23 =>
 guardP v21 true (aLd σ none v23) fun v24 =>
 guardP v21 true (semBin .eql v24 (.sc (.int .i64 1))) fun v25 =>
 guardP v21 true (some v25) fun v26 =>
 guardP v26 true (aFad 1 v1) fun v27 =>
 guardP v26 true (aFad 1 v27) fun v28 =>
 guardP v26 true (aLd σ none v28) fun v29 =>
 guardP v26 true (semBin .lss v29 (.sc (.int .i64 0))) fun v30 =>
 guardP v21 true (aPick v26 v30 (.sc (.bool false))) fun v31 =>
 guardP v21 true (aUn .not v31) fun v32 =>
 bindP (aPick v21 v32 (.sc (.bool false))) fun v33 =>
 guardP v33 true (aFad 4 v1) fun v34 =>
 guardP v33 true (aLd σ none v34) fun v35 =>
 guardP v33 true (semBin .eql v35 (.s [])) fun v36 =>
 bindP (aPick v33 v36 (.sc (.bool false))) fun v37 =>
 guardP v37 true (aFad 5 v1) fun v38 =>
 guardP v37 true (aLd σ none v38) fun v39 =>
 guardP v37 true (semBin .eql v39 (.s [])) fun v40 =>
 bindP (aPick v37 v40 (.sc (.bool false))) fun v41 =>
 R (.ret v41) σ n) (fun v20 => R (.pan v20) σ n)
def kc_ref04_part2 (Kg : AV → Hp → Nat → Prop) (R : AEnd → Hp → Nat → Prop) (r : AEnd) (σ : Hp) (n : Nat) : Prop :=
 onEnd r (fun v46 =>
 Kg v46 σ n) (fun v47 => R (.pan v47) σ n)
def kc_ref04_part3 (Kg : AV → Hp → Nat → Prop) (R : AEnd → Hp → Nat → Prop) (r : AEnd) (σ : Hp) (n : Nat) : Prop :=
 onEnd r (fun v56 =>
 Kg v56 σ n) (fun v57 => R (.pan v57) σ n)
def kd_ref04_part4 (v1 : AV) (σ : Hp) (v2 : AV) (n : Nat) (R : AEnd → Hp → Nat → Prop) (r : AEnd) (w4 : Wr) (d4 : List Nat) : Prop :=
 onEnd r (fun v4 =>
 bindP (aFad 6 v1) fun v6 =>
 bindP (aLd σ none v6) fun v7 =>
 bindP (aLen false v7) fun v8 =>
 bindP (semBin .neq v4 v8) fun v9 =>
 Apt (names []) (rdA v2) (names []) (rdA v6) ∧
 Apt (names w4) d4 (names []) (rdA v6) ∧
 ∀ n_, n + 16 * 7 ≤ n_ → (fun n => (fun σ => COND v9 (
 R (.ret (.sc (.bool false))) σ n) (
 bindP (aFad 1 v1) fun v10 =>
 bindP (aLd σ (some 3) v10) fun v11 =>
 bindP (aBuild [(.int .i64 0), (.int .i64 0), (.string ⟨#[]⟩)] []) fun v12 =>
 bindP (aEqs [0, 0, 2] false v11 v12) fun v13 =>
 bindP (aFad 0 v1) fun v14 =>
 bindP (aLd σ none v14) fun v15 =>
 bindP (semBin .eql v15 (.sc (.int .i64 0))) fun v16 =>
 COND v16 (
 bindP (aFad 1 v1) fun v17 =>
 bindP (aLd σ (some 3) v17) fun v18 =>
 CALL Tryd.prog (.fn 107 []) [v18] σ n (kc_ref04_part1 v1 R)) (
 bindP (semBin .eql v15 (.sc (.int .i64 1))) fun v42 =>
 COND v42 (
 guardP v13 true (aFad 5 v1) fun v43 =>
 guardP v13 true (aLd σ none v43) fun v44 =>
 guardK v13 true (fun Kg => CALL Tryd.prog (.fn 66 []) [v44] σ n (kc_ref04_part2 Kg R)) σ n fun v45 σ n =>
 bindP (aPick v13 v45 (.sc (.bool false))) fun v48 =>
 guardP v48 true (aFad 4 v1) fun v49 =>
 guardP v48 true (aLd σ none v49) fun v50 =>
 guardP v48 true (semBin .eql v50 (.s [])) fun v51 =>
 guardP v48 true (some v51) fun v52 =>
 guardP v52 false (aFad 4 v1) fun v53 =>
 guardP v52 false (aLd σ none v53) fun v54 =>
 guardK v52 false (fun Kg => CALL Tryd.prog (.fn 66 []) [v54] σ n (kc_ref04_part3 Kg R)) σ n fun v55 σ n =>
 guardP v48 true (aPick v52 (.sc (.bool true)) v55) fun v58 =>
 bindP (aPick v48 v58 (.sc (.bool false))) fun v59 =>
 R (.ret v59) σ n) (
 guardP v13 true (aFad 4 v1) fun v60 =>
 guardP v13 true (aLd σ none v60) fun v61 =>
 guardP v13 true (semBin .eql v61 (.s [])) fun v62 =>
 bindP (aPick v13 v62 (.sc (.bool false))) fun v63 =>
 guardP v63 true (aFad 5 v1) fun v64 =>
 guardP v63 true (aLd σ none v64) fun v65 =>
 guardP v63 true (semBin .eql v65 (.s [])) fun v66 =>
 bindP (aPick v63 v66 (.sc (.bool false))) fun v67 =>
 R (.ret v67) σ n)))) (applyW σ w4)) n_) (fun v5 => bindP (aFad 6 v1) fun v68 =>
 bindP (aLd σ none v68) fun v69 =>
 bindP (aLen false v69) fun v70 =>
 Apt (names []) (rdA v2) (names []) (rdA v68) ∧
 Apt (names []) d4 (names []) (rdA v68) ∧
 ∀ (fr_ : Regs) σ n, R (.pan v5) σ n)
attribute [go_sem] kc_ref04_part1 kc_ref04_part2 kc_ref04_part3 kd_ref04_part4
def sc_ref04_part : SCode := (.seq (.reg [ ⟨some 1,none,.box (.t 0)⟩,⟨some 2,none,.mv (.c (.sc (.bool false)))⟩]) (.seq (.seq (.regD [(⟨some 4,none,.fad 0 (.t 1)⟩,[]),(⟨some 5,none,.ld none (.t 4)⟩,[0]),(⟨some 6,none,.call (.c (.fn 106 [])) [(.t 5)]⟩,[1,0]),(⟨some 7,none,.fad 6 (.t 1)⟩,[]),(⟨some 8,none,.ld none (.t 7)⟩,[3]),(⟨some 9,none,.len false (.t 8)⟩,[4,3]),(⟨some 10,none,.bin .neq (.t 6) (.t 9)⟩,[2,1,0,5,4,3])]) (.cond (.t 10) (.seq (.reg [ ⟨some 2,none,.mv (.c (.sc (.bool false)))⟩]) .ret) .skip)) (.seq (.reg [ ⟨some 11,none,.fad 1 (.t 1)⟩,⟨some 12,none,.ld (some 3) (.t 11)⟩,⟨some 13,none,.build [(.int .i64 0),(.int .i64 0),(.string ⟨#[]⟩)] []⟩,⟨some 14,none,.eqs [0,0,2] false (.t 12) (.t 13)⟩,⟨some 3,none,.mv (.t 14)⟩]) (.seq (.seq (.reg [ ⟨some 15,none,.fad 0 (.t 1)⟩,⟨some 16,none,.ld none (.t 15)⟩]) (.block 0 (.seq (.reg [ ⟨some 18,none,.bin .eql (.t 16) (.c (.sc (.int .i64 0)))⟩,⟨some 17,none,.mv (.t 18)⟩]) (.cond (.t 17) (.seq (.reg [ ⟨some 19,none,.fad 1 (.t 1)⟩,⟨some 20,none,.ld (some 3) (.t 19)⟩,⟨some 21,none,.call (.c (.fn 107 [])) [(.t 20)]⟩,⟨some 22,none,.bin .eql (.t 21) (.c (.sc (.int .i64 0)))⟩,⟨some 23,none,.mv (.t 22)⟩,⟨(some 24),(some (23,true)),(.fad 1 (.t 1))⟩,⟨(some 25),(some (23,true)),(.fad 0 (.t 24))⟩,⟨(some 26),(some (23,true)),(.ld none (.t 25))⟩,⟨(some 27),(some (23,true)),(.bin .eql (.t 26) (.c (.sc (.int .i64 1))))⟩,⟨(some 28),(some (23,true)),(.mv (.t 27))⟩,⟨(some 29),(some (28,true)),(.fad 1 (.t 1))⟩,⟨(some 30),(some (28,true)),(.fad 1 (.t 29))⟩,⟨(some 31),(some (28,true)),(.ld none (.t 30))⟩,⟨(some 32),(some (28,true)),(.bin .lss (.t 31) (.c (.sc (.int .i64 0))))⟩,⟨(some 33),(some (23,true)),(.pick (.t 28) (.t 32) (.c (.sc (.bool false))))⟩,⟨(some 34),(some (23,true)),(.un .not (.t 33))⟩,⟨some 35,none,.pick (.t 23) (.t 34) (.c (.sc (.bool false)))⟩,⟨some 36,none,.mv (.t 35)⟩,⟨(some 37),(some (36,true)),(.fad 4 (.t 1))⟩,⟨(some 38),(some (36,true)),(.ld none (.t 37))⟩,⟨(some 39),(some (36,true)),(.bin .eql (.t 38) (.c (.s [])))⟩,⟨some 40,none,.pick (.t 36) (.t 39) (.c (.sc (.bool false)))⟩,⟨some 41,none,.mv (.t 40)⟩,⟨(some 42),(some (41,true)),(.fad 5 (.t 1))⟩,⟨(some 43),(some (41,true)),(.ld none (.t 42))⟩,⟨(some 44),(some (41,true)),(.bin .eql (.t 43) (.c (.s [])))⟩,⟨some 45,none,.pick (.t 41) (.t 44) (.c (.sc (.bool false)))⟩,⟨some 2,none,.mv (.t 45)⟩]) .ret) (.seq (.reg [ ⟨some 47,none,.bin .eql (.t 16) (.c (.sc (.int .i64 1)))⟩,⟨some 46,none,.mv (.t 47)⟩]) (.cond (.t 46) (.seq (.reg [ ⟨some 48,none,.mv (.t 3)⟩,⟨some 49,none,.mv (.t 48)⟩,⟨(some 50),(some (49,true)),(.fad 5 (.t 1))⟩,⟨(some 51),(some (49,true)),(.ld none (.t 50))⟩,⟨(some 52),(some (49,true)),(.call (.c (.fn 66 [])) [(.t 51)])⟩,⟨some 53,none,.pick (.t 49) (.t 52) (.c (.sc (.bool false)))⟩,⟨some 54,none,.mv (.t 53)⟩,⟨(some 55),(some (54,true)),(.fad 4 (.t 1))⟩,⟨(some 56),(some (54,true)),(.ld none (.t 55))⟩,⟨(some 57),(some (54,true)),(.bin .eql (.t 56) (.c (.s [])))⟩,⟨(some 58),(some (54,true)),(.mv (.t 57))⟩,⟨(some 59),(some (58,false)),(.fad 4 (.t 1))⟩,⟨(some 60),(some (58,false)),(.ld none (.t 59))⟩,⟨(some 61),(some (58,false)),(.call (.c (.fn 66 [])) [(.t 60)])⟩,⟨(some 62),(some (54,true)),(.pick (.t 58) (.c (.sc (.bool true))) (.t 61))⟩,⟨some 63,none,.pick (.t 54) (.t 62) (.c (.sc (.bool false)))⟩,⟨some 2,none,.mv (.t 63)⟩]) .ret) .skip)))))) (.seq (.reg [ ⟨some 64,none,.mv (.t 3)⟩,⟨some 65,none,.mv (.t 64)⟩,⟨(some 66),(some (65,true)),(.fad 4 (.t 1))⟩,⟨(some 67),(some (65,true)),(.ld none (.t 66))⟩,⟨(some 68),(some (65,true)),(.bin .eql (.t 67) (.c (.s [])))⟩,⟨some 69,none,.pick (.t 65) (.t 68) (.c (.sc (.bool false)))⟩,⟨some 70,none,.mv (.t 69)⟩,⟨(some 71),(some (70,true)),(.fad 5 (.t 1))⟩,⟨(some 72),(some (70,true)),(.ld none (.t 71))⟩,⟨(some 73),(some (70,true)),(.bin .eql (.t 72) (.c (.s [])))⟩,⟨some 74,none,.pick (.t 70) (.t 73) (.c (.sc (.bool false)))⟩,⟨some 2,none,.mv (.t 74)⟩]) .ret)))))
def sh_ref04_part (a0 : AV) (σ : Hp) (n : Nat) (R : AEnd → Hp → Nat → Prop) : Prop :=
 bindS (hBox n a0) σ n fun v1 σ n =>
 bindP (aFad 0 v1) fun v2 =>
 bindP (aLd σ none v2) fun v3 =>
 callD Tryd.prog (.fn 106 []) [v3] σ (n + 16 * 2) (kd_ref04_part4 v1 σ v2 n R)
theorem se_ref04_part (a0 : AV) (σ : Hp) (n : Nat) (R : AEnd → Hp → Nat → Prop) : sh_ref04_part a0 σ n R = swp Tryd.prog sc_ref04_part (retQ [(.t 2)] R) (entry [a0]) σ n := by kernel_rfl
theorem by_ref04_part {a0 : AV} {σ : Hp} {n : Nat} {R : AEnd → Hp → Nat → Prop} (h : sh_ref04_part a0 σ n R) : ConH Tryd.prog 64 [a0] σ n R := by
  rw [se_ref04_part] at h
  exact conH_of [(.t 2)] (fn := Tryd.f64) rfl [0, 10, 17, 16, 46, 3, 1, 2] (by kernel_rfl) (by kernel_rfl) (by kernel_rfl) (by kernel_rfl) h
def kc_ref04_Name1 (Kg : AV → Hp → Nat → Prop) (R : AEnd → Hp → Nat → Prop) (r : AEnd) (σ : Hp) (n : Nat) : Prop :=
 onEnd r (fun v18 =>
 Kg v18 σ n) (fun v19 => R (.pan v19) σ n)
def lb_ref04_Name2 (a0 : AV) (R : AEnd → Hp → Nat → Prop) (K21 : List AV → Hp → Nat → Prop) (s21 : List AV) (σ : Hp) (n : Nat) : Prop :=
 bindP (aLen true a0) fun v22 => bnd σ a0 →
 bindP (semBin .lss (s21.getD 4 .any) v22) fun v23 =>
 COND v23 (
 bindP (aIstr a0 (s21.getD 4 .any)) fun v24 =>
 bindP (semBin .geq v24 (.sc (.int .u8 97))) fun v25 =>
 guardP v25 true (some v24) fun v26 =>
 guardP v25 true (semBin .leq v26 (.sc (.int .u8 122))) fun v27 =>
 bindP (aPick v25 v27 (.sc (.bool false))) fun v28 =>
 guardP v28 false (some v24) fun v29 =>
 guardP v28 false (semBin .geq v29 (.sc (.int .u8 48))) fun v30 =>
 guardP v28 false (some v30) fun v31 =>
 guardP v31 true (some v24) fun v32 =>
 guardP v31 true (semBin .leq v32 (.sc (.int .u8 57))) fun v33 =>
 guardP v28 false (aPick v31 v33 (.sc (.bool false))) fun v34 =>
 bindP (aPick v28 (.sc (.bool true)) v34) fun v35 =>
 guardP v35 false (some v24) fun v36 =>
 guardP v35 false (semBin .eql v36 (.sc (.int .u8 95))) fun v37 =>
 bindP (aPick v35 (.sc (.bool true)) v37) fun v38 =>
 bindP (aUn .not v38) fun v39 =>
 COND v39 (
 R (.ret (.sc (.bool false))) σ n) (
 bindP (semBin .add (s21.getD 4 .any) (.sc (.int .i64 1))) fun v40 =>
 K21 [v23, v24, v39, (s21.getD 3 .any), v40] σ n)) (
 R (.ret (.sc (.bool true))) σ n)
attribute [go_sem] kc_ref04_Name1 lb_ref04_Name2
def sc_ref04_Name : SCode := (.seq (.reg [ ⟨some 2,none,.mv (.c (.sc (.bool false)))⟩]) (.seq (.seq (.reg [ ⟨some 5,none,.mv (.t 0)⟩,⟨some 6,none,.len true (.t 5)⟩,⟨some 7,none,.bin .lss (.t 6) (.c (.sc (.int .i64 1)))⟩,⟨some 8,none,.mv (.t 7)⟩,⟨(some 9),(some (8,false)),(.mv (.t 0))⟩,⟨(some 10),(some (8,false)),(.len true (.t 9))⟩,⟨(some 11),(some (8,false)),(.bin .gtr (.t 10) (.c (.sc (.int .i64 16))))⟩,⟨some 12,none,.pick (.t 8) (.c (.sc (.bool true))) (.t 11)⟩,⟨some 13,none,.mv (.t 12)⟩,⟨(some 14),(some (13,false)),(.mv (.t 0))⟩,⟨(some 15),(some (13,false)),(.istr (.t 14) (.c (.sc (.int .i64 0))))⟩,⟨(some 16),(some (13,false)),(.bin .geq (.t 15) (.c (.sc (.int .u8 48))))⟩,⟨(some 17),(some (13,false)),(.mv (.t 16))⟩,⟨(some 18),(some (17,true)),(.mv (.t 0))⟩,⟨(some 19),(some (17,true)),(.istr (.t 18) (.c (.sc (.int .i64 0))))⟩,⟨(some 20),(some (17,true)),(.bin .leq (.t 19) (.c (.sc (.int .u8 57))))⟩,⟨(some 21),(some (13,false)),(.pick (.t 17) (.t 20) (.c (.sc (.bool false))))⟩,⟨some 22,none,.pick (.t 13) (.c (.sc (.bool true))) (.t 21)⟩,⟨some 23,none,.mv (.t 22)⟩,⟨(some 24),(some (23,false)),(.mv (.t 0))⟩,⟨(some 25),(some (23,false)),(.call (.c (.fn 108 [])) [(.t 24)])⟩,⟨some 26,none,.pick (.t 23) (.c (.sc (.bool true))) (.t 25)⟩]) (.cond (.t 26) (.seq (.reg [ ⟨some 2,none,.mv (.c (.sc (.bool false)))⟩]) .ret) .skip)) (.seq (.seq (.reg [ ⟨some 3,none,.mv (.c (.sc (.int .i64 0)))⟩]) (.block 0 (.loop [30,4,54,2,3] [27,28,29,30,33,34,35,4,36,37,38,39,40,41,42,43,44,45,46,47,48,49,50,51,52,53,54,2,31,32,3] (.seq (.seq (.reg [ ⟨some 27,none,.mv (.t 3)⟩,⟨some 28,none,.mv (.t 0)⟩,⟨some 29,none,.len true (.t 28)⟩,⟨some 30,none,.bin .lss (.t 27) (.t 29)⟩]) (.cond (.t 30) .skip (.exit 0))) (.seq (.block 1 (.seq (.reg [ ⟨some 33,none,.mv (.t 0)⟩,⟨some 34,none,.mv (.t 3)⟩,⟨some 35,none,.istr (.t 33) (.t 34)⟩,⟨some 4,none,.mv (.t 35)⟩]) (.seq (.reg [ ⟨some 36,none,.mv (.t 4)⟩,⟨some 37,none,.bin .geq (.t 36) (.c (.sc (.int .u8 97)))⟩,⟨some 38,none,.mv (.t 37)⟩,⟨(some 39),(some (38,true)),(.mv (.t 4))⟩,⟨(some 40),(some (38,true)),(.bin .leq (.t 39) (.c (.sc (.int .u8 122))))⟩,⟨some 41,none,.pick (.t 38) (.t 40) (.c (.sc (.bool false)))⟩,⟨some 42,none,.mv (.t 41)⟩,⟨(some 43),(some (42,false)),(.mv (.t 4))⟩,⟨(some 44),(some (42,false)),(.bin .geq (.t 43) (.c (.sc (.int .u8 48))))⟩,⟨(some 45),(some (42,false)),(.mv (.t 44))⟩,⟨(some 46),(some (45,true)),(.mv (.t 4))⟩,⟨(some 47),(some (45,true)),(.bin .leq (.t 46) (.c (.sc (.int .u8 57))))⟩,⟨(some 48),(some (42,false)),(.pick (.t 45) (.t 47) (.c (.sc (.bool false))))⟩,⟨some 49,none,.pick (.t 42) (.c (.sc (.bool true))) (.t 48)⟩,⟨some 50,none,.mv (.t 49)⟩,⟨(some 51),(some (50,false)),(.mv (.t 4))⟩,⟨(some 52),(some (50,false)),(.bin .eql (.t 51) (.c (.sc (.int .u8 95))))⟩,⟨some 53,none,.pick (.t 50) (.c (.sc (.bool true))) (.t 52)⟩,⟨some 54,none,.un .not (.t 53)⟩]) (.cond (.t 54) (.seq (.reg [ ⟨some 2,none,.mv (.c (.sc (.bool false)))⟩]) .ret) .skip)))) (.reg [ ⟨some 31,none,.mv (.t 3)⟩,⟨some 32,none,.bin .add (.t 31) (.c (.sc (.int .i64 1)))⟩,⟨some 3,none,.mv (.t 32)⟩])))))) (.seq (.reg [ ⟨some 2,none,.mv (.c (.sc (.bool true)))⟩]) .ret))))
def sh_ref04_Name (a0 : AV) (σ : Hp) (n : Nat) (R : AEnd → Hp → Nat → Prop) : Prop :=
 bindP (aLen true a0) fun v1 => bnd σ a0 →
 bindP (semBin .lss v1 (.sc (.int .i64 1))) fun v2 =>
 guardP v2 false (some a0) fun v3 =>
 guardP v2 false (aLen true v3) fun v4 =>
 guardP v2 false (semBin .gtr v4 (.sc (.int .i64 16))) fun v5 =>
 bindP (aPick v2 (.sc (.bool true)) v5) fun v6 =>
 guardP v6 false (some a0) fun v7 =>
 guardP v6 false (aIstr v7 (.sc (.int .i64 0))) fun v8 =>
 guardP v6 false (semBin .geq v8 (.sc (.int .u8 48))) fun v9 =>
 guardP v6 false (some v9) fun v10 =>
 guardP v10 true (some a0) fun v11 =>
 guardP v10 true (aIstr v11 (.sc (.int .i64 0))) fun v12 =>
 guardP v10 true (semBin .leq v12 (.sc (.int .u8 57))) fun v13 =>
 guardP v6 false (aPick v10 v13 (.sc (.bool false))) fun v14 =>
 bindP (aPick v6 (.sc (.bool true)) v14) fun v15 =>
 guardP v15 false (some a0) fun v16 =>
 guardK v15 false (fun Kg => CALL Tryd.prog (.fn 108 []) [v16] σ n (kc_ref04_Name1 Kg R)) σ n fun v17 σ n =>
 bindP (aPick v15 (.sc (.bool true)) v17) fun v20 =>
 COND v20 (
 R (.ret (.sc (.bool false))) σ n) (
 LOOP (lb_ref04_Name2 a0 R) [(.tp []), (.tp []), (.tp []), (.sc (.bool false)), (.sc (.int .i64 0))] σ n)
theorem se_ref04_Name (a0 : AV) (σ : Hp) (n : Nat) (R : AEnd → Hp → Nat → Prop) : sh_ref04_Name a0 σ n R = swp Tryd.prog sc_ref04_Name (retQ [(.t 2)] R) (entry [a0]) σ n := by kernel_rfl
theorem by_ref04_Name {a0 : AV} {σ : Hp} {n : Nat} {R : AEnd → Hp → Nat → Prop} (h : sh_ref04_Name a0 σ n R) : ConH Tryd.prog 66 [a0] σ n R := by
  rw [se_ref04_Name] at h
  exact conH_of [(.t 2)] (fn := Tryd.f66) rfl [26, 30, 0, 4, 54, 3, 2] (by kernel_rfl) (by kernel_rfl) (by kernel_rfl) (by kernel_rfl) h
def jk_syntax_Args1 (R : AEnd → Hp → Nat → Prop) (a0 : AV) (s2 : List AV) (σ : Hp) (n : Nat) : Prop :=
 COND (s2.getD 0 .any) (
 R (.ret (.tp [(.sc (.int .i64 1)), (.sc (.bool true))])) σ n) (
 bindP (semBin .geq a0 (.sc (.int .i64 4))) fun v3 =>
 guardP v3 true (some a0) fun v4 =>
 guardP v3 true (semBin .lss v4 (.sc (.int .i64 16))) fun v5 =>
 bindP (aPick v3 v5 (.sc (.bool false))) fun v6 =>
 R (.ret (.tp [(.sc (.int .i64 2)), v6])) σ n)
def jk_syntax_Args2 (R : AEnd → Hp → Nat → Prop) (a0 : AV) (s1 : List AV) (σ : Hp) (n : Nat) : Prop :=
 COND (s1.getD 0 .any) (
 R (.ret (.tp [(.sc (.int .i64 0)), (.sc (.bool true))])) σ n) (
 JOIN (jk_syntax_Args1 R a0) fun K2 =>
 bindP (semBin .eql a0 (.sc (.int .i64 2))) fun v7 =>
 COND v7 (
 K2 [v7] σ n) (
 bindP (semBin .eql a0 (.sc (.int .i64 3))) fun v8 =>
 COND v8 (
 K2 [v8] σ n) (
 bindP (semBin .eql a0 (.sc (.int .i64 16))) fun v9 =>
 COND v9 (
 K2 [v9] σ n) (
 bindP (semBin .eql a0 (.sc (.int .i64 17))) fun v10 =>
 COND v10 (
 K2 [v10] σ n) (
 bindP (semBin .eql a0 (.sc (.int .i64 19))) fun v11 =>
 COND v11 (
 K2 [v11] σ n) (
 bindP (semBin .eql a0 (.sc (.int .i64 20))) fun v12 =>
 COND v12 (
 K2 [v12] σ n) (
 bindP (semBin .eql a0 (.sc (.int .i64 21))) fun v13 =>
 COND v13 (
 K2 [v13] σ n) (
 bindP (semBin .eql a0 (.sc (.int .i64 22))) fun v14 =>
 K2 [v14] σ n))))))))
attribute [go_sem] jk_syntax_Args1 jk_syntax_Args2
def sc_syntax_Args : SCode := (.seq (.reg [ ⟨some 2,none,.mv (.c (.sc (.int .i64 0)))⟩,⟨some 3,none,.mv (.c (.sc (.bool false)))⟩]) (.seq (.seq (.reg [ ⟨some 4,none,.mv (.t 0)⟩]) (.block 0 (.seqJ [5] [6,5,7,5,8,5] (.seq (.reg [ ⟨some 6,none,.bin .eql (.t 4) (.c (.sc (.int .i64 0)))⟩,⟨some 5,none,.mv (.t 6)⟩]) (.cond (.t 5) .skip (.seq (.reg [ ⟨some 7,none,.bin .eql (.t 4) (.c (.sc (.int .i64 1)))⟩,⟨some 5,none,.mv (.t 7)⟩]) (.cond (.t 5) .skip (.reg [ ⟨some 8,none,.bin .eql (.t 4) (.c (.sc (.int .i64 18)))⟩,⟨some 5,none,.mv (.t 8)⟩]))))) (.cond (.t 5) (.seq (.reg [ ⟨some 2,none,.mv (.c (.sc (.int .i64 0)))⟩,⟨some 3,none,.mv (.c (.sc (.bool true)))⟩]) .ret) (.seqJ [9] [10,9,11,9,12,9,13,9,14,9,15,9,16,9,17,9] (.seq (.reg [ ⟨some 10,none,.bin .eql (.t 4) (.c (.sc (.int .i64 2)))⟩,⟨some 9,none,.mv (.t 10)⟩]) (.cond (.t 9) .skip (.seq (.reg [ ⟨some 11,none,.bin .eql (.t 4) (.c (.sc (.int .i64 3)))⟩,⟨some 9,none,.mv (.t 11)⟩]) (.cond (.t 9) .skip (.seq (.reg [ ⟨some 12,none,.bin .eql (.t 4) (.c (.sc (.int .i64 16)))⟩,⟨some 9,none,.mv (.t 12)⟩]) (.cond (.t 9) .skip (.seq (.reg [ ⟨some 13,none,.bin .eql (.t 4) (.c (.sc (.int .i64 17)))⟩,⟨some 9,none,.mv (.t 13)⟩]) (.cond (.t 9) .skip (.seq (.reg [ ⟨some 14,none,.bin .eql (.t 4) (.c (.sc (.int .i64 19)))⟩,⟨some 9,none,.mv (.t 14)⟩]) (.cond (.t 9) .skip (.seq (.reg [ ⟨some 15,none,.bin .eql (.t 4) (.c (.sc (.int .i64 20)))⟩,⟨some 9,none,.mv (.t 15)⟩]) (.cond (.t 9) .skip (.seq (.reg [ ⟨some 16,none,.bin .eql (.t 4) (.c (.sc (.int .i64 21)))⟩,⟨some 9,none,.mv (.t 16)⟩]) (.cond (.t 9) .skip (.reg [ ⟨some 17,none,.bin .eql (.t 4) (.c (.sc (.int .i64 22)))⟩,⟨some 9,none,.mv (.t 17)⟩]))))))))))))))) (.cond (.t 9) (.seq (.reg [ ⟨some 2,none,.mv (.c (.sc (.int .i64 1)))⟩,⟨some 3,none,.mv (.c (.sc (.bool true)))⟩]) .ret) .skip)))))) (.seq (.reg [ ⟨some 18,none,.mv (.t 0)⟩,⟨some 19,none,.bin .geq (.t 18) (.c (.sc (.int .i64 4)))⟩,⟨some 20,none,.mv (.t 19)⟩,⟨(some 21),(some (20,true)),(.mv (.t 0))⟩,⟨(some 22),(some (20,true)),(.bin .lss (.t 21) (.c (.sc (.int .i64 16))))⟩,⟨some 23,none,.pick (.t 20) (.t 22) (.c (.sc (.bool false)))⟩,⟨some 2,none,.mv (.c (.sc (.int .i64 2)))⟩,⟨some 3,none,.mv (.t 23)⟩]) .ret)))
def sh_syntax_Args (a0 : AV) (σ : Hp) (n : Nat) (R : AEnd → Hp → Nat → Prop) : Prop :=
 JOIN (jk_syntax_Args2 R a0) fun K1 =>
 bindP (semBin .eql a0 (.sc (.int .i64 0))) fun v15 =>
 COND v15 (
 K1 [v15] σ n) (
 bindP (semBin .eql a0 (.sc (.int .i64 1))) fun v16 =>
 COND v16 (
 K1 [v16] σ n) (
 bindP (semBin .eql a0 (.sc (.int .i64 18))) fun v17 =>
 K1 [v17] σ n))
theorem se_syntax_Args (a0 : AV) (σ : Hp) (n : Nat) (R : AEnd → Hp → Nat → Prop) : sh_syntax_Args a0 σ n R = swp Tryd.prog sc_syntax_Args (retQ [(.t 2), (.t 3)] R) (entry [a0]) σ n := by kernel_rfl
theorem by_syntax_Args {a0 : AV} {σ : Hp} {n : Nat} {R : AEnd → Hp → Nat → Prop} (h : sh_syntax_Args a0 σ n R) : ConH Tryd.prog 104 [a0] σ n R := by
  rw [se_syntax_Args] at h
  exact conH_of [(.t 2), (.t 3)] (fn := Tryd.f104) rfl [5, 4, 9, 0, 2, 3] (by kernel_rfl) (by kernel_rfl) (by kernel_rfl) (by kernel_rfl) h
def sc_ref04_args : SCode := (.seq (.reg [ ⟨some 2,none,.mv (.c (.sc (.int .i64 0)))⟩]) (.seq (.block 0 (.seq (.reg [ ⟨some 4,none,.mv (.t 0)⟩,⟨some 5,none,.bin .lss (.t 4) (.c (.sc (.int .i64 0)))⟩,⟨some 6,none,.mv (.t 5)⟩,⟨(some 7),(some (6,false)),(.mv (.t 0))⟩,⟨(some 8),(some (6,false)),(.bin .gtr (.t 7) (.c (.sc (.int .i64 22))))⟩,⟨some 9,none,.pick (.t 6) (.c (.sc (.bool true))) (.t 8)⟩,⟨some 3,none,.mv (.t 9)⟩]) (.cond (.t 3) (.seq (.reg [ ⟨(some 2),none,(.mv (.c (.sc (.int .i64 (-1)))))⟩]) .ret) (.seq (.reg [ ⟨some 11,none,.mv (.t 0)⟩,⟨some 12,none,.bin .leq (.t 11) (.c (.sc (.int .i64 1)))⟩,⟨some 13,none,.mv (.t 12)⟩,⟨(some 14),(some (13,false)),(.mv (.t 0))⟩,⟨(some 15),(some (13,false)),(.bin .eql (.t 14) (.c (.sc (.int .i64 18))))⟩,⟨some 16,none,.pick (.t 13) (.c (.sc (.bool true))) (.t 15)⟩,⟨some 10,none,.mv (.t 16)⟩]) (.cond (.t 10) (.seq (.reg [ ⟨some 2,none,.mv (.c (.sc (.int .i64 0)))⟩]) .ret) (.seq (.reg [ ⟨some 18,none,.mv (.t 0)⟩,⟨some 19,none,.bin .leq (.t 18) (.c (.sc (.int .i64 3)))⟩,⟨some 20,none,.mv (.t 19)⟩,⟨(some 21),(some (20,false)),(.mv (.t 0))⟩,⟨(some 22),(some (20,false)),(.bin .geq (.t 21) (.c (.sc (.int .i64 16))))⟩,⟨some 23,none,.pick (.t 20) (.c (.sc (.bool true))) (.t 22)⟩,⟨some 17,none,.mv (.t 23)⟩]) (.cond (.t 17) (.seq (.reg [ ⟨some 2,none,.mv (.c (.sc (.int .i64 1)))⟩]) .ret) .skip))))))) (.seq (.reg [ ⟨some 2,none,.mv (.c (.sc (.int .i64 2)))⟩]) .ret)))
def sh_ref04_args (a0 : AV) (σ : Hp) (n : Nat) (R : AEnd → Hp → Nat → Prop) : Prop :=
 bindP (semBin .lss a0 (.sc (.int .i64 0))) fun v1 =>
 guardP v1 false (some a0) fun v2 =>
 guardP v1 false (semBin .gtr v2 (.sc (.int .i64 22))) fun v3 =>
 bindP (aPick v1 (.sc (.bool true)) v3) fun v4 =>
 COND v4 (
 R (.ret (.sc (.int .i64 (-1)))) σ n) (
 bindP (semBin .leq a0 (.sc (.int .i64 1))) fun v5 =>
 guardP v5 false (some a0) fun v6 =>
 guardP v5 false (semBin .eql v6 (.sc (.int .i64 18))) fun v7 =>
 bindP (aPick v5 (.sc (.bool true)) v7) fun v8 =>
 COND v8 (
 R (.ret (.sc (.int .i64 0))) σ n) (
 bindP (semBin .leq a0 (.sc (.int .i64 3))) fun v9 =>
 guardP v9 false (some a0) fun v10 =>
 guardP v9 false (semBin .geq v10 (.sc (.int .i64 16))) fun v11 =>
 bindP (aPick v9 (.sc (.bool true)) v11) fun v12 =>
 COND v12 (
 R (.ret (.sc (.int .i64 1))) σ n) (
 R (.ret (.sc (.int .i64 2))) σ n)))
theorem se_ref04_args (a0 : AV) (σ : Hp) (n : Nat) (R : AEnd → Hp → Nat → Prop) : sh_ref04_args a0 σ n R = swp Tryd.prog sc_ref04_args (retQ [(.t 2)] R) (entry [a0]) σ n := by kernel_rfl
theorem by_ref04_args {a0 : AV} {σ : Hp} {n : Nat} {R : AEnd → Hp → Nat → Prop} (h : sh_ref04_args a0 σ n R) : ConH Tryd.prog 106 [a0] σ n R := by
  rw [se_ref04_args] at h
  exact conH_of [(.t 2)] (fn := Tryd.f106) rfl [3, 10, 0, 17, 2] (by kernel_rfl) (by kernel_rfl) (by kernel_rfl) (by kernel_rfl) h
def jk_ref01_Check1 (R : AEnd → Hp → Nat → Prop) (s2 : List AV) (σ : Hp) (n : Nat) : Prop :=
 R (.ret (.sc (.int .i64 9))) σ n
attribute [go_sem] jk_ref01_Check1
def sc_ref01_Check : SCode := (.seq (.reg [ ⟨some 1,none,.box (.t 0)⟩,⟨some 2,none,.mv (.c (.sc (.int .i64 0)))⟩]) (.seqJ [4,5,14,15,19,20,34,35,45,2] [3,4,6,5,7,8,9,10,11,12,13,14,2,16,15,17,18,19,2,21,20,22,23,24,25,26,27,28,29,30,31,32,33,34,2,36,35,37,38,39,40,41,42,43,44,45,2] (.seq (.reg [ ⟨some 3,none,.fad 0 (.t 1)⟩,⟨some 4,none,.ld none (.t 3)⟩]) (.block 0 (.seq (.reg [ ⟨some 6,none,.bin .eql (.t 4) (.c (.sc (.int .i64 0)))⟩,⟨some 5,none,.mv (.t 6)⟩]) (.cond (.t 5) (.seq (.reg [ ⟨some 7,none,.fad 1 (.t 1)⟩,⟨some 8,none,.ld none (.t 7)⟩,⟨some 9,none,.bin .eql (.t 8) (.c (.sc (.int .i64 0)))⟩,⟨some 10,none,.mv (.t 9)⟩,⟨(some 11),(some (10,true)),(.fad 2 (.t 1))⟩,⟨(some 12),(some (10,true)),(.ld none (.t 11))⟩,⟨(some 13),(some (10,true)),(.bin .eql (.t 12) (.c (.s [])))⟩,⟨some 14,none,.pick (.t 10) (.t 13) (.c (.sc (.bool false)))⟩]) (.cond (.t 14) (.seq (.reg [ ⟨some 2,none,.mv (.c (.sc (.int .i64 0)))⟩]) .ret) .skip)) (.seq (.reg [ ⟨some 16,none,.bin .eql (.t 4) (.c (.sc (.int .i64 1)))⟩,⟨some 15,none,.mv (.t 16)⟩]) (.cond (.t 15) (.seq (.reg [ ⟨some 17,none,.fad 2 (.t 1)⟩,⟨some 18,none,.ld none (.t 17)⟩,⟨some 19,none,.bin .eql (.t 18) (.c (.s []))⟩]) (.cond (.t 19) (.seq (.reg [ ⟨some 2,none,.mv (.c (.sc (.int .i64 0)))⟩]) .ret) .skip)) (.seq (.reg [ ⟨some 21,none,.bin .eql (.t 4) (.c (.sc (.int .i64 2)))⟩,⟨some 20,none,.mv (.t 21)⟩]) (.cond (.t 20) (.seq (.reg [ ⟨some 22,none,.fad 2 (.t 1)⟩,⟨some 23,none,.ld none (.t 22)⟩,⟨some 24,none,.bin .eql (.t 23) (.c (.s []))⟩,⟨some 25,none,.mv (.t 24)⟩,⟨(some 26),(some (25,true)),(.fad 1 (.t 1))⟩,⟨(some 27),(some (25,true)),(.ld none (.t 26))⟩,⟨(some 28),(some (25,true)),(.bin .eql (.t 27) (.c (.sc (.int .i64 0))))⟩,⟨(some 29),(some (25,true)),(.mv (.t 28))⟩,⟨(some 30),(some (29,false)),(.fad 1 (.t 1))⟩,⟨(some 31),(some (29,false)),(.ld none (.t 30))⟩,⟨(some 32),(some (29,false)),(.bin .eql (.t 31) (.c (.sc (.int .i64 1))))⟩,⟨(some 33),(some (25,true)),(.pick (.t 29) (.c (.sc (.bool true))) (.t 32))⟩,⟨some 34,none,.pick (.t 25) (.t 33) (.c (.sc (.bool false)))⟩]) (.cond (.t 34) (.seq (.reg [ ⟨some 2,none,.mv (.c (.sc (.int .i64 0)))⟩]) .ret) .skip)) (.seq (.reg [ ⟨some 36,none,.bin .eql (.t 4) (.c (.sc (.int .i64 3)))⟩,⟨some 35,none,.mv (.t 36)⟩]) (.cond (.t 35) (.seq (.reg [ ⟨some 37,none,.fad 1 (.t 1)⟩,⟨some 38,none,.ld none (.t 37)⟩,⟨some 39,none,.bin .eql (.t 38) (.c (.sc (.int .i64 0)))⟩,⟨some 40,none,.mv (.t 39)⟩,⟨(some 41),(some (40,true)),(.fad 2 (.t 1))⟩,⟨(some 42),(some (40,true)),(.ld none (.t 41))⟩,⟨(some 43),(some (40,true)),(.len true (.t 42))⟩,⟨(some 44),(some (40,true)),(.bin .leq (.t 43) (.c (.sc (.int .i64 64))))⟩,⟨some 45,none,.pick (.t 40) (.t 44) (.c (.sc (.bool false)))⟩]) (.cond (.t 45) (.seq (.reg [ ⟨some 2,none,.mv (.c (.sc (.int .i64 0)))⟩]) .ret) .skip)) .skip)))))))))) (.seq (.reg [ ⟨some 2,none,.mv (.c (.sc (.int .i64 9)))⟩]) .ret)))
def sh_ref01_Check (a0 : AV) (σ : Hp) (n : Nat) (R : AEnd → Hp → Nat → Prop) : Prop :=
 bindS (hBox n a0) σ n fun v1 σ n =>
 JOIN (jk_ref01_Check1 R) fun K2 =>
 bindP (aFad 0 v1) fun v3 =>
 bindP (aLd σ none v3) fun v4 =>
 bindP (semBin .eql v4 (.sc (.int .i64 0))) fun v5 =>
 COND v5 (
 bindP (aFad 1 v1) fun v6 =>
 bindP (aLd σ none v6) fun v7 =>
 bindP (semBin .eql v7 (.sc (.int .i64 0))) fun v8 =>
 guardP v8 true (aFad 2 v1) fun v9 =>
 guardP v8 true (aLd σ none v9) fun v10 =>
 guardP v8 true (semBin .eql v10 (.s [])) fun v11 =>
 bindP (aPick v8 v11 (.sc (.bool false))) fun v12 =>
 COND v12 (
 R (.ret (.sc (.int .i64 0))) σ n) (
 K2 [v4, v5, v12, (.tp []), (.tp []), (.tp []), (.tp []), (.tp []), (.tp []), (.sc (.int .i64 0))] σ n)) (
 bindP (semBin .eql v4 (.sc (.int .i64 1))) fun v13 =>
 COND v13 (
 bindP (aFad 2 v1) fun v14 =>
 bindP (aLd σ none v14) fun v15 =>
 bindP (semBin .eql v15 (.s [])) fun v16 =>
 COND v16 (
 R (.ret (.sc (.int .i64 0))) σ n) (
 K2 [v4, v5, (.tp []), v13, v16, (.tp []), (.tp []), (.tp []), (.tp []), (.sc (.int .i64 0))] σ n)) (
 bindP (semBin .eql v4 (.sc (.int .i64 2))) fun v17 =>
 COND v17 (
 bindP (aFad 2 v1) fun v18 =>
 bindP (aLd σ none v18) fun v19 =>
 bindP (semBin .eql v19 (.s [])) fun v20 =>
 guardP v20 true (aFad 1 v1) fun v21 =>
 guardP v20 true (aLd σ none v21) fun v22 =>
 guardP v20 true (semBin .eql v22 (.sc (.int .i64 0))) fun v23 =>
 guardP v20 true (some v23) fun v24 =>
 guardP v24 false (aFad 1 v1) fun v25 =>
 guardP v24 false (aLd σ none v25) fun v26 =>
 guardP v24 false (semBin .eql v26 (.sc (.int .i64 1))) fun v27 =>
 guardP v20 true (aPick v24 (.sc (.bool true)) v27) fun v28 =>
 bindP (aPick v20 v28 (.sc (.bool false))) fun v29 =>
 COND v29 (
 R (.ret (.sc (.int .i64 0))) σ n) (
 K2 [v4, v5, (.tp []), v13, (.tp []), v17, v29, (.tp []), (.tp []), (.sc (.int .i64 0))] σ n)) (
 bindP (semBin .eql v4 (.sc (.int .i64 3))) fun v30 =>
 COND v30 (
 bindP (aFad 1 v1) fun v31 =>
 bindP (aLd σ none v31) fun v32 =>
 bindP (semBin .eql v32 (.sc (.int .i64 0))) fun v33 =>
 guardP v33 true (aFad 2 v1) fun v34 =>
 guardP v33 true (aLd σ none v34) fun v35 =>
 guardP v33 true (aLen true v35) fun v36 =>
 guardP v33 true (semBin .leq v36 (.sc (.int .i64 64))) fun v37 =>
 bindP (aPick v33 v37 (.sc (.bool false))) fun v38 =>
 COND v38 (
 R (.ret (.sc (.int .i64 0))) σ n) (
 K2 [v4, v5, (.tp []), v13, (.tp []), v17, (.tp []), v30, v38, (.sc (.int .i64 0))] σ n)) (
 K2 [v4, v5, (.tp []), v13, (.tp []), v17, (.tp []), v30, (.tp []), (.sc (.int .i64 0))] σ n))))
theorem se_ref01_Check (a0 : AV) (σ : Hp) (n : Nat) (R : AEnd → Hp → Nat → Prop) : sh_ref01_Check a0 σ n R = swp Tryd.prog sc_ref01_Check (retQ [(.t 2)] R) (entry [a0]) σ n := by kernel_rfl
theorem by_ref01_Check {a0 : AV} {σ : Hp} {n : Nat} {R : AEnd → Hp → Nat → Prop} (h : sh_ref01_Check a0 σ n R) : ConH Tryd.prog 107 [a0] σ n R := by
  rw [se_ref01_Check] at h
  exact conH_of [(.t 2)] (fn := Tryd.f107) rfl [0, 5, 14, 15, 19, 20, 34, 4, 35, 1, 45, 2] (by kernel_rfl) (by kernel_rfl) (by kernel_rfl) (by kernel_rfl) h
def jk_ref03_Keyword1 (R : AEnd → Hp → Nat → Prop) (s3 : List AV) (σ : Hp) (n : Nat) : Prop :=
 COND (s3.getD 0 .any) (
 R (.ret (.sc (.bool true))) σ n) (
 R (.ret (.sc (.bool false))) σ n)
def kc_ref03_Keyword2 (R : AEnd → Hp → Nat → Prop) (r : AEnd) (σ : Hp) (n : Nat) : Prop :=
 onEnd r (fun v1 =>
 JOIN (jk_ref03_Keyword1 R) fun K3 =>
 bindP (semBin .eql v1 (.s [99, 114, 101, 97, 116, 101])) fun v4 =>
 COND v4 (
 K3 [v4] σ n) (
 bindP (semBin .eql v1 (.s [116, 97, 98, 108, 101])) fun v5 =>
 COND v5 (
 K3 [v5] σ n) (
 bindP (semBin .eql v1 (.s [105, 110, 100, 101, 120])) fun v6 =>
 COND v6 (
 K3 [v6] σ n) (
 bindP (semBin .eql v1 (.s [111, 110])) fun v7 =>
 COND v7 (
 K3 [v7] σ n) (
 bindP (semBin .eql v1 (.s [100, 114, 111, 112])) fun v8 =>
 COND v8 (
 K3 [v8] σ n) (
 bindP (semBin .eql v1 (.s [105, 110, 115, 101, 114, 116])) fun v9 =>
 COND v9 (
 K3 [v9] σ n) (
 bindP (semBin .eql v1 (.s [105, 110, 116, 111])) fun v10 =>
 COND v10 (
 K3 [v10] σ n) (
 bindP (semBin .eql v1 (.s [118, 97, 108, 117, 101, 115])) fun v11 =>
 COND v11 (
 K3 [v11] σ n) (
 bindP (semBin .eql v1 (.s [117, 112, 100, 97, 116, 101])) fun v12 =>
 COND v12 (
 K3 [v12] σ n) (
 bindP (semBin .eql v1 (.s [115, 101, 116])) fun v13 =>
 COND v13 (
 K3 [v13] σ n) (
 bindP (semBin .eql v1 (.s [100, 101, 108, 101, 116, 101])) fun v14 =>
 COND v14 (
 K3 [v14] σ n) (
 bindP (semBin .eql v1 (.s [102, 114, 111, 109])) fun v15 =>
 COND v15 (
 K3 [v15] σ n) (
 bindP (semBin .eql v1 (.s [119, 104, 101, 114, 101])) fun v16 =>
 COND v16 (
 K3 [v16] σ n) (
 bindP (semBin .eql v1 (.s [115, 101, 108, 101, 99, 116])) fun v17 =>
 COND v17 (
 K3 [v17] σ n) (
 bindP (semBin .eql v1 (.s [106, 111, 105, 110])) fun v18 =>
 COND v18 (
 K3 [v18] σ n) (
 bindP (semBin .eql v1 (.s [103, 114, 111, 117, 112])) fun v19 =>
 COND v19 (
 K3 [v19] σ n) (
 bindP (semBin .eql v1 (.s [98, 121])) fun v20 =>
 COND v20 (
 K3 [v20] σ n) (
 bindP (semBin .eql v1 (.s [111, 114, 100, 101, 114])) fun v21 =>
 COND v21 (
 K3 [v21] σ n) (
 bindP (semBin .eql v1 (.s [100, 101, 115, 99])) fun v22 =>
 COND v22 (
 K3 [v22] σ n) (
 bindP (semBin .eql v1 (.s [108, 105, 109, 105, 116])) fun v23 =>
 COND v23 (
 K3 [v23] σ n) (
 bindP (semBin .eql v1 (.s [98, 101, 103, 105, 110])) fun v24 =>
 COND v24 (
 K3 [v24] σ n) (
 bindP (semBin .eql v1 (.s [99, 111, 109, 109, 105, 116])) fun v25 =>
 COND v25 (
 K3 [v25] σ n) (
 bindP (semBin .eql v1 (.s [114, 111, 108, 108, 98, 97, 99, 107])) fun v26 =>
 COND v26 (
 K3 [v26] σ n) (
 bindP (semBin .eql v1 (.s [112, 114, 105, 109, 97, 114, 121])) fun v27 =>
 COND v27 (
 K3 [v27] σ n) (
 bindP (semBin .eql v1 (.s [107, 101, 121])) fun v28 =>
 COND v28 (
 K3 [v28] σ n) (
 bindP (semBin .eql v1 (.s [110, 111, 116])) fun v29 =>
 COND v29 (
 K3 [v29] σ n) (
 bindP (semBin .eql v1 (.s [110, 117, 108, 108])) fun v30 =>
 COND v30 (
 K3 [v30] σ n) (
 bindP (semBin .eql v1 (.s [105, 115])) fun v31 =>
 COND v31 (
 K3 [v31] σ n) (
 bindP (semBin .eql v1 (.s [97, 110, 100])) fun v32 =>
 COND v32 (
 K3 [v32] σ n) (
 bindP (semBin .eql v1 (.s [111, 114])) fun v33 =>
 COND v33 (
 K3 [v33] σ n) (
 bindP (semBin .eql v1 (.s [116, 114, 117, 101])) fun v34 =>
 COND v34 (
 K3 [v34] σ n) (
 bindP (semBin .eql v1 (.s [102, 97, 108, 115, 101])) fun v35 =>
 COND v35 (
 K3 [v35] σ n) (
 bindP (semBin .eql v1 (.s [105, 110, 116])) fun v36 =>
 COND v36 (
 K3 [v36] σ n) (
 bindP (semBin .eql v1 (.s [98, 111, 111, 108])) fun v37 =>
 COND v37 (
 K3 [v37] σ n) (
 bindP (semBin .eql v1 (.s [116, 101, 120, 116])) fun v38 =>
 COND v38 (
 K3 [v38] σ n) (
 bindP (semBin .eql v1 (.s [99, 111, 117, 110, 116])) fun v39 =>
 COND v39 (
 K3 [v39] σ n) (
 bindP (semBin .eql v1 (.s [115, 117, 109])) fun v40 =>
 COND v40 (
 K3 [v40] σ n) (
 bindP (semBin .eql v1 (.s [109, 105, 110])) fun v41 =>
 COND v41 (
 K3 [v41] σ n) (
 bindP (semBin .eql v1 (.s [109, 97, 120])) fun v42 =>
 K3 [v42] σ n))))))))))))))))))))))))))))))))))))))) (fun v2 => R (.pan v2) σ n)
attribute [go_sem] jk_ref03_Keyword1 kc_ref03_Keyword2
def sc_ref03_Keyword : SCode := (.seq (.reg [ ⟨some 2,none,.mv (.c (.sc (.bool false)))⟩]) (.seq (.seq (.reg [ ⟨some 3,none,.mv (.t 0)⟩,⟨some 4,none,.call (.c (.fn 125 [])) [(.t 3)]⟩]) (.block 0 (.seqJ [5] [6,5,7,5,8,5,9,5,10,5,11,5,12,5,13,5,14,5,15,5,16,5,17,5,18,5,19,5,20,5,21,5,22,5,23,5,24,5,25,5,26,5,27,5,28,5,29,5,30,5,31,5,32,5,33,5,34,5,35,5,36,5,37,5,38,5,39,5,40,5,41,5,42,5,43,5,44,5] (.seq (.reg [ ⟨some 6,none,.bin .eql (.t 4) (.c (.s [99,114,101,97,116,101]))⟩,⟨some 5,none,.mv (.t 6)⟩]) (.cond (.t 5) .skip (.seq (.reg [ ⟨some 7,none,.bin .eql (.t 4) (.c (.s [116,97,98,108,101]))⟩,⟨some 5,none,.mv (.t 7)⟩]) (.cond (.t 5) .skip (.seq (.reg [ ⟨some 8,none,.bin .eql (.t 4) (.c (.s [105,110,100,101,120]))⟩,⟨some 5,none,.mv (.t 8)⟩]) (.cond (.t 5) .skip (.seq (.reg [ ⟨some 9,none,.bin .eql (.t 4) (.c (.s [111,110]))⟩,⟨some 5,none,.mv (.t 9)⟩]) (.cond (.t 5) .skip (.seq (.reg [ ⟨some 10,none,.bin .eql (.t 4) (.c (.s [100,114,111,112]))⟩,⟨some 5,none,.mv (.t 10)⟩]) (.cond (.t 5) .skip (.seq (.reg [ ⟨some 11,none,.bin .eql (.t 4) (.c (.s [105,110,115,101,114,116]))⟩,⟨some 5,none,.mv (.t 11)⟩]) (.cond (.t 5) .skip (.seq (.reg [ ⟨some 12,none,.bin .eql (.t 4) (.c (.s [105,110,116,111]))⟩,⟨some 5,none,.mv (.t 12)⟩]) (.cond (.t 5) .skip (.seq (.reg [ ⟨some 13,none,.bin .eql (.t 4) (.c (.s [118,97,108,117,101,115]))⟩,⟨some 5,none,.mv (.t 13)⟩]) (.cond (.t 5) .skip (.seq (.reg [ ⟨some 14,none,.bin .eql (.t 4) (.c (.s [117,112,100,97,116,101]))⟩,⟨some 5,none,.mv (.t 14)⟩]) (.cond (.t 5) .skip (.seq (.reg [ ⟨some 15,none,.bin .eql (.t 4) (.c (.s [115,101,116]))⟩,⟨some 5,none,.mv (.t 15)⟩]) (.cond (.t 5) .skip (.seq (.reg [ ⟨some 16,none,.bin .eql (.t 4) (.c (.s [100,101,108,101,116,101]))⟩,⟨some 5,none,.mv (.t 16)⟩]) (.cond (.t 5) .skip (.seq (.reg [ ⟨some 17,none,.bin .eql (.t 4) (.c (.s [102,114,111,109]))⟩,⟨some 5,none,.mv (.t 17)⟩]) (.cond (.t 5) .skip (.seq (.reg [ ⟨some 18,none,.bin .eql (.t 4) (.c (.s [119,104,101,114,101]))⟩,⟨some 5,none,.mv (.t 18)⟩]) (.cond (.t 5) .skip (.seq (.reg [ ⟨some 19,none,.bin .eql (.t 4) (.c (.s [115,101,108,101,99,116]))⟩,⟨some 5,none,.mv (.t 19)⟩]) (.cond (.t 5) .skip (.seq (.reg [ ⟨some 20,none,.bin .eql (.t 4) (.c (.s [106,111,105,110]))⟩,⟨some 5,none,.mv (.t 20)⟩]) (.cond (.t 5) .skip (.seq (.reg [ ⟨some 21,none,.bin .eql (.t 4) (.c (.s [103,114,111,117,112]))⟩,⟨some 5,none,.mv (.t 21)⟩]) (.cond (.t 5) .skip (.seq (.reg [ ⟨some 22,none,.bin .eql (.t 4) (.c (.s [98,121]))⟩,⟨some 5,none,.mv (.t 22)⟩]) (.cond (.t 5) .skip (.seq (.reg [ ⟨some 23,none,.bin .eql (.t 4) (.c (.s [111,114,100,101,114]))⟩,⟨some 5,none,.mv (.t 23)⟩]) (.cond (.t 5) .skip (.seq (.reg [ ⟨some 24,none,.bin .eql (.t 4) (.c (.s [100,101,115,99]))⟩,⟨some 5,none,.mv (.t 24)⟩]) (.cond (.t 5) .skip (.seq (.reg [ ⟨some 25,none,.bin .eql (.t 4) (.c (.s [108,105,109,105,116]))⟩,⟨some 5,none,.mv (.t 25)⟩]) (.cond (.t 5) .skip (.seq (.reg [ ⟨some 26,none,.bin .eql (.t 4) (.c (.s [98,101,103,105,110]))⟩,⟨some 5,none,.mv (.t 26)⟩]) (.cond (.t 5) .skip (.seq (.reg [ ⟨some 27,none,.bin .eql (.t 4) (.c (.s [99,111,109,109,105,116]))⟩,⟨some 5,none,.mv (.t 27)⟩]) (.cond (.t 5) .skip (.seq (.reg [ ⟨some 28,none,.bin .eql (.t 4) (.c (.s [114,111,108,108,98,97,99,107]))⟩,⟨some 5,none,.mv (.t 28)⟩]) (.cond (.t 5) .skip (.seq (.reg [ ⟨some 29,none,.bin .eql (.t 4) (.c (.s [112,114,105,109,97,114,121]))⟩,⟨some 5,none,.mv (.t 29)⟩]) (.cond (.t 5) .skip (.seq (.reg [ ⟨some 30,none,.bin .eql (.t 4) (.c (.s [107,101,121]))⟩,⟨some 5,none,.mv (.t 30)⟩]) (.cond (.t 5) .skip (.seq (.reg [ ⟨some 31,none,.bin .eql (.t 4) (.c (.s [110,111,116]))⟩,⟨some 5,none,.mv (.t 31)⟩]) (.cond (.t 5) .skip (.seq (.reg [ ⟨some 32,none,.bin .eql (.t 4) (.c (.s [110,117,108,108]))⟩,⟨some 5,none,.mv (.t 32)⟩]) (.cond (.t 5) .skip (.seq (.reg [ ⟨some 33,none,.bin .eql (.t 4) (.c (.s [105,115]))⟩,⟨some 5,none,.mv (.t 33)⟩]) (.cond (.t 5) .skip (.seq (.reg [ ⟨some 34,none,.bin .eql (.t 4) (.c (.s [97,110,100]))⟩,⟨some 5,none,.mv (.t 34)⟩]) (.cond (.t 5) .skip (.seq (.reg [ ⟨some 35,none,.bin .eql (.t 4) (.c (.s [111,114]))⟩,⟨some 5,none,.mv (.t 35)⟩]) (.cond (.t 5) .skip (.seq (.reg [ ⟨some 36,none,.bin .eql (.t 4) (.c (.s [116,114,117,101]))⟩,⟨some 5,none,.mv (.t 36)⟩]) (.cond (.t 5) .skip (.seq (.reg [ ⟨some 37,none,.bin .eql (.t 4) (.c (.s [102,97,108,115,101]))⟩,⟨some 5,none,.mv (.t 37)⟩]) (.cond (.t 5) .skip (.seq (.reg [ ⟨some 38,none,.bin .eql (.t 4) (.c (.s [105,110,116]))⟩,⟨some 5,none,.mv (.t 38)⟩]) (.cond (.t 5) .skip (.seq (.reg [ ⟨some 39,none,.bin .eql (.t 4) (.c (.s [98,111,111,108]))⟩,⟨some 5,none,.mv (.t 39)⟩]) (.cond (.t 5) .skip (.seq (.reg [ ⟨some 40,none,.bin .eql (.t 4) (.c (.s [116,101,120,116]))⟩,⟨some 5,none,.mv (.t 40)⟩]) (.cond (.t 5) .skip (.seq (.reg [ ⟨some 41,none,.bin .eql (.t 4) (.c (.s [99,111,117,110,116]))⟩,⟨some 5,none,.mv (.t 41)⟩]) (.cond (.t 5) .skip (.seq (.reg [ ⟨some 42,none,.bin .eql (.t 4) (.c (.s [115,117,109]))⟩,⟨some 5,none,.mv (.t 42)⟩]) (.cond (.t 5) .skip (.seq (.reg [ ⟨some 43,none,.bin .eql (.t 4) (.c (.s [109,105,110]))⟩,⟨some 5,none,.mv (.t 43)⟩]) (.cond (.t 5) .skip (.reg [ ⟨some 44,none,.bin .eql (.t 4) (.c (.s [109,97,120]))⟩,⟨some 5,none,.mv (.t 44)⟩]))))))))))))))))))))))))))))))))))))))))))))))))))))))))))))))))))))))))))))) (.cond (.t 5) (.seq (.reg [ ⟨some 2,none,.mv (.c (.sc (.bool true)))⟩]) .ret) .skip)))) (.seq (.reg [ ⟨some 2,none,.mv (.c (.sc (.bool false)))⟩]) .ret)))
def sh_ref03_Keyword (a0 : AV) (σ : Hp) (n : Nat) (R : AEnd → Hp → Nat → Prop) : Prop :=
 CALL Tryd.prog (.fn 125 []) [a0] σ n (kc_ref03_Keyword2 R)
theorem se_ref03_Keyword (a0 : AV) (σ : Hp) (n : Nat) (R : AEnd → Hp → Nat → Prop) : sh_ref03_Keyword a0 σ n R = swp Tryd.prog sc_ref03_Keyword (retQ [(.t 2)] R) (entry [a0]) σ n := by kernel_rfl
theorem by_ref03_Keyword {a0 : AV} {σ : Hp} {n : Nat} {R : AEnd → Hp → Nat → Prop} (h : sh_ref03_Keyword a0 σ n R) : ConH Tryd.prog 108 [a0] σ n R := by
  rw [se_ref03_Keyword] at h
  exact conH_of [(.t 2)] (fn := Tryd.f108) rfl [0, 4, 5, 2] (by kernel_rfl) (by kernel_rfl) (by kernel_rfl) (by kernel_rfl) h
def dk_syntax_CheckExpr1 (v2 : AV) (R : AEnd → Hp → Nat → Prop) (σ : Hp) (n : Nat) : Prop :=
 bindP (aLd σ none v2) fun v8 =>
 R (.ret v8) σ n
def dk_syntax_CheckExpr2 (v2 : AV) (R : AEnd → Hp → Nat → Prop) (σ : Hp) (n : Nat) : Prop :=
 bindP (aLd σ none v2) fun v9 =>
 R (.ret v9) σ n
def kc_syntax_CheckExpr3 (v2 : AV) (R : AEnd → Hp → Nat → Prop) (r : AEnd) (σ : Hp) (n : Nat) : Prop :=
 onEnd r (fun v5 =>
 bindS (hSt σ 1 v2 (.sc (.int .i64 0))) σ n fun v7 σ n =>
 DEF Tryd.prog (.fn 30 [v2]) none σ n (dk_syntax_CheckExpr1 v2 R)) (fun v6 => DEF Tryd.prog (.fn 30 [v2]) (some v6) σ n (dk_syntax_CheckExpr2 v2 R))
attribute [go_sem] dk_syntax_CheckExpr1 dk_syntax_CheckExpr2 kc_syntax_CheckExpr3
def sa_syntax_CheckExpr : SCode := (.seq (.reg [
   ⟨(some 1), none, (.box (.t 0))⟩,
    ⟨(some 2), none, (.alloc [(.int .i64 0)])⟩]) (.reg [
   ⟨(some 4), none, (.mkf 30 [(.t 2)])⟩]))
def sb_syntax_CheckExpr : SCode := (.seq (.reg [
   ⟨(some 3), none, (.alloc [(.int .i64 0)])⟩]) (.seq (.reg [
   ⟨(some 5), none, (.ld (some 7) (.t 1))⟩,
    ⟨(some 6), none, (.call (.c (.fn 32 [])) [(.t 3), (.t 5), (.c (.sc (.int .i64 1)))])⟩]) (.seq (.reg [
   ⟨none, none, (.st 1 (.t 2) (.c (.sc (.int .i64 0))))⟩]) .ret)))
def sh_syntax_CheckExpr (a0 : AV) (σ : Hp) (n : Nat) (R : AEnd → Hp → Nat → Prop) : Prop :=
 bindS (hBox n a0) σ n fun v1 σ n =>
 bindS (hAlloc n [(.int .i64 0)]) σ n fun v2 σ n =>
 DFN (.fn 30 [v2]) (
 bindS (hAlloc n [(.int .i64 0)]) σ n fun v3 σ n =>
 bindP (aLd σ (some 7) v1) fun v4 =>
 CALL Tryd.prog (.fn 32 []) [v3, v4, (.sc (.int .i64 1))] σ n (kc_syntax_CheckExpr3 v2 R))
theorem se_syntax_CheckExpr (a0 : AV) (σ : Hp) (n : Nat) (R : AEnd → Hp → Nat → Prop) : sh_syntax_CheckExpr a0 σ n R = swpD Tryd.prog sa_syntax_CheckExpr (.t 4) sb_syntax_CheckExpr [(.c 2 none)] R (entry [a0]) σ n := by kernel_rfl
theorem by_syntax_CheckExpr {a0 : AV} {σ : Hp} {n : Nat} {R : AEnd → Hp → Nat → Prop} (h : sh_syntax_CheckExpr a0 σ n R) : ConH Tryd.prog 14 [a0] σ n R := by
  rw [se_syntax_CheckExpr] at h
  exact conH_of_defer [(.c 2 none)] (fn := Tryd.f14) rfl [0, 1, 3, 2] (by kernel_rfl) (by kernel_rfl) (by kernel_rfl) (by kernel_rfl) h
def kc_syntax_CheckExpr_c11 (Rr : Hp → Nat → Prop) (r : AEnd) (σ : Hp) (n : Nat) : Prop :=
 onEnd r (fun v1 =>
 Rr σ n) (fun v2 => False)
attribute [go_sem] kc_syntax_CheckExpr_c11
def sc_syntax_CheckExpr_c1 : SCode := (.reg [ ⟨some 2,none,.call (.c (.fn 31 [])) [(.t 1),(.t 0)]⟩])
def sh_syntax_CheckExpr_c1 (a0 a1 : AV) (σ : Hp) (n : Nat) (Rr : Hp → Nat → Prop) : Prop :=
 CALL Tryd.prog (.fn 31 []) [a1, a0] σ n (kc_syntax_CheckExpr_c11 Rr)
theorem se_syntax_CheckExpr_c1 (a0 a1 : AV) (σ : Hp) (n : Nat) (R : Hp → Nat → Prop) : sh_syntax_CheckExpr_c1 a0 a1 σ n R = swp Tryd.prog sc_syntax_CheckExpr_c1 (recQ R) (put (entry [a0]) (some 1) a1) σ n := by kernel_rfl
theorem by_syntax_CheckExpr_c1 {a0 : AV} {pv : Option Value} {σ : Hp} {n : Nat} {R : Hp → Nat → Prop} (h : sh_syntax_CheckExpr_c1 a0 (recV pv) σ n R) : ConR Tryd.prog 30 [a0] σ n pv R := by
  rw [se_syntax_CheckExpr_c1] at h
  exact conR_of (fn := Tryd.f30) rfl [1, 0] (by kernel_rfl) (by kernel_rfl) (by kernel_rfl) rfl h
def jk_ref03_Lower1 (s1 : List AV) (K1 : List AV → Hp → Nat → Prop) (v3 : AV) (s5 : List AV) (σ : Hp) (n : Nat) : Prop :=
 bindS (hBsl σ n 1 [(.int .u8 0)] 1 [(0, (s5.getD 1 .any))]) σ n fun v6 σ n =>
 bindS (hApp σ n 1 1 (s1.getD 3 .any) v6) σ n fun v7 σ n =>
 bindP (semBin .add (s1.getD 4 .any) (.sc (.int .i64 1))) fun v8 =>
 K1 [v3, (s5.getD 0 .any), (s5.getD 1 .any), v7, v8] σ n
def lb_ref03_Lower2 (a0 : AV) (R : AEnd → Hp → Nat → Prop) (K1 : List AV → Hp → Nat → Prop) (s1 : List AV) (σ : Hp) (n : Nat) : Prop :=
 bindP (aLen true a0) fun v2 => bnd σ a0 →
 bindP (semBin .lss (s1.getD 4 .any) v2) fun v3 =>
 COND v3 (
 bindP (aIstr a0 (s1.getD 4 .any)) fun v4 =>
 JOIN (jk_ref03_Lower1 s1 K1 v3) fun K5 =>
 bindP (semBin .geq v4 (.sc (.int .u8 65))) fun v9 =>
 guardP v9 true (some v4) fun v10 =>
 guardP v9 true (semBin .leq v10 (.sc (.int .u8 90))) fun v11 =>
 bindP (aPick v9 v11 (.sc (.bool false))) fun v12 =>
 COND v12 (
 bindP (semBin .add v4 (.sc (.int .u8 32))) fun v13 =>
 K5 [v12, v13] σ n) (
 K5 [v12, v4] σ n)) (
 bindP (aCvb σ (s1.getD 3 .any)) fun v14 =>
 R (.ret v14) σ n)
attribute [go_sem] jk_ref03_Lower1 lb_ref03_Lower2
def sc_ref03_Lower : SCode := (.seq (.reg [ ⟨some 2,none,.mv (.c (.s []))⟩]) (.seq (.reg [ ⟨some 3,none,.mv (.c .em)⟩]) (.seq (.seq (.reg [ ⟨some 4,none,.mv (.c (.sc (.int .i64 0)))⟩]) (.block 0 (.loop [9,20,5,3,4] [6,7,8,9,12,13,14,5,15,16,17,18,19,20,21,22,5,23,24,25,26,3,10,11,4] (.seq (.seq (.reg [ ⟨some 6,none,.mv (.t 4)⟩,⟨some 7,none,.mv (.t 0)⟩,⟨some 8,none,.len true (.t 7)⟩,⟨some 9,none,.bin .lss (.t 6) (.t 8)⟩]) (.cond (.t 9) .skip (.exit 0))) (.seq (.block 1 (.seq (.reg [ ⟨some 12,none,.mv (.t 0)⟩,⟨some 13,none,.mv (.t 4)⟩,⟨some 14,none,.istr (.t 12) (.t 13)⟩,⟨some 5,none,.mv (.t 14)⟩]) (.seqJ [20,5] [15,16,17,18,19,20,21,22,5] (.seq (.reg [ ⟨some 15,none,.mv (.t 5)⟩,⟨some 16,none,.bin .geq (.t 15) (.c (.sc (.int .u8 65)))⟩,⟨some 17,none,.mv (.t 16)⟩,⟨(some 18),(some (17,true)),(.mv (.t 5))⟩,⟨(some 19),(some (17,true)),(.bin .leq (.t 18) (.c (.sc (.int .u8 90))))⟩,⟨some 20,none,.pick (.t 17) (.t 19) (.c (.sc (.bool false)))⟩]) (.cond (.t 20) (.reg [ ⟨some 21,none,.mv (.t 5)⟩,⟨some 22,none,.bin .add (.t 21) (.c (.sc (.int .u8 32)))⟩,⟨some 5,none,.mv (.t 22)⟩]) .skip)) (.reg [ ⟨some 23,none,.mv (.t 3)⟩,⟨some 24,none,.mv (.t 5)⟩,⟨some 25,none,.bsl 1 [(.int .u8 0)] 1 [(0,(.t 24))]⟩,⟨some 26,none,.app 1 1 (.t 23) (.t 25)⟩,⟨some 3,none,.mv (.t 26)⟩])))) (.reg [ ⟨some 10,none,.mv (.t 4)⟩,⟨some 11,none,.bin .add (.t 10) (.c (.sc (.int .i64 1)))⟩,⟨some 4,none,.mv (.t 11)⟩])))))) (.seq (.reg [ ⟨some 27,none,.mv (.t 3)⟩,⟨some 28,none,.cvb (.t 27)⟩,⟨some 2,none,.mv (.t 28)⟩]) .ret))))
def sh_ref03_Lower (a0 : AV) (σ : Hp) (n : Nat) (R : AEnd → Hp → Nat → Prop) : Prop :=
 LOOP (lb_ref03_Lower2 a0 R) [(.tp []), (.tp []), (.tp []), .em, (.sc (.int .i64 0))] σ n
theorem se_ref03_Lower (a0 : AV) (σ : Hp) (n : Nat) (R : AEnd → Hp → Nat → Prop) : sh_ref03_Lower a0 σ n R = swp Tryd.prog sc_ref03_Lower (retQ [(.t 2)] R) (entry [a0]) σ n := by kernel_rfl
theorem by_ref03_Lower {a0 : AV} {σ : Hp} {n : Nat} {R : AEnd → Hp → Nat → Prop} (h : sh_ref03_Lower a0 σ n R) : ConH Tryd.prog 125 [a0] σ n R := by
  rw [se_ref03_Lower] at h
  exact conH_of [(.t 2)] (fn := Tryd.f125) rfl [9, 0, 20, 5, 4, 3, 2] (by kernel_rfl) (by kernel_rfl) (by kernel_rfl) (by kernel_rfl) h
end Go.Proofs.YtodoejfkjimeaaaDoor
