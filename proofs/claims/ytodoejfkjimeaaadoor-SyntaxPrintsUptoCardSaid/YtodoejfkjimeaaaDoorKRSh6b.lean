/- Packed by a program of this repo: Sh6b. -/
import Derived.Test.YtodoejfkjimeaaaDoorKRMs
import Derived.Test.YtodoejfkjimeaaaDoorProg
set_option linter.unusedVariables false
set_option maxRecDepth 8000
namespace Go.Proofs.YtodoejfkjimeaaaDoor
open Go Am
def kc_syntax_Check_c11 (R : AEnd → Hp → Nat → Prop) (r : AEnd) (σ : Hp) (n : Nat) : Prop :=
 onEnd r (fun v2 =>
 R (.ret (.tp [])) σ n) (fun v3 => R (.pan v3) σ n)
attribute [go_sem] kc_syntax_Check_c11
def sc_syntax_Check_c1 : SCode := (.reg [ ⟨some 3,none,.ld (some 14) (.t 1)⟩,⟨some 4,none,.mv (.t 0)⟩,⟨some 5,none,.call (.c (.fn 58 [])) [(.t 3),(.t 4)]⟩])
def sh_syntax_Check_c1 (a0 a1 : AV) (σ : Hp) (n : Nat) (R : AEnd → Hp → Nat → Prop) : Prop :=
 bindP (aLd σ (some 14) a1) fun v1 =>
 CALL Tryd.prog (.fn 58 []) [v1, a0] σ n (kc_syntax_Check_c11 R)
theorem se_syntax_Check_c1 (a0 a1 : AV) (σ : Hp) (n : Nat) (R : AEnd → Hp → Nat → Prop) : sh_syntax_Check_c1 a0 a1 σ n R = swp Tryd.prog sc_syntax_Check_c1 (retQ [] R) (entry [a0, a1]) σ n := by kernel_rfl
theorem by_syntax_Check_c1 {a0 a1 : AV} {σ : Hp} {n : Nat} {R : AEnd → Hp → Nat → Prop} (h : sh_syntax_Check_c1 a0 a1 σ n R) : ConH Tryd.prog 57 [a0, a1] σ n R := by
  rw [se_syntax_Check_c1] at h
  exact conH_of [] (fn := Tryd.f57) rfl [1, 0] (by kernel_rfl) (by kernel_rfl) (by kernel_rfl) (by kernel_rfl) h
def kc_syntax_exprs1 (R : AEnd → Hp → Nat → Prop) (s37 : List AV) (K37 : List AV → Hp → Nat → Prop) (v38 : AV) (v41 : AV) (r : AEnd) (σ : Hp) (n : Nat) : Prop :=
 onEnd r (fun v44 =>
 bindP (aUn .not v44) fun v46 =>
 COND v46 (
 R (.ret (.tp [])) σ n) (
 bindP (semBin .add (s37.getD 3 .any) (.sc (.int .i64 1))) fun v47 =>
 K37 [v38, v41, v46, v47] σ n)) (fun v45 => R (.pan v45) σ n)
def lb_syntax_exprs2 (v36 : AV) (v35 : AV) (a1 : AV) (R : AEnd → Hp → Nat → Prop) (s32 : List AV) (K32 : List AV → Hp → Nat → Prop) (v33 : AV) (K37 : List AV → Hp → Nat → Prop) (s37 : List AV) (σ : Hp) (n : Nat) : Prop :=
 bindP (semBin .lss (s37.getD 3 .any) v36) fun v38 =>
 COND v38 (
 bindP (aIad 7 v35 (s37.getD 3 .any)) fun v39 =>
 bindP (aLd σ (some 7) v39) fun v40 =>
 bindS (hAlloc n [(.int .i64 0), (.int .i64 0), (.int .i64 0), (.string ⟨#[]⟩), (.string ⟨#[]⟩), (.string ⟨#[]⟩), (.slice none 0 0)]) σ n fun v41 σ n =>
 bindS (hSt σ 7 v41 v40) σ n fun v42 σ n =>
 bindP (aLd σ (some 7) v41) fun v43 =>
 CALL Tryd.prog a1 [v43] σ n (kc_syntax_exprs1 R s37 K37 v38 v41)) (
 bindP (semBin .add (s32.getD 8 .any) (.sc (.int .i64 1))) fun v48 =>
 K32 [v33, v35, v35, v36, v38, (s37.getD 1 .any), (s37.getD 2 .any), (s37.getD 3 .any), v48] σ n)
def lb_syntax_exprs3 (v31 : AV) (v30 : AV) (a1 : AV) (R : AEnd → Hp → Nat → Prop) (K32 : List AV → Hp → Nat → Prop) (s32 : List AV) (σ : Hp) (n : Nat) : Prop :=
 bindP (semBin .lss (s32.getD 8 .any) v31) fun v33 =>
 COND v33 (
 bindP (aIad 1 v30 (s32.getD 8 .any)) fun v34 =>
 bindP (aLd σ none v34) fun v35 =>
 bindP (aLen false v35) fun v36 => bnd σ v35 →
 LOOP (lb_syntax_exprs2 v36 v35 a1 R s32 K32 v33) [(s32.getD 4 .any), (s32.getD 5 .any), (s32.getD 6 .any), (.sc (.int .i64 0))] σ n) (
 R (.ret (.tp [])) σ n)
def lb_syntax_exprs4 (v8 : AV) (v7 : AV) (v1 : AV) (a1 : AV) (R : AEnd → Hp → Nat → Prop) (K9 : List AV → Hp → Nat → Prop) (s9 : List AV) (σ : Hp) (n : Nat) : Prop :=
 bindP (semBin .lss (s9.getD 3 .any) v8) fun v10 =>
 COND v10 (
 bindP (aIad 8 v7 (s9.getD 3 .any)) fun v11 =>
 bindP (aLd σ (some 8) v11) fun v12 =>
 bindS (hAlloc n [(.string ⟨#[]⟩), (.int .i64 0), (.int .i64 0), (.int .i64 0), (.string ⟨#[]⟩), (.string ⟨#[]⟩), (.string ⟨#[]⟩), (.slice none 0 0)]) σ n fun v13 σ n =>
 bindS (hSt σ 8 v13 v12) σ n fun v14 σ n =>
 bindP (aFad 1 v13) fun v15 =>
 bindP (aLd σ (some 7) v15) fun v16 =>
 bindS (hBsl σ n 7 [(.int .i64 0), (.int .i64 0), (.int .i64 0), (.string ⟨#[]⟩), (.string ⟨#[]⟩), (.string ⟨#[]⟩), (.slice none 0 0)] 1 [(0, v16)]) σ n fun v17 σ n =>
 bindS (hBsl σ n 1 [(.slice none 0 0)] 1 [(0, v17)]) σ n fun v18 σ n =>
 bindS (hApp σ n 1 24 (s9.getD 2 .any) v18) σ n fun v19 σ n =>
 bindP (semBin .add (s9.getD 3 .any) (.sc (.int .i64 1))) fun v20 =>
 K9 [v10, v13, v19, v20] σ n) (
 bindP (aFad 7 v1) fun v21 =>
 bindP (aLd σ none v21) fun v22 =>
 bindP (aFad 9 v1) fun v23 =>
 bindP (aLd σ none v23) fun v24 =>
 bindP (aFad 10 v1) fun v25 =>
 bindP (aLd σ none v25) fun v26 =>
 bindP (aFad 11 v1) fun v27 =>
 bindP (aLd σ none v27) fun v28 =>
 bindS (hBsl σ n 1 [(.slice none 0 0)] 4 [(0, v22), (1, v24), (2, v26), (3, v28)]) σ n fun v29 σ n =>
 bindS (hApp σ n 1 24 (s9.getD 2 .any) v29) σ n fun v30 σ n =>
 bindP (aLen false v30) fun v31 => bnd σ v30 →
 LOOP (lb_syntax_exprs3 v31 v30 a1 R) [(.tp []), (.tp []), (.tp []), (.tp []), (.tp []), (.tp []), (.tp []), (.tp []), (.sc (.int .i64 0))] σ n)
def kc_syntax_exprs5 (v1 : AV) (a1 : AV) (R : AEnd → Hp → Nat → Prop) (r : AEnd) (σ : Hp) (n : Nat) : Prop :=
 onEnd r (fun v4 =>
 bindP (aFad 6 v1) fun v6 =>
 bindP (aLd σ none v6) fun v7 =>
 bindP (aLen false v7) fun v8 => bnd σ v7 →
 LOOP (lb_syntax_exprs4 v8 v7 v1 a1 R) [(.tp []), (.tp []), v4, (.sc (.int .i64 0))] σ n) (fun v5 => R (.pan v5) σ n)
attribute [go_sem] kc_syntax_exprs1 lb_syntax_exprs2 lb_syntax_exprs3 lb_syntax_exprs4 kc_syntax_exprs5
def sc_syntax_exprs : SCode := (.seq (.reg [ ⟨some 2,none,.box (.t 0)⟩]) (.seq (.reg [ ⟨some 11,none,.fad 5 (.t 2)⟩,⟨some 12,none,.ld none (.t 11)⟩,⟨some 13,none,.call (.c (.fn 99 [])) [(.t 12)]⟩,⟨some 4,none,.mv (.t 13)⟩]) (.seq (.seq (.reg [ ⟨some 14,none,.fad 6 (.t 2)⟩,⟨some 15,none,.ld none (.t 14)⟩,⟨some 16,none,.len false (.t 15)⟩,⟨some 17,none,.mv (.c (.sc (.int .i64 0)))⟩]) (.block 0 (.loop [18,6,4,17] [18,19,20,6,21,22,23,24,25,26,4,27,17] (.seq (.reg [ ⟨some 18,none,.bin .lss (.t 17) (.t 16)⟩]) (.seq (.cond (.t 18) .skip (.exit 0)) (.seq (.block 1 (.seq (.reg [ ⟨some 19,none,.iad 8 (.t 15) (.t 17)⟩,⟨some 20,none,.ld (some 8) (.t 19)⟩,⟨some 6,none,.alloc [(.string ⟨#[]⟩),(.int .i64 0),(.int .i64 0),(.int .i64 0),(.string ⟨#[]⟩),(.string ⟨#[]⟩),(.string ⟨#[]⟩),(.slice none 0 0)]⟩,⟨none,none,(.st 8 (.t 6) (.t 20))⟩]) (.reg [ ⟨some 21,none,.mv (.t 4)⟩,⟨some 22,none,.fad 1 (.t 6)⟩,⟨some 23,none,.ld (some 7) (.t 22)⟩,⟨some 24,none,.bsl 7 [(.int .i64 0),(.int .i64 0),(.int .i64 0),(.string ⟨#[]⟩),(.string ⟨#[]⟩),(.string ⟨#[]⟩),(.slice none 0 0)] 1 [(0,(.t 23))]⟩,⟨some 25,none,.bsl 1 [(.slice none 0 0)] 1 [(0,(.t 24))]⟩,⟨some 26,none,.app 1 24 (.t 21) (.t 25)⟩,⟨some 4,none,.mv (.t 26)⟩]))) (.reg [ ⟨some 27,none,.bin .add (.t 17) (.c (.sc (.int .i64 1)))⟩,⟨some 17,none,.mv (.t 27)⟩]))))))) (.seq (.reg [ ⟨some 28,none,.mv (.t 4)⟩,⟨some 29,none,.fad 7 (.t 2)⟩,⟨some 30,none,.ld none (.t 29)⟩,⟨some 31,none,.fad 9 (.t 2)⟩,⟨some 32,none,.ld none (.t 31)⟩,⟨some 33,none,.fad 10 (.t 2)⟩,⟨some 34,none,.ld none (.t 33)⟩,⟨some 35,none,.fad 11 (.t 2)⟩,⟨some 36,none,.ld none (.t 35)⟩,⟨some 37,none,.bsl 1 [(.slice none 0 0)] 4 [(0,(.t 30)),(1,(.t 32)),(2,(.t 34)),(3,(.t 36))]⟩,⟨some 38,none,.app 1 24 (.t 28) (.t 37)⟩,⟨some 39,none,.len false (.t 38)⟩,⟨some 40,none,.mv (.c (.sc (.int .i64 0)))⟩]) (.block 2 (.loop [41,8,44,45,47,10,53,46,40] [41,42,43,8,44,45,46,47,48,49,10,50,51,52,53,54,46,55,40] (.seq (.reg [ ⟨some 41,none,.bin .lss (.t 40) (.t 39)⟩]) (.seq (.cond (.t 41) .skip (.exit 2)) (.seq (.block 3 (.seq (.reg [ ⟨some 42,none,.iad 1 (.t 38) (.t 40)⟩,⟨some 43,none,.ld none (.t 42)⟩,⟨some 8,none,.mv (.t 43)⟩]) (.seq (.reg [ ⟨some 44,none,.mv (.t 8)⟩,⟨some 45,none,.len false (.t 44)⟩,⟨some 46,none,.mv (.c (.sc (.int .i64 0)))⟩]) (.block 4 (.loop [47,10,53,46] [47,48,49,10,50,51,52,53,54,46] (.seq (.reg [ ⟨some 47,none,.bin .lss (.t 46) (.t 45)⟩]) (.seq (.cond (.t 47) .skip (.exit 4)) (.seq (.block 5 (.seq (.reg [ ⟨some 48,none,.iad 7 (.t 44) (.t 46)⟩,⟨some 49,none,.ld (some 7) (.t 48)⟩,⟨some 10,none,.alloc [(.int .i64 0),(.int .i64 0),(.int .i64 0),(.string ⟨#[]⟩),(.string ⟨#[]⟩),(.string ⟨#[]⟩),(.slice none 0 0)]⟩,⟨none,none,(.st 7 (.t 10) (.t 49))⟩]) (.seq (.reg [ ⟨some 50,none,.mv (.t 1)⟩,⟨some 51,none,.ld (some 7) (.t 10)⟩,⟨some 52,none,.call (.t 50) [(.t 51)]⟩,⟨some 53,none,.un .not (.t 52)⟩]) (.cond (.t 53) .ret .skip)))) (.reg [ ⟨some 54,none,.bin .add (.t 46) (.c (.sc (.int .i64 1)))⟩,⟨some 46,none,.mv (.t 54)⟩]))))))))) (.reg [ ⟨some 55,none,.bin .add (.t 40) (.c (.sc (.int .i64 1)))⟩,⟨some 40,none,.mv (.t 55)⟩]))))))))))
def sh_syntax_exprs (a0 a1 : AV) (σ : Hp) (n : Nat) (R : AEnd → Hp → Nat → Prop) : Prop :=
 bindS (hBox n a0) σ n fun v1 σ n =>
 bindP (aFad 5 v1) fun v2 =>
 bindP (aLd σ none v2) fun v3 =>
 CALL Tryd.prog (.fn 99 []) [v3] σ n (kc_syntax_exprs5 v1 a1 R)
theorem se_syntax_exprs (a0 a1 : AV) (σ : Hp) (n : Nat) (R : AEnd → Hp → Nat → Prop) : sh_syntax_exprs a0 a1 σ n R = swp Tryd.prog sc_syntax_exprs (retQ [] R) (entry [a0, a1]) σ n := by kernel_rfl
theorem by_syntax_exprs {a0 a1 : AV} {σ : Hp} {n : Nat} {R : AEnd → Hp → Nat → Prop} (h : sh_syntax_exprs a0 a1 σ n R) : ConH Tryd.prog 58 [a0, a1] σ n R := by
  rw [se_syntax_exprs] at h
  exact conH_of [] (fn := Tryd.f58) rfl [0, 16, 18, 15, 6, 17, 4, 2, 39, 41, 38, 8, 45, 47, 44, 1, 10, 53, 46, 40] (by kernel_rfl) (by kernel_rfl) (by kernel_rfl) (by kernel_rfl) h
def kc_syntax_named1 (R : AEnd → Hp → Nat → Prop) (r : AEnd) (σ : Hp) (n : Nat) : Prop :=
 onEnd r (fun v1 =>
 R (.ret v1) σ n) (fun v2 => R (.pan v2) σ n)
attribute [go_sem] kc_syntax_named1
def sc_syntax_named : SCode := (.seq (.reg [ ⟨some 4,none,.mv (.c (.sc (.bool false)))⟩]) (.seq (.seq (.reg [ ⟨some 5,none,.mv (.t 1)⟩]) (.cond (.t 5) (.seq (.reg [ ⟨some 6,none,.mv (.t 0)⟩,⟨some 7,none,.call (.c (.fn 25 [])) [(.t 6)]⟩,⟨some 4,none,.mv (.t 7)⟩]) .ret) .skip)) (.seq (.reg [ ⟨some 8,none,.mv (.t 0)⟩,⟨some 9,none,.bin .eql (.t 8) (.c (.s []))⟩,⟨some 4,none,.mv (.t 9)⟩]) .ret)))
def sh_syntax_named (a0 a1 : AV) (σ : Hp) (n : Nat) (R : AEnd → Hp → Nat → Prop) : Prop :=
 COND a1 (
 CALL Tryd.prog (.fn 25 []) [a0] σ n (kc_syntax_named1 R)) (
 bindP (semBin .eql a0 (.s [])) fun v3 =>
 R (.ret v3) σ n)
theorem se_syntax_named (a0 a1 : AV) (σ : Hp) (n : Nat) (R : AEnd → Hp → Nat → Prop) : sh_syntax_named a0 a1 σ n R = swp Tryd.prog sc_syntax_named (retQ [(.t 4)] R) (entry [a0, a1]) σ n := by kernel_rfl
theorem by_syntax_named {a0 a1 : AV} {σ : Hp} {n : Nat} {R : AEnd → Hp → Nat → Prop} (h : sh_syntax_named a0 a1 σ n R) : ConH Tryd.prog 89 [a0, a1] σ n R := by
  rw [se_syntax_named] at h
  exact conH_of [(.t 4)] (fn := Tryd.f89) rfl [1, 5, 0, 4] (by kernel_rfl) (by kernel_rfl) (by kernel_rfl) (by kernel_rfl) h
def sc_syntax_count : SCode := (.seq (.reg [ ⟨some 8,none,.mv (.c (.sc (.bool false)))⟩]) (.seq (.seq (.reg [ ⟨some 9,none,.mv (.t 2)⟩,⟨some 10,none,.un .not (.t 9)⟩]) (.cond (.t 10) (.seq (.reg [ ⟨some 11,none,.mv (.t 0)⟩,⟨some 12,none,.bin .eql (.t 11) (.c (.sc (.int .i64 0)))⟩,⟨some 8,none,.mv (.t 12)⟩]) .ret) .skip)) (.seq (.reg [ ⟨some 13,none,.mv (.t 0)⟩,⟨some 14,none,.mv (.t 3)⟩,⟨some 15,none,.bin .geq (.t 13) (.t 14)⟩,⟨some 16,none,.mv (.t 15)⟩,⟨(some 17),(some (16,true)),(.mv (.t 0))⟩,⟨(some 18),(some (16,true)),(.mv (.t 1))⟩,⟨(some 19),(some (16,true)),(.bin .leq (.t 17) (.t 18))⟩,⟨some 20,none,.pick (.t 16) (.t 19) (.c (.sc (.bool false)))⟩,⟨some 8,none,.mv (.t 20)⟩]) .ret)))
def sh_syntax_count (a0 a1 a2 a3 : AV) (σ : Hp) (n : Nat) (R : AEnd → Hp → Nat → Prop) : Prop :=
 bindP (aUn .not a2) fun v1 =>
 COND v1 (
 bindP (semBin .eql a0 (.sc (.int .i64 0))) fun v2 =>
 R (.ret v2) σ n) (
 bindP (semBin .geq a0 a3) fun v3 =>
 guardP v3 true (some a0) fun v4 =>
 guardP v3 true (some a1) fun v5 =>
 guardP v3 true (semBin .leq v4 v5) fun v6 =>
 bindP (aPick v3 v6 (.sc (.bool false))) fun v7 =>
 R (.ret v7) σ n)
theorem se_syntax_count (a0 a1 a2 a3 : AV) (σ : Hp) (n : Nat) (R : AEnd → Hp → Nat → Prop) : sh_syntax_count a0 a1 a2 a3 σ n R = swp Tryd.prog sc_syntax_count (retQ [(.t 8)] R) (entry [a0, a1, a2, a3]) σ n := by kernel_rfl
theorem by_syntax_count {a0 a1 a2 a3 : AV} {σ : Hp} {n : Nat} {R : AEnd → Hp → Nat → Prop} (h : sh_syntax_count a0 a1 a2 a3 σ n R) : ConH Tryd.prog 90 [a0, a1, a2, a3] σ n R := by
  rw [se_syntax_count] at h
  exact conH_of [(.t 8)] (fn := Tryd.f90) rfl [2, 10, 3, 0, 1, 8] (by kernel_rfl) (by kernel_rfl) (by kernel_rfl) (by kernel_rfl) h
def kc_slices_ContainsFunc_lapi_Column_api_Column1 (R : AEnd → Hp → Nat → Prop) (r : AEnd) (σ : Hp) (n : Nat) : Prop :=
 onEnd r (fun v1 =>
 bindP (semBin .geq v1 (.sc (.int .i64 0))) fun v3 =>
 R (.ret v3) σ n) (fun v2 => R (.pan v2) σ n)
attribute [go_sem] kc_slices_ContainsFunc_lapi_Column_api_Column1
def sc_slices_ContainsFunc_lapi_Column_api_Column : SCode := (.seq (.reg [ ⟨some 4,none,.mv (.c (.sc (.bool false)))⟩]) (.seq (.reg [ ⟨some 5,none,.mv (.t 0)⟩,⟨some 6,none,.mv (.t 1)⟩,⟨some 7,none,.call (.c (.fn 120 [])) [(.t 5),(.t 6)]⟩,⟨some 8,none,.bin .geq (.t 7) (.c (.sc (.int .i64 0)))⟩,⟨some 4,none,.mv (.t 8)⟩]) .ret))
def sh_slices_ContainsFunc_lapi_Column_api_Column (a0 a1 : AV) (σ : Hp) (n : Nat) (R : AEnd → Hp → Nat → Prop) : Prop :=
 CALL Tryd.prog (.fn 120 []) [a0, a1] σ n (kc_slices_ContainsFunc_lapi_Column_api_Column1 R)
theorem se_slices_ContainsFunc_lapi_Column_api_Column (a0 a1 : AV) (σ : Hp) (n : Nat) (R : AEnd → Hp → Nat → Prop) : sh_slices_ContainsFunc_lapi_Column_api_Column a0 a1 σ n R = swp Tryd.prog sc_slices_ContainsFunc_lapi_Column_api_Column (retQ [(.t 4)] R) (entry [a0, a1]) σ n := by kernel_rfl
theorem by_slices_ContainsFunc_lapi_Column_api_Column {a0 a1 : AV} {σ : Hp} {n : Nat} {R : AEnd → Hp → Nat → Prop} (h : sh_slices_ContainsFunc_lapi_Column_api_Column a0 a1 σ n R) : ConH Tryd.prog 91 [a0, a1] σ n R := by
  rw [se_slices_ContainsFunc_lapi_Column_api_Column] at h
  exact conH_of [(.t 4)] (fn := Tryd.f91) rfl [0, 1, 4] (by kernel_rfl) (by kernel_rfl) (by kernel_rfl) (by kernel_rfl) h
def kc_syntax_shape_c11 (v1 : AV) (R : AEnd → Hp → Nat → Prop) (r : AEnd) (σ : Hp) (n : Nat) : Prop :=
 onEnd r (fun v4 =>
 bindP (aUn .not v4) fun v6 =>
 guardP v6 false (aFad 1 v1) fun v7 =>
 guardP v6 false (aLd σ none v7) fun v8 =>
 guardP v6 false (semBin .lss v8 (.sc (.int .i64 1))) fun v9 =>
 bindP (aPick v6 (.sc (.bool true)) v9) fun v10 =>
 guardP v10 false (aFad 1 v1) fun v11 =>
 guardP v10 false (aLd σ none v11) fun v12 =>
 guardP v10 false (semBin .gtr v12 (.sc (.int .i64 3))) fun v13 =>
 bindP (aPick v10 (.sc (.bool true)) v13) fun v14 =>
 R (.ret v14) σ n) (fun v5 => R (.pan v5) σ n)
attribute [go_sem] kc_syntax_shape_c11
def sc_syntax_shape_c1 : SCode := (.seq (.reg [ ⟨some 1,none,.box (.t 0)⟩,⟨some 2,none,.mv (.c (.sc (.bool false)))⟩]) (.seq (.reg [ ⟨some 3,none,.fad 0 (.t 1)⟩,⟨some 4,none,.ld none (.t 3)⟩,⟨some 5,none,.call (.c (.fn 25 [])) [(.t 4)]⟩,⟨some 6,none,.un .not (.t 5)⟩,⟨some 7,none,.mv (.t 6)⟩,⟨(some 8),(some (7,false)),(.fad 1 (.t 1))⟩,⟨(some 9),(some (7,false)),(.ld none (.t 8))⟩,⟨(some 10),(some (7,false)),(.bin .lss (.t 9) (.c (.sc (.int .i64 1))))⟩,⟨some 11,none,.pick (.t 7) (.c (.sc (.bool true))) (.t 10)⟩,⟨some 12,none,.mv (.t 11)⟩,⟨(some 13),(some (12,false)),(.fad 1 (.t 1))⟩,⟨(some 14),(some (12,false)),(.ld none (.t 13))⟩,⟨(some 15),(some (12,false)),(.bin .gtr (.t 14) (.c (.sc (.int .i64 3))))⟩,⟨some 16,none,.pick (.t 12) (.c (.sc (.bool true))) (.t 15)⟩,⟨some 2,none,.mv (.t 16)⟩]) .ret))
def sh_syntax_shape_c1 (a0 : AV) (σ : Hp) (n : Nat) (R : AEnd → Hp → Nat → Prop) : Prop :=
 bindS (hBox n a0) σ n fun v1 σ n =>
 bindP (aFad 0 v1) fun v2 =>
 bindP (aLd σ none v2) fun v3 =>
 CALL Tryd.prog (.fn 25 []) [v3] σ n (kc_syntax_shape_c11 v1 R)
theorem se_syntax_shape_c1 (a0 : AV) (σ : Hp) (n : Nat) (R : AEnd → Hp → Nat → Prop) : sh_syntax_shape_c1 a0 σ n R = swp Tryd.prog sc_syntax_shape_c1 (retQ [(.t 2)] R) (entry [a0]) σ n := by kernel_rfl
theorem by_syntax_shape_c1 {a0 : AV} {σ : Hp} {n : Nat} {R : AEnd → Hp → Nat → Prop} (h : sh_syntax_shape_c1 a0 σ n R) : ConH Tryd.prog 92 [a0] σ n R := by
  rw [se_syntax_shape_c1] at h
  exact conH_of [(.t 2)] (fn := Tryd.f92) rfl [0, 1, 2] (by kernel_rfl) (by kernel_rfl) (by kernel_rfl) (by kernel_rfl) h
def kc_slices_ContainsFunc_llapi_Expr_lapi_Expr1 (R : AEnd → Hp → Nat → Prop) (r : AEnd) (σ : Hp) (n : Nat) : Prop :=
 onEnd r (fun v1 =>
 bindP (semBin .geq v1 (.sc (.int .i64 0))) fun v3 =>
 R (.ret v3) σ n) (fun v2 => R (.pan v2) σ n)
attribute [go_sem] kc_slices_ContainsFunc_llapi_Expr_lapi_Expr1
def sc_slices_ContainsFunc_llapi_Expr_lapi_Expr : SCode := (.seq (.reg [ ⟨some 4,none,.mv (.c (.sc (.bool false)))⟩]) (.seq (.reg [ ⟨some 5,none,.mv (.t 0)⟩,⟨some 6,none,.mv (.t 1)⟩,⟨some 7,none,.call (.c (.fn 121 [])) [(.t 5),(.t 6)]⟩,⟨some 8,none,.bin .geq (.t 7) (.c (.sc (.int .i64 0)))⟩,⟨some 4,none,.mv (.t 8)⟩]) .ret))
def sh_slices_ContainsFunc_llapi_Expr_lapi_Expr (a0 a1 : AV) (σ : Hp) (n : Nat) (R : AEnd → Hp → Nat → Prop) : Prop :=
 CALL Tryd.prog (.fn 121 []) [a0, a1] σ n (kc_slices_ContainsFunc_llapi_Expr_lapi_Expr1 R)
theorem se_slices_ContainsFunc_llapi_Expr_lapi_Expr (a0 a1 : AV) (σ : Hp) (n : Nat) (R : AEnd → Hp → Nat → Prop) : sh_slices_ContainsFunc_llapi_Expr_lapi_Expr a0 a1 σ n R = swp Tryd.prog sc_slices_ContainsFunc_llapi_Expr_lapi_Expr (retQ [(.t 4)] R) (entry [a0, a1]) σ n := by kernel_rfl
theorem by_slices_ContainsFunc_llapi_Expr_lapi_Expr {a0 a1 : AV} {σ : Hp} {n : Nat} {R : AEnd → Hp → Nat → Prop} (h : sh_slices_ContainsFunc_llapi_Expr_lapi_Expr a0 a1 σ n R) : ConH Tryd.prog 93 [a0, a1] σ n R := by
  rw [se_slices_ContainsFunc_llapi_Expr_lapi_Expr] at h
  exact conH_of [(.t 4)] (fn := Tryd.f93) rfl [0, 1, 4] (by kernel_rfl) (by kernel_rfl) (by kernel_rfl) (by kernel_rfl) h
def sc_syntax_shape_c2 : SCode := (.seq (.reg [ ⟨some 2,none,.mv (.c (.sc (.bool false)))⟩]) (.seq (.reg [ ⟨some 3,none,.mv (.t 0)⟩,⟨some 4,none,.len false (.t 3)⟩,⟨some 5,none,.bin .lss (.t 4) (.c (.sc (.int .i64 1)))⟩,⟨some 6,none,.mv (.t 5)⟩,⟨(some 7),(some (6,false)),(.mv (.t 0))⟩,⟨(some 8),(some (6,false)),(.len false (.t 7))⟩,⟨(some 9),(some (6,false)),(.bin .gtr (.t 8) (.c (.sc (.int .i64 8))))⟩,⟨some 10,none,.pick (.t 6) (.c (.sc (.bool true))) (.t 9)⟩,⟨some 2,none,.mv (.t 10)⟩]) .ret))
def sh_syntax_shape_c2 (a0 : AV) (σ : Hp) (n : Nat) (R : AEnd → Hp → Nat → Prop) : Prop :=
 bindP (aLen false a0) fun v1 => bnd σ a0 →
 bindP (semBin .lss v1 (.sc (.int .i64 1))) fun v2 =>
 guardP v2 false (some a0) fun v3 =>
 guardP v2 false (aLen false v3) fun v4 =>
 guardP v2 false (semBin .gtr v4 (.sc (.int .i64 8))) fun v5 =>
 bindP (aPick v2 (.sc (.bool true)) v5) fun v6 =>
 R (.ret v6) σ n
theorem se_syntax_shape_c2 (a0 : AV) (σ : Hp) (n : Nat) (R : AEnd → Hp → Nat → Prop) : sh_syntax_shape_c2 a0 σ n R = swp Tryd.prog sc_syntax_shape_c2 (retQ [(.t 2)] R) (entry [a0]) σ n := by kernel_rfl
theorem by_syntax_shape_c2 {a0 : AV} {σ : Hp} {n : Nat} {R : AEnd → Hp → Nat → Prop} (h : sh_syntax_shape_c2 a0 σ n R) : ConH Tryd.prog 94 [a0] σ n R := by
  rw [se_syntax_shape_c2] at h
  exact conH_of [(.t 2)] (fn := Tryd.f94) rfl [0, 2] (by kernel_rfl) (by kernel_rfl) (by kernel_rfl) (by kernel_rfl) h
def kc_slices_ContainsFunc_lapi_Set_api_Set1 (R : AEnd → Hp → Nat → Prop) (r : AEnd) (σ : Hp) (n : Nat) : Prop :=
 onEnd r (fun v1 =>
 bindP (semBin .geq v1 (.sc (.int .i64 0))) fun v3 =>
 R (.ret v3) σ n) (fun v2 => R (.pan v2) σ n)
attribute [go_sem] kc_slices_ContainsFunc_lapi_Set_api_Set1
def sc_slices_ContainsFunc_lapi_Set_api_Set : SCode := (.seq (.reg [ ⟨some 4,none,.mv (.c (.sc (.bool false)))⟩]) (.seq (.reg [ ⟨some 5,none,.mv (.t 0)⟩,⟨some 6,none,.mv (.t 1)⟩,⟨some 7,none,.call (.c (.fn 122 [])) [(.t 5),(.t 6)]⟩,⟨some 8,none,.bin .geq (.t 7) (.c (.sc (.int .i64 0)))⟩,⟨some 4,none,.mv (.t 8)⟩]) .ret))
def sh_slices_ContainsFunc_lapi_Set_api_Set (a0 a1 : AV) (σ : Hp) (n : Nat) (R : AEnd → Hp → Nat → Prop) : Prop :=
 CALL Tryd.prog (.fn 122 []) [a0, a1] σ n (kc_slices_ContainsFunc_lapi_Set_api_Set1 R)
theorem se_slices_ContainsFunc_lapi_Set_api_Set (a0 a1 : AV) (σ : Hp) (n : Nat) (R : AEnd → Hp → Nat → Prop) : sh_slices_ContainsFunc_lapi_Set_api_Set a0 a1 σ n R = swp Tryd.prog sc_slices_ContainsFunc_lapi_Set_api_Set (retQ [(.t 4)] R) (entry [a0, a1]) σ n := by kernel_rfl
theorem by_slices_ContainsFunc_lapi_Set_api_Set {a0 a1 : AV} {σ : Hp} {n : Nat} {R : AEnd → Hp → Nat → Prop} (h : sh_slices_ContainsFunc_lapi_Set_api_Set a0 a1 σ n R) : ConH Tryd.prog 95 [a0, a1] σ n R := by
  rw [se_slices_ContainsFunc_lapi_Set_api_Set] at h
  exact conH_of [(.t 4)] (fn := Tryd.f95) rfl [0, 1, 4] (by kernel_rfl) (by kernel_rfl) (by kernel_rfl) (by kernel_rfl) h
def kc_syntax_shape_c31 (R : AEnd → Hp → Nat → Prop) (r : AEnd) (σ : Hp) (n : Nat) : Prop :=
 onEnd r (fun v4 =>
 bindP (aUn .not v4) fun v6 =>
 R (.ret v6) σ n) (fun v5 => R (.pan v5) σ n)
attribute [go_sem] kc_syntax_shape_c31
def sc_syntax_shape_c3 : SCode := (.seq (.reg [ ⟨some 1,none,.box (.t 0)⟩,⟨some 2,none,.mv (.c (.sc (.bool false)))⟩]) (.seq (.reg [ ⟨some 3,none,.fad 0 (.t 1)⟩,⟨some 4,none,.ld none (.t 3)⟩,⟨some 5,none,.call (.c (.fn 25 [])) [(.t 4)]⟩,⟨some 6,none,.un .not (.t 5)⟩,⟨some 2,none,.mv (.t 6)⟩]) .ret))
def sh_syntax_shape_c3 (a0 : AV) (σ : Hp) (n : Nat) (R : AEnd → Hp → Nat → Prop) : Prop :=
 bindS (hBox n a0) σ n fun v1 σ n =>
 bindP (aFad 0 v1) fun v2 =>
 bindP (aLd σ none v2) fun v3 =>
 CALL Tryd.prog (.fn 25 []) [v3] σ n (kc_syntax_shape_c31 R)
theorem se_syntax_shape_c3 (a0 : AV) (σ : Hp) (n : Nat) (R : AEnd → Hp → Nat → Prop) : sh_syntax_shape_c3 a0 σ n R = swp Tryd.prog sc_syntax_shape_c3 (retQ [(.t 2)] R) (entry [a0]) σ n := by kernel_rfl
theorem by_syntax_shape_c3 {a0 : AV} {σ : Hp} {n : Nat} {R : AEnd → Hp → Nat → Prop} (h : sh_syntax_shape_c3 a0 σ n R) : ConH Tryd.prog 96 [a0] σ n R := by
  rw [se_syntax_shape_c3] at h
  exact conH_of [(.t 2)] (fn := Tryd.f96) rfl [0, 1, 2] (by kernel_rfl) (by kernel_rfl) (by kernel_rfl) (by kernel_rfl) h
def kc_slices_ContainsFunc_lapi_Order_api_Order1 (R : AEnd → Hp → Nat → Prop) (r : AEnd) (σ : Hp) (n : Nat) : Prop :=
 onEnd r (fun v1 =>
 bindP (semBin .geq v1 (.sc (.int .i64 0))) fun v3 =>
 R (.ret v3) σ n) (fun v2 => R (.pan v2) σ n)
attribute [go_sem] kc_slices_ContainsFunc_lapi_Order_api_Order1
def sc_slices_ContainsFunc_lapi_Order_api_Order : SCode := (.seq (.reg [ ⟨some 4,none,.mv (.c (.sc (.bool false)))⟩]) (.seq (.reg [ ⟨some 5,none,.mv (.t 0)⟩,⟨some 6,none,.mv (.t 1)⟩,⟨some 7,none,.call (.c (.fn 123 [])) [(.t 5),(.t 6)]⟩,⟨some 8,none,.bin .geq (.t 7) (.c (.sc (.int .i64 0)))⟩,⟨some 4,none,.mv (.t 8)⟩]) .ret))
def sh_slices_ContainsFunc_lapi_Order_api_Order (a0 a1 : AV) (σ : Hp) (n : Nat) (R : AEnd → Hp → Nat → Prop) : Prop :=
 CALL Tryd.prog (.fn 123 []) [a0, a1] σ n (kc_slices_ContainsFunc_lapi_Order_api_Order1 R)
theorem se_slices_ContainsFunc_lapi_Order_api_Order (a0 a1 : AV) (σ : Hp) (n : Nat) (R : AEnd → Hp → Nat → Prop) : sh_slices_ContainsFunc_lapi_Order_api_Order a0 a1 σ n R = swp Tryd.prog sc_slices_ContainsFunc_lapi_Order_api_Order (retQ [(.t 4)] R) (entry [a0, a1]) σ n := by kernel_rfl
theorem by_slices_ContainsFunc_lapi_Order_api_Order {a0 a1 : AV} {σ : Hp} {n : Nat} {R : AEnd → Hp → Nat → Prop} (h : sh_slices_ContainsFunc_lapi_Order_api_Order a0 a1 σ n R) : ConH Tryd.prog 97 [a0, a1] σ n R := by
  rw [se_slices_ContainsFunc_lapi_Order_api_Order] at h
  exact conH_of [(.t 4)] (fn := Tryd.f97) rfl [0, 1, 4] (by kernel_rfl) (by kernel_rfl) (by kernel_rfl) (by kernel_rfl) h
def sc_syntax_shape_c4 : SCode := (.seq (.reg [ ⟨some 1,none,.box (.t 0)⟩,⟨some 2,none,.mv (.c (.sc (.bool false)))⟩]) (.seq (.reg [ ⟨some 3,none,.fad 0 (.t 1)⟩,⟨some 4,none,.ld none (.t 3)⟩,⟨some 5,none,.bin .lss (.t 4) (.c (.sc (.int .i64 1)))⟩,⟨some 6,none,.mv (.t 5)⟩,⟨(some 7),(some (6,false)),(.fad 0 (.t 1))⟩,⟨(some 8),(some (6,false)),(.ld none (.t 7))⟩,⟨(some 9),(some (6,false)),(.bin .gtr (.t 8) (.c (.sc (.int .i64 16))))⟩,⟨some 10,none,.pick (.t 6) (.c (.sc (.bool true))) (.t 9)⟩,⟨some 2,none,.mv (.t 10)⟩]) .ret))
def sh_syntax_shape_c4 (a0 : AV) (σ : Hp) (n : Nat) (R : AEnd → Hp → Nat → Prop) : Prop :=
 bindS (hBox n a0) σ n fun v1 σ n =>
 bindP (aFad 0 v1) fun v2 =>
 bindP (aLd σ none v2) fun v3 =>
 bindP (semBin .lss v3 (.sc (.int .i64 1))) fun v4 =>
 guardP v4 false (aFad 0 v1) fun v5 =>
 guardP v4 false (aLd σ none v5) fun v6 =>
 guardP v4 false (semBin .gtr v6 (.sc (.int .i64 16))) fun v7 =>
 bindP (aPick v4 (.sc (.bool true)) v7) fun v8 =>
 R (.ret v8) σ n
theorem se_syntax_shape_c4 (a0 : AV) (σ : Hp) (n : Nat) (R : AEnd → Hp → Nat → Prop) : sh_syntax_shape_c4 a0 σ n R = swp Tryd.prog sc_syntax_shape_c4 (retQ [(.t 2)] R) (entry [a0]) σ n := by kernel_rfl
theorem by_syntax_shape_c4 {a0 : AV} {σ : Hp} {n : Nat} {R : AEnd → Hp → Nat → Prop} (h : sh_syntax_shape_c4 a0 σ n R) : ConH Tryd.prog 98 [a0] σ n R := by
  rw [se_syntax_shape_c4] at h
  exact conH_of [(.t 2)] (fn := Tryd.f98) rfl [0, 1, 2] (by kernel_rfl) (by kernel_rfl) (by kernel_rfl) (by kernel_rfl) h
def sc_slices_Clone_llapi_Expr_lapi_Expr : SCode := (.seq (.reg [ ⟨some 2,none,.mv (.c .em)⟩]) (.seq (.seq (.reg [ ⟨some 3,none,.mv (.t 0)⟩,⟨some 4,none,.eqn false (.t 3)⟩]) (.cond (.t 4) (.seq (.reg [ ⟨some 2,none,.mv (.c .em)⟩]) .ret) .skip)) (.seq (.reg [ ⟨some 5,none,.bsl 1 [(.slice none 0 0)] 0 []⟩,⟨some 6,none,.mv (.t 0)⟩,⟨some 7,none,.app 1 24 (.t 5) (.t 6)⟩,⟨some 2,none,.mv (.t 7)⟩]) .ret)))
def sh_slices_Clone_llapi_Expr_lapi_Expr (a0 : AV) (σ : Hp) (n : Nat) (R : AEnd → Hp → Nat → Prop) : Prop :=
 bindP (aEqn false a0) fun v1 =>
 COND v1 (
 R (.ret .em) σ n) (
 bindS (hBsl σ n 1 [(.slice none 0 0)] 0 []) σ n fun v2 σ n =>
 bindS (hApp σ n 1 24 v2 a0) σ n fun v3 σ n =>
 R (.ret v3) σ n)
theorem se_slices_Clone_llapi_Expr_lapi_Expr (a0 : AV) (σ : Hp) (n : Nat) (R : AEnd → Hp → Nat → Prop) : sh_slices_Clone_llapi_Expr_lapi_Expr a0 σ n R = swp Tryd.prog sc_slices_Clone_llapi_Expr_lapi_Expr (retQ [(.t 2)] R) (entry [a0]) σ n := by kernel_rfl
theorem by_slices_Clone_llapi_Expr_lapi_Expr {a0 : AV} {σ : Hp} {n : Nat} {R : AEnd → Hp → Nat → Prop} (h : sh_slices_Clone_llapi_Expr_lapi_Expr a0 σ n R) : ConH Tryd.prog 99 [a0] σ n R := by
  rw [se_slices_Clone_llapi_Expr_lapi_Expr] at h
  exact conH_of [(.t 2)] (fn := Tryd.f99) rfl [4, 0, 2] (by kernel_rfl) (by kernel_rfl) (by kernel_rfl) (by kernel_rfl) h
def kc_slices_IndexFunc_llapi_Expr_lapi_Expr1 (R : AEnd → Hp → Nat → Prop) (s2 : List AV) (K2 : List AV → Hp → Nat → Prop) (v3 : AV) (r : AEnd) (σ : Hp) (n : Nat) : Prop :=
 onEnd r (fun v6 =>
 COND v6 (
 R (.ret (s2.getD 4 .any)) σ n) (
 bindP (semBin .add (s2.getD 4 .any) (.sc (.int .i64 1))) fun v8 =>
 K2 [v3, (s2.getD 4 .any), v6, (s2.getD 3 .any), v8] σ n)) (fun v7 => R (.pan v7) σ n)
def lb_slices_IndexFunc_llapi_Expr_lapi_Expr2 (v1 : AV) (a0 : AV) (a1 : AV) (R : AEnd → Hp → Nat → Prop) (K2 : List AV → Hp → Nat → Prop) (s2 : List AV) (σ : Hp) (n : Nat) : Prop :=
 bindP (semBin .lss (s2.getD 4 .any) v1) fun v3 =>
 COND v3 (
 bindP (aIad 1 a0 (s2.getD 4 .any)) fun v4 =>
 bindP (aLd σ none v4) fun v5 =>
 CALL Tryd.prog a1 [v5] σ n (kc_slices_IndexFunc_llapi_Expr_lapi_Expr1 R s2 K2 v3)) (
 R (.ret (.sc (.int .i64 (-1)))) σ n)
attribute [go_sem] kc_slices_IndexFunc_llapi_Expr_lapi_Expr1 lb_slices_IndexFunc_llapi_Expr_lapi_Expr2
def sc_slices_IndexFunc_llapi_Expr_lapi_Expr : SCode := (.seq (.reg [ ⟨some 4,none,.mv (.c (.sc (.int .i64 0)))⟩]) (.seq (.seq (.reg [ ⟨some 6,none,.mv (.t 0)⟩,⟨some 7,none,.len false (.t 6)⟩,⟨some 8,none,.mv (.c (.sc (.int .i64 0)))⟩]) (.block 0 (.loop [9,5,16,4,8] [9,10,5,11,12,13,14,15,16,17,4,18,8] (.seq (.reg [ ⟨some 9,none,.bin .lss (.t 8) (.t 7)⟩]) (.seq (.cond (.t 9) .skip (.exit 0)) (.seq (.block 1 (.seq (.reg [ ⟨some 10,none,.mv (.t 8)⟩,⟨some 5,none,.mv (.t 10)⟩]) (.seq (.reg [ ⟨some 11,none,.mv (.t 1)⟩,⟨some 12,none,.mv (.t 0)⟩,⟨some 13,none,.mv (.t 5)⟩,⟨some 14,none,.iad 1 (.t 12) (.t 13)⟩,⟨some 15,none,.ld none (.t 14)⟩,⟨some 16,none,.call (.t 11) [(.t 15)]⟩]) (.cond (.t 16) (.seq (.reg [ ⟨some 17,none,.mv (.t 5)⟩,⟨some 4,none,.mv (.t 17)⟩]) .ret) .skip)))) (.reg [ ⟨some 18,none,.bin .add (.t 8) (.c (.sc (.int .i64 1)))⟩,⟨some 8,none,.mv (.t 18)⟩]))))))) (.seq (.reg [ ⟨(some 4),none,(.mv (.c (.sc (.int .i64 (-1)))))⟩]) .ret)))
def sh_slices_IndexFunc_llapi_Expr_lapi_Expr (a0 a1 : AV) (σ : Hp) (n : Nat) (R : AEnd → Hp → Nat → Prop) : Prop :=
 bindP (aLen false a0) fun v1 => bnd σ a0 →
 LOOP (lb_slices_IndexFunc_llapi_Expr_lapi_Expr2 v1 a0 a1 R) [(.tp []), (.tp []), (.tp []), (.sc (.int .i64 0)), (.sc (.int .i64 0))] σ n
theorem se_slices_IndexFunc_llapi_Expr_lapi_Expr (a0 a1 : AV) (σ : Hp) (n : Nat) (R : AEnd → Hp → Nat → Prop) : sh_slices_IndexFunc_llapi_Expr_lapi_Expr a0 a1 σ n R = swp Tryd.prog sc_slices_IndexFunc_llapi_Expr_lapi_Expr (retQ [(.t 4)] R) (entry [a0, a1]) σ n := by kernel_rfl
theorem by_slices_IndexFunc_llapi_Expr_lapi_Expr {a0 a1 : AV} {σ : Hp} {n : Nat} {R : AEnd → Hp → Nat → Prop} (h : sh_slices_IndexFunc_llapi_Expr_lapi_Expr a0 a1 σ n R) : ConH Tryd.prog 121 [a0, a1] σ n R := by
  rw [se_slices_IndexFunc_llapi_Expr_lapi_Expr] at h
  exact conH_of [(.t 4)] (fn := Tryd.f121) rfl [7, 9, 1, 0, 16, 5, 8, 4] (by kernel_rfl) (by kernel_rfl) (by kernel_rfl) (by kernel_rfl) h
def kc_slices_IndexFunc_lapi_Set_api_Set1 (R : AEnd → Hp → Nat → Prop) (s2 : List AV) (K2 : List AV → Hp → Nat → Prop) (v3 : AV) (r : AEnd) (σ : Hp) (n : Nat) : Prop :=
 onEnd r (fun v6 =>
 COND v6 (
 R (.ret (s2.getD 4 .any)) σ n) (
 bindP (semBin .add (s2.getD 4 .any) (.sc (.int .i64 1))) fun v8 =>
 K2 [v3, (s2.getD 4 .any), v6, (s2.getD 3 .any), v8] σ n)) (fun v7 => R (.pan v7) σ n)
def lb_slices_IndexFunc_lapi_Set_api_Set2 (v1 : AV) (a0 : AV) (a1 : AV) (R : AEnd → Hp → Nat → Prop) (K2 : List AV → Hp → Nat → Prop) (s2 : List AV) (σ : Hp) (n : Nat) : Prop :=
 bindP (semBin .lss (s2.getD 4 .any) v1) fun v3 =>
 COND v3 (
 bindP (aIad 8 a0 (s2.getD 4 .any)) fun v4 =>
 bindP (aLd σ (some 8) v4) fun v5 =>
 CALL Tryd.prog a1 [v5] σ n (kc_slices_IndexFunc_lapi_Set_api_Set1 R s2 K2 v3)) (
 R (.ret (.sc (.int .i64 (-1)))) σ n)
attribute [go_sem] kc_slices_IndexFunc_lapi_Set_api_Set1 lb_slices_IndexFunc_lapi_Set_api_Set2
def sc_slices_IndexFunc_lapi_Set_api_Set : SCode := (.seq (.reg [ ⟨some 4,none,.mv (.c (.sc (.int .i64 0)))⟩]) (.seq (.seq (.reg [ ⟨some 6,none,.mv (.t 0)⟩,⟨some 7,none,.len false (.t 6)⟩,⟨some 8,none,.mv (.c (.sc (.int .i64 0)))⟩]) (.block 0 (.loop [9,5,16,4,8] [9,10,5,11,12,13,14,15,16,17,4,18,8] (.seq (.reg [ ⟨some 9,none,.bin .lss (.t 8) (.t 7)⟩]) (.seq (.cond (.t 9) .skip (.exit 0)) (.seq (.block 1 (.seq (.reg [ ⟨some 10,none,.mv (.t 8)⟩,⟨some 5,none,.mv (.t 10)⟩]) (.seq (.reg [ ⟨some 11,none,.mv (.t 1)⟩,⟨some 12,none,.mv (.t 0)⟩,⟨some 13,none,.mv (.t 5)⟩,⟨some 14,none,.iad 8 (.t 12) (.t 13)⟩,⟨some 15,none,.ld (some 8) (.t 14)⟩,⟨some 16,none,.call (.t 11) [(.t 15)]⟩]) (.cond (.t 16) (.seq (.reg [ ⟨some 17,none,.mv (.t 5)⟩,⟨some 4,none,.mv (.t 17)⟩]) .ret) .skip)))) (.reg [ ⟨some 18,none,.bin .add (.t 8) (.c (.sc (.int .i64 1)))⟩,⟨some 8,none,.mv (.t 18)⟩]))))))) (.seq (.reg [ ⟨(some 4),none,(.mv (.c (.sc (.int .i64 (-1)))))⟩]) .ret)))
def sh_slices_IndexFunc_lapi_Set_api_Set (a0 a1 : AV) (σ : Hp) (n : Nat) (R : AEnd → Hp → Nat → Prop) : Prop :=
 bindP (aLen false a0) fun v1 => bnd σ a0 →
 LOOP (lb_slices_IndexFunc_lapi_Set_api_Set2 v1 a0 a1 R) [(.tp []), (.tp []), (.tp []), (.sc (.int .i64 0)), (.sc (.int .i64 0))] σ n
theorem se_slices_IndexFunc_lapi_Set_api_Set (a0 a1 : AV) (σ : Hp) (n : Nat) (R : AEnd → Hp → Nat → Prop) : sh_slices_IndexFunc_lapi_Set_api_Set a0 a1 σ n R = swp Tryd.prog sc_slices_IndexFunc_lapi_Set_api_Set (retQ [(.t 4)] R) (entry [a0, a1]) σ n := by kernel_rfl
theorem by_slices_IndexFunc_lapi_Set_api_Set {a0 a1 : AV} {σ : Hp} {n : Nat} {R : AEnd → Hp → Nat → Prop} (h : sh_slices_IndexFunc_lapi_Set_api_Set a0 a1 σ n R) : ConH Tryd.prog 122 [a0, a1] σ n R := by
  rw [se_slices_IndexFunc_lapi_Set_api_Set] at h
  exact conH_of [(.t 4)] (fn := Tryd.f122) rfl [7, 9, 1, 0, 16, 5, 8, 4] (by kernel_rfl) (by kernel_rfl) (by kernel_rfl) (by kernel_rfl) h
def kc_slices_IndexFunc_lapi_Order_api_Order1 (R : AEnd → Hp → Nat → Prop) (s2 : List AV) (K2 : List AV → Hp → Nat → Prop) (v3 : AV) (r : AEnd) (σ : Hp) (n : Nat) : Prop :=
 onEnd r (fun v6 =>
 COND v6 (
 R (.ret (s2.getD 4 .any)) σ n) (
 bindP (semBin .add (s2.getD 4 .any) (.sc (.int .i64 1))) fun v8 =>
 K2 [v3, (s2.getD 4 .any), v6, (s2.getD 3 .any), v8] σ n)) (fun v7 => R (.pan v7) σ n)
def lb_slices_IndexFunc_lapi_Order_api_Order2 (v1 : AV) (a0 : AV) (a1 : AV) (R : AEnd → Hp → Nat → Prop) (K2 : List AV → Hp → Nat → Prop) (s2 : List AV) (σ : Hp) (n : Nat) : Prop :=
 bindP (semBin .lss (s2.getD 4 .any) v1) fun v3 =>
 COND v3 (
 bindP (aIad 2 a0 (s2.getD 4 .any)) fun v4 =>
 bindP (aLd σ (some 2) v4) fun v5 =>
 CALL Tryd.prog a1 [v5] σ n (kc_slices_IndexFunc_lapi_Order_api_Order1 R s2 K2 v3)) (
 R (.ret (.sc (.int .i64 (-1)))) σ n)
attribute [go_sem] kc_slices_IndexFunc_lapi_Order_api_Order1 lb_slices_IndexFunc_lapi_Order_api_Order2
def sc_slices_IndexFunc_lapi_Order_api_Order : SCode := (.seq (.reg [ ⟨some 4,none,.mv (.c (.sc (.int .i64 0)))⟩]) (.seq (.seq (.reg [ ⟨some 6,none,.mv (.t 0)⟩,⟨some 7,none,.len false (.t 6)⟩,⟨some 8,none,.mv (.c (.sc (.int .i64 0)))⟩]) (.block 0 (.loop [9,5,16,4,8] [9,10,5,11,12,13,14,15,16,17,4,18,8] (.seq (.reg [ ⟨some 9,none,.bin .lss (.t 8) (.t 7)⟩]) (.seq (.cond (.t 9) .skip (.exit 0)) (.seq (.block 1 (.seq (.reg [ ⟨some 10,none,.mv (.t 8)⟩,⟨some 5,none,.mv (.t 10)⟩]) (.seq (.reg [ ⟨some 11,none,.mv (.t 1)⟩,⟨some 12,none,.mv (.t 0)⟩,⟨some 13,none,.mv (.t 5)⟩,⟨some 14,none,.iad 2 (.t 12) (.t 13)⟩,⟨some 15,none,.ld (some 2) (.t 14)⟩,⟨some 16,none,.call (.t 11) [(.t 15)]⟩]) (.cond (.t 16) (.seq (.reg [ ⟨some 17,none,.mv (.t 5)⟩,⟨some 4,none,.mv (.t 17)⟩]) .ret) .skip)))) (.reg [ ⟨some 18,none,.bin .add (.t 8) (.c (.sc (.int .i64 1)))⟩,⟨some 8,none,.mv (.t 18)⟩]))))))) (.seq (.reg [ ⟨(some 4),none,(.mv (.c (.sc (.int .i64 (-1)))))⟩]) .ret)))
def sh_slices_IndexFunc_lapi_Order_api_Order (a0 a1 : AV) (σ : Hp) (n : Nat) (R : AEnd → Hp → Nat → Prop) : Prop :=
 bindP (aLen false a0) fun v1 => bnd σ a0 →
 LOOP (lb_slices_IndexFunc_lapi_Order_api_Order2 v1 a0 a1 R) [(.tp []), (.tp []), (.tp []), (.sc (.int .i64 0)), (.sc (.int .i64 0))] σ n
theorem se_slices_IndexFunc_lapi_Order_api_Order (a0 a1 : AV) (σ : Hp) (n : Nat) (R : AEnd → Hp → Nat → Prop) : sh_slices_IndexFunc_lapi_Order_api_Order a0 a1 σ n R = swp Tryd.prog sc_slices_IndexFunc_lapi_Order_api_Order (retQ [(.t 4)] R) (entry [a0, a1]) σ n := by kernel_rfl
theorem by_slices_IndexFunc_lapi_Order_api_Order {a0 a1 : AV} {σ : Hp} {n : Nat} {R : AEnd → Hp → Nat → Prop} (h : sh_slices_IndexFunc_lapi_Order_api_Order a0 a1 σ n R) : ConH Tryd.prog 123 [a0, a1] σ n R := by
  rw [se_slices_IndexFunc_lapi_Order_api_Order] at h
  exact conH_of [(.t 4)] (fn := Tryd.f123) rfl [7, 9, 1, 0, 16, 5, 8, 4] (by kernel_rfl) (by kernel_rfl) (by kernel_rfl) (by kernel_rfl) h
def kc_syntax_shape1 (Kg : AV → Hp → Nat → Prop) (R : AEnd → Hp → Nat → Prop) (r : AEnd) (σ : Hp) (n : Nat) : Prop :=
 onEnd r (fun v25 =>
 Kg v25 σ n) (fun v26 => R (.pan v26) σ n)
def kc_syntax_shape2 (Kg : AV → Hp → Nat → Prop) (R : AEnd → Hp → Nat → Prop) (r : AEnd) (σ : Hp) (n : Nat) : Prop :=
 onEnd r (fun v33 =>
 Kg v33 σ n) (fun v34 => R (.pan v34) σ n)
def kc_syntax_shape3 (Kg : AV → Hp → Nat → Prop) (R : AEnd → Hp → Nat → Prop) (r : AEnd) (σ : Hp) (n : Nat) : Prop :=
 onEnd r (fun v46 =>
 Kg v46 σ n) (fun v47 => R (.pan v47) σ n)
def kc_syntax_shape4 (Kg : AV → Hp → Nat → Prop) (R : AEnd → Hp → Nat → Prop) (r : AEnd) (σ : Hp) (n : Nat) : Prop :=
 onEnd r (fun v57 =>
 Kg v57 σ n) (fun v58 => R (.pan v58) σ n)
def kc_syntax_shape5 (Kg : AV → Hp → Nat → Prop) (R : AEnd → Hp → Nat → Prop) (r : AEnd) (σ : Hp) (n : Nat) : Prop :=
 onEnd r (fun v66 =>
 Kg v66 σ n) (fun v67 => R (.pan v67) σ n)
def kc_syntax_shape6 (Kg : AV → Hp → Nat → Prop) (R : AEnd → Hp → Nat → Prop) (r : AEnd) (σ : Hp) (n : Nat) : Prop :=
 onEnd r (fun v75 =>
 Kg v75 σ n) (fun v76 => R (.pan v76) σ n)
def kc_syntax_shape7 (Kg : AV → Hp → Nat → Prop) (R : AEnd → Hp → Nat → Prop) (r : AEnd) (σ : Hp) (n : Nat) : Prop :=
 onEnd r (fun v84 =>
 Kg v84 σ n) (fun v85 => R (.pan v85) σ n)
def kc_syntax_shape8 (Kg : AV → Hp → Nat → Prop) (R : AEnd → Hp → Nat → Prop) (r : AEnd) (σ : Hp) (n : Nat) : Prop :=
 onEnd r (fun v94 =>
 Kg v94 σ n) (fun v95 => R (.pan v95) σ n)
def kc_syntax_shape9 (Kg : AV → Hp → Nat → Prop) (R : AEnd → Hp → Nat → Prop) (r : AEnd) (σ : Hp) (n : Nat) : Prop :=
 onEnd r (fun v102 =>
 Kg v102 σ n) (fun v103 => R (.pan v103) σ n)
def kc_syntax_shape10 (Kg : AV → Hp → Nat → Prop) (R : AEnd → Hp → Nat → Prop) (r : AEnd) (σ : Hp) (n : Nat) : Prop :=
 onEnd r (fun v111 =>
 Kg v111 σ n) (fun v112 => R (.pan v112) σ n)
def kc_syntax_shape11 (Kg : AV → Hp → Nat → Prop) (R : AEnd → Hp → Nat → Prop) (r : AEnd) (σ : Hp) (n : Nat) : Prop :=
 onEnd r (fun v120 =>
 Kg v120 σ n) (fun v121 => R (.pan v121) σ n)
def kc_syntax_shape12 (Kg : AV → Hp → Nat → Prop) (R : AEnd → Hp → Nat → Prop) (r : AEnd) (σ : Hp) (n : Nat) : Prop :=
 onEnd r (fun v127 =>
 Kg v127 σ n) (fun v128 => R (.pan v128) σ n)
def kc_syntax_shape13 (Kg : AV → Hp → Nat → Prop) (R : AEnd → Hp → Nat → Prop) (r : AEnd) (σ : Hp) (n : Nat) : Prop :=
 onEnd r (fun v134 =>
 Kg v134 σ n) (fun v135 => R (.pan v135) σ n)
def kc_syntax_shape14 (Kg : AV → Hp → Nat → Prop) (R : AEnd → Hp → Nat → Prop) (r : AEnd) (σ : Hp) (n : Nat) : Prop :=
 onEnd r (fun v141 =>
 Kg v141 σ n) (fun v142 => R (.pan v142) σ n)
def kc_syntax_shape15 (Kg : AV → Hp → Nat → Prop) (R : AEnd → Hp → Nat → Prop) (r : AEnd) (σ : Hp) (n : Nat) : Prop :=
 onEnd r (fun v148 =>
 Kg v148 σ n) (fun v149 => R (.pan v149) σ n)
def jk_syntax_shape16 (v1 : AV) (R : AEnd → Hp → Nat → Prop) (s123 : List AV) (σ : Hp) (n : Nat) : Prop :=
 guardP (s123.getD 1 .any) true (aFad 2 v1) fun v124 =>
 guardP (s123.getD 1 .any) true (aLd σ none v124) fun v125 =>
 guardK (s123.getD 1 .any) true (fun Kg => CALL Tryd.prog (.fn 91 []) [v125, (.fn 92 [])] σ n (kc_syntax_shape12 Kg R)) σ n fun v126 σ n =>
 guardP (s123.getD 1 .any) true (aUn .not v126) fun v129 =>
 bindP (aPick (s123.getD 1 .any) v129 (.sc (.bool false))) fun v130 =>
 guardP v130 true (aFad 5 v1) fun v131 =>
 guardP v130 true (aLd σ none v131) fun v132 =>
 guardK v130 true (fun Kg => CALL Tryd.prog (.fn 93 []) [v132, (.fn 94 [])] σ n (kc_syntax_shape13 Kg R)) σ n fun v133 σ n =>
 guardP v130 true (aUn .not v133) fun v136 =>
 bindP (aPick v130 v136 (.sc (.bool false))) fun v137 =>
 guardP v137 true (aFad 6 v1) fun v138 =>
 guardP v137 true (aLd σ none v138) fun v139 =>
 guardK v137 true (fun Kg => CALL Tryd.prog (.fn 95 []) [v139, (.fn 96 [])] σ n (kc_syntax_shape14 Kg R)) σ n fun v140 σ n =>
 guardP v137 true (aUn .not v140) fun v143 =>
 bindP (aPick v137 v143 (.sc (.bool false))) fun v144 =>
 guardP v144 true (aFad 12 v1) fun v145 =>
 guardP v144 true (aLd σ none v145) fun v146 =>
 guardK v144 true (fun Kg => CALL Tryd.prog (.fn 97 []) [v146, (.fn 98 [])] σ n (kc_syntax_shape15 Kg R)) σ n fun v147 σ n =>
 guardP v144 true (aUn .not v147) fun v150 =>
 bindP (aPick v144 v150 (.sc (.bool false))) fun v151 =>
 R (.ret v151) σ n
def kc_syntax_shape17 (v1 : AV) (v3 : AV) (R : AEnd → Hp → Nat → Prop) (v10 : AV) (r : AEnd) (σ : Hp) (n : Nat) : Prop :=
 onEnd r (fun v14 =>
 guardP v14 true (aFad 3 v1) fun v16 =>
 guardP v14 true (aLd σ none v16) fun v17 =>
 guardP v14 true (some v3) fun v18 =>
 guardP v14 true (semBin .eql v18 (.sc (.int .i64 1))) fun v19 =>
 guardP v14 true (some v19) fun v20 =>
 guardP v20 false (some v3) fun v21 =>
 guardP v20 false (semBin .eql v21 (.sc (.int .i64 2))) fun v22 =>
 guardP v14 true (aPick v20 (.sc (.bool true)) v22) fun v23 =>
 guardK v14 true (fun Kg => CALL Tryd.prog (.fn 89 []) [v17, v23] σ n (kc_syntax_shape1 Kg R)) σ n fun v24 σ n =>
 bindP (aPick v14 v24 (.sc (.bool false))) fun v27 =>
 guardP v27 true (aFad 4 v1) fun v28 =>
 guardP v27 true (aLd σ none v28) fun v29 =>
 guardP v27 true (some v3) fun v30 =>
 guardP v27 true (semBin .eql v30 (.sc (.int .i64 2))) fun v31 =>
 guardK v27 true (fun Kg => CALL Tryd.prog (.fn 89 []) [v29, v31] σ n (kc_syntax_shape2 Kg R)) σ n fun v32 σ n =>
 bindP (aPick v27 v32 (.sc (.bool false))) fun v35 =>
 guardP v35 true (aFad 8 v1) fun v36 =>
 guardP v35 true (aLd σ none v36) fun v37 =>
 guardP v35 true (semBin .eql v37 (.s [])) fun v38 =>
 guardP v35 true (some v38) fun v39 =>
 guardP v39 false (some v3) fun v40 =>
 guardP v39 false (semBin .eql v40 (.sc (.int .i64 7))) fun v41 =>
 guardP v39 false (some v41) fun v42 =>
 guardP v42 true (aFad 8 v1) fun v43 =>
 guardP v42 true (aLd σ none v43) fun v44 =>
 guardK v42 true (fun Kg => CALL Tryd.prog (.fn 25 []) [v44] σ n (kc_syntax_shape3 Kg R)) σ n fun v45 σ n =>
 guardP v39 false (aPick v42 v45 (.sc (.bool false))) fun v48 =>
 guardP v35 true (aPick v39 (.sc (.bool true)) v48) fun v49 =>
 bindP (aPick v35 v49 (.sc (.bool false))) fun v50 =>
 guardP v50 true (aFad 2 v1) fun v51 =>
 guardP v50 true (aLd σ none v51) fun v52 =>
 guardP v50 true (aLen false v52) fun v53 =>
 guardP v50 true (some v3) fun v54 =>
 guardP v50 true (semBin .eql v54 (.sc (.int .i64 1))) fun v55 =>
 guardK v50 true (fun Kg => CALL Tryd.prog (.fn 90 []) [v53, (.sc (.int .i64 8)), v55, (.sc (.int .i64 1))] σ n (kc_syntax_shape4 Kg R)) σ n fun v56 σ n =>
 bindP (aPick v50 v56 (.sc (.bool false))) fun v59 =>
 guardP v59 true (aFad 5 v1) fun v60 =>
 guardP v59 true (aLd σ none v60) fun v61 =>
 guardP v59 true (aLen false v61) fun v62 =>
 guardP v59 true (some v3) fun v63 =>
 guardP v59 true (semBin .eql v63 (.sc (.int .i64 4))) fun v64 =>
 guardK v59 true (fun Kg => CALL Tryd.prog (.fn 90 []) [v62, (.sc (.int .i64 16)), v64, (.sc (.int .i64 1))] σ n (kc_syntax_shape5 Kg R)) σ n fun v65 σ n =>
 bindP (aPick v59 v65 (.sc (.bool false))) fun v68 =>
 guardP v68 true (aFad 6 v1) fun v69 =>
 guardP v68 true (aLd σ none v69) fun v70 =>
 guardP v68 true (aLen false v70) fun v71 =>
 guardP v68 true (some v3) fun v72 =>
 guardP v68 true (semBin .eql v72 (.sc (.int .i64 5))) fun v73 =>
 guardK v68 true (fun Kg => CALL Tryd.prog (.fn 90 []) [v71, (.sc (.int .i64 8)), v73, (.sc (.int .i64 1))] σ n (kc_syntax_shape6 Kg R)) σ n fun v74 σ n =>
 bindP (aPick v68 v74 (.sc (.bool false))) fun v77 =>
 guardP v77 true (aFad 7 v1) fun v78 =>
 guardP v77 true (aLd σ none v78) fun v79 =>
 guardP v77 true (aLen false v79) fun v80 =>
 guardP v77 true (some v3) fun v81 =>
 guardP v77 true (semBin .eql v81 (.sc (.int .i64 7))) fun v82 =>
 guardK v77 true (fun Kg => CALL Tryd.prog (.fn 90 []) [v80, (.sc (.int .i64 16)), v82, (.sc (.int .i64 1))] σ n (kc_syntax_shape7 Kg R)) σ n fun v83 σ n =>
 bindP (aPick v77 v83 (.sc (.bool false))) fun v86 =>
 guardP v86 true (aFad 9 v1) fun v87 =>
 guardP v86 true (aLd σ none v87) fun v88 =>
 guardP v86 true (aLen false v88) fun v89 =>
 guardP v86 true (aFad 8 v1) fun v90 =>
 guardP v86 true (aLd σ none v90) fun v91 =>
 guardP v86 true (semBin .neq v91 (.s [])) fun v92 =>
 guardK v86 true (fun Kg => CALL Tryd.prog (.fn 90 []) [v89, (.sc (.int .i64 1)), v92, (.sc (.int .i64 1))] σ n (kc_syntax_shape8 Kg R)) σ n fun v93 σ n =>
 bindP (aPick v86 v93 (.sc (.bool false))) fun v96 =>
 guardP v96 true (aFad 10 v1) fun v97 =>
 guardP v96 true (aLd σ none v97) fun v98 =>
 guardP v96 true (aLen false v98) fun v99 =>
 guardP v96 true (some v10) fun v100 =>
 guardK v96 true (fun Kg => CALL Tryd.prog (.fn 90 []) [v99, (.sc (.int .i64 1)), v100, (.sc (.int .i64 0))] σ n (kc_syntax_shape9 Kg R)) σ n fun v101 σ n =>
 bindP (aPick v96 v101 (.sc (.bool false))) fun v104 =>
 guardP v104 true (aFad 11 v1) fun v105 =>
 guardP v104 true (aLd σ none v105) fun v106 =>
 guardP v104 true (aLen false v106) fun v107 =>
 guardP v104 true (some v3) fun v108 =>
 guardP v104 true (semBin .eql v108 (.sc (.int .i64 7))) fun v109 =>
 guardK v104 true (fun Kg => CALL Tryd.prog (.fn 90 []) [v107, (.sc (.int .i64 1)), v109, (.sc (.int .i64 0))] σ n (kc_syntax_shape10 Kg R)) σ n fun v110 σ n =>
 bindP (aPick v104 v110 (.sc (.bool false))) fun v113 =>
 guardP v113 true (aFad 12 v1) fun v114 =>
 guardP v113 true (aLd σ none v114) fun v115 =>
 guardP v113 true (aLen false v115) fun v116 =>
 guardP v113 true (some v3) fun v117 =>
 guardP v113 true (semBin .eql v117 (.sc (.int .i64 7))) fun v118 =>
 guardK v113 true (fun Kg => CALL Tryd.prog (.fn 90 []) [v116, (.sc (.int .i64 8)), v118, (.sc (.int .i64 0))] σ n (kc_syntax_shape11 Kg R)) σ n fun v119 σ n =>
 bindP (aPick v113 v119 (.sc (.bool false))) fun v122 =>
 JOIN (jk_syntax_shape16 v1 R) fun K123 =>
 bindP (semBin .eql v3 (.sc (.int .i64 7))) fun v152 =>
 COND v152 (
 guardP v122 true (aFad 13 v1) fun v153 =>
 guardP v122 true (aLd σ none v153) fun v154 =>
 guardP v122 true (semBin .geq v154 (.sc (.int .i64 (-1)))) fun v155 =>
 bindP (aPick v122 v155 (.sc (.bool false))) fun v156 =>
 guardP v156 true (aFad 13 v1) fun v157 =>
 guardP v156 true (aLd σ none v157) fun v158 =>
 guardP v156 true (semBin .leq v158 (.sc (.int .i64 2147483648))) fun v159 =>
 bindP (aPick v156 v159 (.sc (.bool false))) fun v160 =>
 K123 [v152, v160] σ n) (
 guardP v122 true (aFad 13 v1) fun v161 =>
 guardP v122 true (aLd σ none v161) fun v162 =>
 guardP v122 true (semBin .eql v162 (.sc (.int .i64 0))) fun v163 =>
 bindP (aPick v122 v163 (.sc (.bool false))) fun v164 =>
 K123 [v152, v164] σ n)) (fun v15 => R (.pan v15) σ n)
attribute [go_sem] kc_syntax_shape1 kc_syntax_shape2 kc_syntax_shape3 kc_syntax_shape4 kc_syntax_shape5 kc_syntax_shape6 kc_syntax_shape7 kc_syntax_shape8 kc_syntax_shape9 kc_syntax_shape10 kc_syntax_shape11 kc_syntax_shape12 kc_syntax_shape13 kc_syntax_shape14 kc_syntax_shape15 jk_syntax_shape16 kc_syntax_shape17
def sc_syntax_shape : SCode := (.seq (.reg [ ⟨some 1,none,.box (.t 0)⟩,⟨some 2,none,.mv (.c (.sc (.bool false)))⟩]) (.seq (.reg [ ⟨some 6,none,.fad 0 (.t 1)⟩,⟨some 7,none,.ld none (.t 6)⟩,⟨some 3,none,.mv (.t 7)⟩]) (.seq (.reg [ ⟨some 8,none,.mv (.t 3)⟩,⟨some 9,none,.bin .eql (.t 8) (.c (.sc (.int .i64 5)))⟩,⟨some 10,none,.mv (.t 9)⟩,⟨(some 11),(some (10,false)),(.mv (.t 3))⟩,⟨(some 12),(some (10,false)),(.bin .eql (.t 11) (.c (.sc (.int .i64 6))))⟩,⟨some 13,none,.pick (.t 10) (.c (.sc (.bool true))) (.t 12)⟩,⟨some 14,none,.mv (.t 13)⟩,⟨(some 15),(some (14,false)),(.mv (.t 3))⟩,⟨(some 16),(some (14,false)),(.bin .eql (.t 15) (.c (.sc (.int .i64 7))))⟩,⟨some 17,none,.pick (.t 14) (.c (.sc (.bool true))) (.t 16)⟩,⟨some 4,none,.mv (.t 17)⟩]) (.seq (.reg [ ⟨some 18,none,.fad 1 (.t 1)⟩,⟨some 19,none,.ld none (.t 18)⟩,⟨some 20,none,.mv (.t 3)⟩,⟨some 21,none,.bin .leq (.t 20) (.c (.sc (.int .i64 7)))⟩,⟨some 22,none,.call (.c (.fn 89 [])) [(.t 19),(.t 21)]⟩,⟨some 23,none,.mv (.t 22)⟩,⟨(some 24),(some (23,true)),(.fad 3 (.t 1))⟩,⟨(some 25),(some (23,true)),(.ld none (.t 24))⟩,⟨(some 26),(some (23,true)),(.mv (.t 3))⟩,⟨(some 27),(some (23,true)),(.bin .eql (.t 26) (.c (.sc (.int .i64 1))))⟩,⟨(some 28),(some (23,true)),(.mv (.t 27))⟩,⟨(some 29),(some (28,false)),(.mv (.t 3))⟩,⟨(some 30),(some (28,false)),(.bin .eql (.t 29) (.c (.sc (.int .i64 2))))⟩,⟨(some 31),(some (23,true)),(.pick (.t 28) (.c (.sc (.bool true))) (.t 30))⟩,⟨(some 32),(some (23,true)),(.call (.c (.fn 89 [])) [(.t 25),(.t 31)])⟩,⟨some 33,none,.pick (.t 23) (.t 32) (.c (.sc (.bool false)))⟩,⟨some 34,none,.mv (.t 33)⟩,⟨(some 35),(some (34,true)),(.fad 4 (.t 1))⟩,⟨(some 36),(some (34,true)),(.ld none (.t 35))⟩,⟨(some 37),(some (34,true)),(.mv (.t 3))⟩,⟨(some 38),(some (34,true)),(.bin .eql (.t 37) (.c (.sc (.int .i64 2))))⟩,⟨(some 39),(some (34,true)),(.call (.c (.fn 89 [])) [(.t 36),(.t 38)])⟩,⟨some 40,none,.pick (.t 34) (.t 39) (.c (.sc (.bool false)))⟩,⟨some 41,none,.mv (.t 40)⟩,⟨(some 42),(some (41,true)),(.fad 8 (.t 1))⟩,⟨(some 43),(some (41,true)),(.ld none (.t 42))⟩,⟨(some 44),(some (41,true)),(.bin .eql (.t 43) (.c (.s [])))⟩,⟨(some 45),(some (41,true)),(.mv (.t 44))⟩,⟨(some 46),(some (45,false)),(.mv (.t 3))⟩,⟨(some 47),(some (45,false)),(.bin .eql (.t 46) (.c (.sc (.int .i64 7))))⟩,⟨(some 48),(some (45,false)),(.mv (.t 47))⟩,⟨(some 49),(some (48,true)),(.fad 8 (.t 1))⟩,⟨(some 50),(some (48,true)),(.ld none (.t 49))⟩,⟨(some 51),(some (48,true)),(.call (.c (.fn 25 [])) [(.t 50)])⟩,⟨(some 52),(some (45,false)),(.pick (.t 48) (.t 51) (.c (.sc (.bool false))))⟩,⟨(some 53),(some (41,true)),(.pick (.t 45) (.c (.sc (.bool true))) (.t 52))⟩,⟨some 54,none,.pick (.t 41) (.t 53) (.c (.sc (.bool false)))⟩,⟨some 5,none,.mv (.t 54)⟩]) (.seq (.reg [ ⟨some 55,none,.mv (.t 5)⟩,⟨some 56,none,.mv (.t 55)⟩,⟨(some 57),(some (56,true)),(.fad 2 (.t 1))⟩,⟨(some 58),(some (56,true)),(.ld none (.t 57))⟩,⟨(some 59),(some (56,true)),(.len false (.t 58))⟩,⟨(some 60),(some (56,true)),(.mv (.t 3))⟩,⟨(some 61),(some (56,true)),(.bin .eql (.t 60) (.c (.sc (.int .i64 1))))⟩,⟨(some 62),(some (56,true)),(.call (.c (.fn 90 [])) [(.t 59),(.c (.sc (.int .i64 8))),(.t 61),(.c (.sc (.int .i64 1)))])⟩,⟨some 63,none,.pick (.t 56) (.t 62) (.c (.sc (.bool false)))⟩,⟨some 64,none,.mv (.t 63)⟩,⟨(some 65),(some (64,true)),(.fad 5 (.t 1))⟩,⟨(some 66),(some (64,true)),(.ld none (.t 65))⟩,⟨(some 67),(some (64,true)),(.len false (.t 66))⟩,⟨(some 68),(some (64,true)),(.mv (.t 3))⟩,⟨(some 69),(some (64,true)),(.bin .eql (.t 68) (.c (.sc (.int .i64 4))))⟩,⟨(some 70),(some (64,true)),(.call (.c (.fn 90 [])) [(.t 67),(.c (.sc (.int .i64 16))),(.t 69),(.c (.sc (.int .i64 1)))])⟩,⟨some 71,none,.pick (.t 64) (.t 70) (.c (.sc (.bool false)))⟩,⟨some 72,none,.mv (.t 71)⟩,⟨(some 73),(some (72,true)),(.fad 6 (.t 1))⟩,⟨(some 74),(some (72,true)),(.ld none (.t 73))⟩,⟨(some 75),(some (72,true)),(.len false (.t 74))⟩,⟨(some 76),(some (72,true)),(.mv (.t 3))⟩,⟨(some 77),(some (72,true)),(.bin .eql (.t 76) (.c (.sc (.int .i64 5))))⟩,⟨(some 78),(some (72,true)),(.call (.c (.fn 90 [])) [(.t 75),(.c (.sc (.int .i64 8))),(.t 77),(.c (.sc (.int .i64 1)))])⟩,⟨some 79,none,.pick (.t 72) (.t 78) (.c (.sc (.bool false)))⟩,⟨some 80,none,.mv (.t 79)⟩,⟨(some 81),(some (80,true)),(.fad 7 (.t 1))⟩,⟨(some 82),(some (80,true)),(.ld none (.t 81))⟩,⟨(some 83),(some (80,true)),(.len false (.t 82))⟩,⟨(some 84),(some (80,true)),(.mv (.t 3))⟩,⟨(some 85),(some (80,true)),(.bin .eql (.t 84) (.c (.sc (.int .i64 7))))⟩,⟨(some 86),(some (80,true)),(.call (.c (.fn 90 [])) [(.t 83),(.c (.sc (.int .i64 16))),(.t 85),(.c (.sc (.int .i64 1)))])⟩,⟨some 87,none,.pick (.t 80) (.t 86) (.c (.sc (.bool false)))⟩,⟨some 5,none,.mv (.t 87)⟩]) (.seq (.reg [ ⟨some 88,none,.mv (.t 5)⟩,⟨some 89,none,.mv (.t 88)⟩,⟨(some 90),(some (89,true)),(.fad 9 (.t 1))⟩,⟨(some 91),(some (89,true)),(.ld none (.t 90))⟩,⟨(some 92),(some (89,true)),(.len false (.t 91))⟩,⟨(some 93),(some (89,true)),(.fad 8 (.t 1))⟩,⟨(some 94),(some (89,true)),(.ld none (.t 93))⟩,⟨(some 95),(some (89,true)),(.bin .neq (.t 94) (.c (.s [])))⟩,⟨(some 96),(some (89,true)),(.call (.c (.fn 90 [])) [(.t 92),(.c (.sc (.int .i64 1))),(.t 95),(.c (.sc (.int .i64 1)))])⟩,⟨some 97,none,.pick (.t 89) (.t 96) (.c (.sc (.bool false)))⟩,⟨some 98,none,.mv (.t 97)⟩,⟨(some 99),(some (98,true)),(.fad 10 (.t 1))⟩,⟨(some 100),(some (98,true)),(.ld none (.t 99))⟩,⟨(some 101),(some (98,true)),(.len false (.t 100))⟩,⟨(some 102),(some (98,true)),(.mv (.t 4))⟩,⟨(some 103),(some (98,true)),(.call (.c (.fn 90 [])) [(.t 101),(.c (.sc (.int .i64 1))),(.t 102),(.c (.sc (.int .i64 0)))])⟩,⟨some 104,none,.pick (.t 98) (.t 103) (.c (.sc (.bool false)))⟩,⟨some 105,none,.mv (.t 104)⟩,⟨(some 106),(some (105,true)),(.fad 11 (.t 1))⟩,⟨(some 107),(some (105,true)),(.ld none (.t 106))⟩,⟨(some 108),(some (105,true)),(.len false (.t 107))⟩,⟨(some 109),(some (105,true)),(.mv (.t 3))⟩,⟨(some 110),(some (105,true)),(.bin .eql (.t 109) (.c (.sc (.int .i64 7))))⟩,⟨(some 111),(some (105,true)),(.call (.c (.fn 90 [])) [(.t 108),(.c (.sc (.int .i64 1))),(.t 110),(.c (.sc (.int .i64 0)))])⟩,⟨some 112,none,.pick (.t 105) (.t 111) (.c (.sc (.bool false)))⟩,⟨some 113,none,.mv (.t 112)⟩,⟨(some 114),(some (113,true)),(.fad 12 (.t 1))⟩,⟨(some 115),(some (113,true)),(.ld none (.t 114))⟩,⟨(some 116),(some (113,true)),(.len false (.t 115))⟩,⟨(some 117),(some (113,true)),(.mv (.t 3))⟩,⟨(some 118),(some (113,true)),(.bin .eql (.t 117) (.c (.sc (.int .i64 7))))⟩,⟨(some 119),(some (113,true)),(.call (.c (.fn 90 [])) [(.t 116),(.c (.sc (.int .i64 8))),(.t 118),(.c (.sc (.int .i64 0)))])⟩,⟨some 120,none,.pick (.t 113) (.t 119) (.c (.sc (.bool false)))⟩,⟨some 5,none,.mv (.t 120)⟩]) (.seqJ [122,5] [121,122,123,124,125,126,127,128,129,130,131,132,133,5,134,135,136,137,138,139,5] (.seq (.reg [ ⟨some 121,none,.mv (.t 3)⟩,⟨some 122,none,.bin .eql (.t 121) (.c (.sc (.int .i64 7)))⟩]) (.cond (.t 122) (.reg [ ⟨some 123,none,.mv (.t 5)⟩,⟨some 124,none,.mv (.t 123)⟩,⟨(some 125),(some (124,true)),(.fad 13 (.t 1))⟩,⟨(some 126),(some (124,true)),(.ld none (.t 125))⟩,⟨(some 127),(some (124,true)),(.bin .geq (.t 126) (.c (.sc (.int .i64 (-1)))))⟩,⟨some 128,none,.pick (.t 124) (.t 127) (.c (.sc (.bool false)))⟩,⟨some 129,none,.mv (.t 128)⟩,⟨(some 130),(some (129,true)),(.fad 13 (.t 1))⟩,⟨(some 131),(some (129,true)),(.ld none (.t 130))⟩,⟨(some 132),(some (129,true)),(.bin .leq (.t 131) (.c (.sc (.int .i64 2147483648))))⟩,⟨some 133,none,.pick (.t 129) (.t 132) (.c (.sc (.bool false)))⟩,⟨some 5,none,.mv (.t 133)⟩]) (.reg [ ⟨some 134,none,.mv (.t 5)⟩,⟨some 135,none,.mv (.t 134)⟩,⟨(some 136),(some (135,true)),(.fad 13 (.t 1))⟩,⟨(some 137),(some (135,true)),(.ld none (.t 136))⟩,⟨(some 138),(some (135,true)),(.bin .eql (.t 137) (.c (.sc (.int .i64 0))))⟩,⟨some 139,none,.pick (.t 135) (.t 138) (.c (.sc (.bool false)))⟩,⟨some 5,none,.mv (.t 139)⟩]))) (.seq (.reg [ ⟨some 140,none,.mv (.t 5)⟩,⟨some 141,none,.mv (.t 140)⟩,⟨(some 142),(some (141,true)),(.fad 2 (.t 1))⟩,⟨(some 143),(some (141,true)),(.ld none (.t 142))⟩,⟨(some 144),(some (141,true)),(.call (.c (.fn 91 [])) [(.t 143),(.c (.fn 92 []))])⟩,⟨(some 145),(some (141,true)),(.un .not (.t 144))⟩,⟨some 146,none,.pick (.t 141) (.t 145) (.c (.sc (.bool false)))⟩,⟨some 147,none,.mv (.t 146)⟩,⟨(some 148),(some (147,true)),(.fad 5 (.t 1))⟩,⟨(some 149),(some (147,true)),(.ld none (.t 148))⟩,⟨(some 150),(some (147,true)),(.call (.c (.fn 93 [])) [(.t 149),(.c (.fn 94 []))])⟩,⟨(some 151),(some (147,true)),(.un .not (.t 150))⟩,⟨some 152,none,.pick (.t 147) (.t 151) (.c (.sc (.bool false)))⟩,⟨some 153,none,.mv (.t 152)⟩,⟨(some 154),(some (153,true)),(.fad 6 (.t 1))⟩,⟨(some 155),(some (153,true)),(.ld none (.t 154))⟩,⟨(some 156),(some (153,true)),(.call (.c (.fn 95 [])) [(.t 155),(.c (.fn 96 []))])⟩,⟨(some 157),(some (153,true)),(.un .not (.t 156))⟩,⟨some 158,none,.pick (.t 153) (.t 157) (.c (.sc (.bool false)))⟩,⟨some 159,none,.mv (.t 158)⟩,⟨(some 160),(some (159,true)),(.fad 12 (.t 1))⟩,⟨(some 161),(some (159,true)),(.ld none (.t 160))⟩,⟨(some 162),(some (159,true)),(.call (.c (.fn 97 [])) [(.t 161),(.c (.fn 98 []))])⟩,⟨(some 163),(some (159,true)),(.un .not (.t 162))⟩,⟨some 164,none,.pick (.t 159) (.t 163) (.c (.sc (.bool false)))⟩,⟨some 2,none,.mv (.t 164)⟩]) .ret))))))))
def sh_syntax_shape (a0 : AV) (σ : Hp) (n : Nat) (R : AEnd → Hp → Nat → Prop) : Prop :=
 bindS (hBox n a0) σ n fun v1 σ n =>
 bindP (aFad 0 v1) fun v2 =>
 bindP (aLd σ none v2) fun v3 =>
 bindP (semBin .eql v3 (.sc (.int .i64 5))) fun v4 =>
 guardP v4 false (some v3) fun v5 =>
 guardP v4 false (semBin .eql v5 (.sc (.int .i64 6))) fun v6 =>
 bindP (aPick v4 (.sc (.bool true)) v6) fun v7 =>
 guardP v7 false (some v3) fun v8 =>
 guardP v7 false (semBin .eql v8 (.sc (.int .i64 7))) fun v9 =>
 bindP (aPick v7 (.sc (.bool true)) v9) fun v10 =>
 bindP (aFad 1 v1) fun v11 =>
 bindP (aLd σ none v11) fun v12 =>
 bindP (semBin .leq v3 (.sc (.int .i64 7))) fun v13 =>
 CALL Tryd.prog (.fn 89 []) [v12, v13] σ n (kc_syntax_shape17 v1 v3 R v10)
theorem se_syntax_shape (a0 : AV) (σ : Hp) (n : Nat) (R : AEnd → Hp → Nat → Prop) : sh_syntax_shape a0 σ n R = swp Tryd.prog sc_syntax_shape (retQ [(.t 2)] R) (entry [a0]) σ n := by kernel_rfl
theorem by_syntax_shape {a0 : AV} {σ : Hp} {n : Nat} {R : AEnd → Hp → Nat → Prop} (h : sh_syntax_shape a0 σ n R) : ConH Tryd.prog 56 [a0] σ n R := by
  rw [se_syntax_shape] at h
  exact conH_of [(.t 2)] (fn := Tryd.f56) rfl [0, 4, 3, 122, 5, 1, 2] (by kernel_rfl) (by kernel_rfl) (by kernel_rfl) (by kernel_rfl) h
end Go.Proofs.YtodoejfkjimeaaaDoor
