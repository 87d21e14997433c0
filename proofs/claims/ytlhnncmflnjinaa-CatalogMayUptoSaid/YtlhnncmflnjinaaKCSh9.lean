/- Packed by a program of this repo: Sh9. -/
import Derived.Test.YtlhnncmflnjinaaKCMo
import Derived.Test.YtlhnncmflnjinaaProg
set_option linter.unusedVariables false
set_option maxRecDepth 8000
namespace Go.Proofs.Ytlhnncmflnjinaa
open Go Am
/-- switchback/catalog.May -/
def kc_catalog_May1 (Kg : AV → Hp → Nat → Prop) (R : AEnd → Hp → Nat → Prop) (r : AEnd) (σ : Hp) (n : Nat) : Prop :=
 onEnd r (fun v53 =>
 Kg v53 σ n) (fun v54 => R (.pan v54) σ n)
def kc_catalog_May2 (Kg : AV → Hp → Nat → Prop) (R : AEnd → Hp → Nat → Prop) (r : AEnd) (σ : Hp) (n : Nat) : Prop :=
 onEnd r (fun v85 =>
 Kg v85 σ n) (fun v86 => R (.pan v86) σ n)
def lb_catalog_May3 (v72 : AV) (v71 : AV) (v37 : AV) (R : AEnd → Hp → Nat → Prop) (v4 : AV) (K73 : List AV → Hp → Nat → Prop) (s73 : List AV) (σ : Hp) (n : Nat) : Prop :=
 bindP (semBin .lss (s73.getD 4 .any) v72) fun v74 =>
 COND v74 (
 bindP (aIad 2 v71 (s73.getD 4 .any)) fun v75 =>
 bindP (aLd σ (some 2) v75) fun v76 =>
 bindS (hAlloc n [(.string ⟨#[]⟩), (.int .i64 0)]) σ n fun v77 σ n =>
 bindS (hSt σ 2 v77 v76) σ n fun v78 σ n =>
 bindP (aFad 0 v77) fun v79 =>
 bindP (aLd σ none v79) fun v80 =>
 bindP (aLkp σ (.bool false) false v37 v80) fun v81 =>
 guardP v81 false (aFad 0 v77) fun v82 =>
 guardP v81 false (aLd σ none v82) fun v83 =>
 guardK v81 false (fun Kg => CALL Try.prog (.fn 123 []) [v83] σ n (kc_catalog_May2 Kg R)) σ n fun v84 σ n =>
 guardP v81 false (aUn .not v84) fun v87 =>
 bindP (aPick v81 (.sc (.bool true)) v87) fun v88 =>
 guardP v88 false (aFad 1 v77) fun v89 =>
 guardP v88 false (aLd σ none v89) fun v90 =>
 guardP v88 false (aCvi .u64 v90) fun v91 =>
 guardP v88 false (some v4) fun v92 =>
 guardP v88 false (aCvi .u64 v92) fun v93 =>
 guardP v88 false (semBin .geq v91 v93) fun v94 =>
 bindP (aPick v88 (.sc (.bool true)) v94) fun v95 =>
 COND v95 (
 R (.ret (.sc (.bool false))) σ n) (
 bindP (aFad 0 v77) fun v96 =>
 bindP (aLd σ none v96) fun v97 =>
 bindS (hMup σ v37 v97 (.sc (.bool true))) σ n fun v98 σ n =>
 bindP (semBin .add (s73.getD 4 .any) (.sc (.int .i64 1))) fun v99 =>
 K73 [v74, v77, v95, (s73.getD 3 .any), v99] σ n)) (
 R (.ret (.sc (.bool true))) σ n)
def lb_catalog_May4 (v40 : AV) (v39 : AV) (v37 : AV) (R : AEnd → Hp → Nat → Prop) (v1 : AV) (v4 : AV) (K41 : List AV → Hp → Nat → Prop) (s41 : List AV) (σ : Hp) (n : Nat) : Prop :=
 bindP (semBin .lss (s41.getD 4 .any) v40) fun v42 =>
 COND v42 (
 bindP (aIad 3 v39 (s41.getD 4 .any)) fun v43 =>
 bindP (aLd σ (some 3) v43) fun v44 =>
 bindS (hAlloc n [(.string ⟨#[]⟩), (.int .i64 0), (.bool false)]) σ n fun v45 σ n =>
 bindS (hSt σ 3 v45 v44) σ n fun v46 σ n =>
 bindP (aFad 0 v45) fun v47 =>
 bindP (aLd σ none v47) fun v48 =>
 bindP (aLkp σ (.bool false) false v37 v48) fun v49 =>
 guardP v49 false (aFad 0 v45) fun v50 =>
 guardP v49 false (aLd σ none v50) fun v51 =>
 guardK v49 false (fun Kg => CALL Try.prog (.fn 123 []) [v51] σ n (kc_catalog_May1 Kg R)) σ n fun v52 σ n =>
 guardP v49 false (aUn .not v52) fun v55 =>
 bindP (aPick v49 (.sc (.bool true)) v55) fun v56 =>
 guardP v56 false (aFad 1 v45) fun v57 =>
 guardP v56 false (aLd σ none v57) fun v58 =>
 guardP v56 false (semBin .lss v58 (.sc (.int .i64 1))) fun v59 =>
 bindP (aPick v56 (.sc (.bool true)) v59) fun v60 =>
 guardP v60 false (aFad 1 v45) fun v61 =>
 guardP v60 false (aLd σ none v61) fun v62 =>
 guardP v60 false (semBin .gtr v62 (.sc (.int .i64 3))) fun v63 =>
 bindP (aPick v60 (.sc (.bool true)) v63) fun v64 =>
 COND v64 (
 R (.ret (.sc (.bool false))) σ n) (
 bindP (aFad 0 v45) fun v65 =>
 bindP (aLd σ none v65) fun v66 =>
 bindS (hMup σ v37 v66 (.sc (.bool true))) σ n fun v67 σ n =>
 bindP (semBin .add (s41.getD 4 .any) (.sc (.int .i64 1))) fun v68 =>
 K41 [v42, v45, v64, (s41.getD 3 .any), v68] σ n)) (
 bindS (hClm σ v37) σ n fun v69 σ n =>
 bindP (aFad 3 v1) fun v70 =>
 bindP (aLd σ none v70) fun v71 =>
 bindP (aLen false v71) fun v72 => bnd σ v71 →
 LOOP (lb_catalog_May3 v72 v71 v37 R v4) [(.tp []), (.tp []), (.tp []), (s41.getD 3 .any), (.sc (.int .i64 0))] σ n)
def kc_catalog_May5 (v4 : AV) (v1 : AV) (R : AEnd → Hp → Nat → Prop) (r : AEnd) (σ : Hp) (n : Nat) : Prop :=
 onEnd r (fun v7 =>
 bindP (aUn .not v7) fun v9 =>
 guardP v9 false (some v4) fun v10 =>
 guardP v9 false (semBin .lss v10 (.sc (.int .i64 1))) fun v11 =>
 bindP (aPick v9 (.sc (.bool true)) v11) fun v12 =>
 guardP v12 false (some v4) fun v13 =>
 guardP v12 false (semBin .gtr v13 (.sc (.int .i64 8))) fun v14 =>
 bindP (aPick v12 (.sc (.bool true)) v14) fun v15 =>
 guardP v15 false (aFad 3 v1) fun v16 =>
 guardP v15 false (aLd σ none v16) fun v17 =>
 guardP v15 false (aLen false v17) fun v18 =>
 guardP v15 false (semBin .gtr v18 (.sc (.int .i64 4))) fun v19 =>
 bindP (aPick v15 (.sc (.bool true)) v19) fun v20 =>
 guardP v20 false (aFad 2 v1) fun v21 =>
 guardP v20 false (aLd σ none v21) fun v22 =>
 guardP v20 false (aCvi .u64 v22) fun v23 =>
 guardP v20 false (some v4) fun v24 =>
 guardP v20 false (aCvi .u64 v24) fun v25 =>
 guardP v20 false (semBin .geq v23 v25) fun v26 =>
 bindP (aPick v20 (.sc (.bool true)) v26) fun v27 =>
 guardP v27 false (aFad 1 v1) fun v28 =>
 guardP v27 false (aLd σ none v28) fun v29 =>
 guardP v27 false (aFad 2 v1) fun v30 =>
 guardP v27 false (aLd σ none v30) fun v31 =>
 guardP v27 false (aIad 3 v29 v31) fun v32 =>
 guardP v27 false (aFad 2 v32) fun v33 =>
 guardP v27 false (aLd σ none v33) fun v34 =>
 guardP v27 false (aUn .not v34) fun v35 =>
 bindP (aPick v27 (.sc (.bool true)) v35) fun v36 =>
 COND v36 (
 R (.ret (.sc (.bool false))) σ n) (
 bindS (hMkm n) σ n fun v37 σ n =>
 bindP (aFad 1 v1) fun v38 =>
 bindP (aLd σ none v38) fun v39 =>
 bindP (aLen false v39) fun v40 => bnd σ v39 →
 LOOP (lb_catalog_May4 v40 v39 v37 R v1 v4) [(.tp []), (.tp []), (.tp []), (.sc (.bool false)), (.sc (.int .i64 0))] σ n)) (fun v8 => R (.pan v8) σ n)
attribute [go_sem] kc_catalog_May1 kc_catalog_May2 lb_catalog_May3 lb_catalog_May4 kc_catalog_May5
def sc_catalog_May : SCode := (.seq (.reg [
   ⟨(some 1), none, (.box (.t 0))⟩,
    ⟨(some 2), none, (.mv (.c (.sc (.bool false))))⟩]) (.seq (.reg [
   ⟨(some 9), none, (.fad 1 (.t 1))⟩,
    ⟨(some 10), none, (.ld none (.t 9))⟩,
    ⟨(some 11), none, (.len false (.t 10))⟩,
    ⟨(some 3), none, (.mv (.t 11))⟩]) (.seq (.seq (.reg [
   ⟨(some 12), none, (.fad 0 (.t 1))⟩,
    ⟨(some 13), none, (.ld none (.t 12))⟩,
    ⟨(some 14), none, (.call (.c (.fn 123 [])) [(.t 13)])⟩,
    ⟨(some 15), none, (.un .not (.t 14))⟩,
    ⟨(some 16), none, (.mv (.t 15))⟩,
    ⟨(some 17), (some (16, false)), (.mv (.t 3))⟩,
    ⟨(some 18), (some (16, false)), (.bin .lss (.t 17) (.c (.sc (.int .i64 1))))⟩,
    ⟨(some 19), none, (.pick (.t 16) (.c (.sc (.bool true))) (.t 18))⟩,
    ⟨(some 20), none, (.mv (.t 19))⟩,
    ⟨(some 21), (some (20, false)), (.mv (.t 3))⟩,
    ⟨(some 22), (some (20, false)), (.bin .gtr (.t 21) (.c (.sc (.int .i64 8))))⟩,
    ⟨(some 23), none, (.pick (.t 20) (.c (.sc (.bool true))) (.t 22))⟩,
    ⟨(some 24), none, (.mv (.t 23))⟩,
    ⟨(some 25), (some (24, false)), (.fad 3 (.t 1))⟩,
    ⟨(some 26), (some (24, false)), (.ld none (.t 25))⟩,
    ⟨(some 27), (some (24, false)), (.len false (.t 26))⟩,
    ⟨(some 28), (some (24, false)), (.bin .gtr (.t 27) (.c (.sc (.int .i64 4))))⟩,
    ⟨(some 29), none, (.pick (.t 24) (.c (.sc (.bool true))) (.t 28))⟩,
    ⟨(some 30), none, (.mv (.t 29))⟩,
    ⟨(some 31), (some (30, false)), (.fad 2 (.t 1))⟩,
    ⟨(some 32), (some (30, false)), (.ld none (.t 31))⟩,
    ⟨(some 33), (some (30, false)), (.cvi .u64 (.t 32))⟩,
    ⟨(some 34), (some (30, false)), (.mv (.t 3))⟩,
    ⟨(some 35), (some (30, false)), (.cvi .u64 (.t 34))⟩,
    ⟨(some 36), (some (30, false)), (.bin .geq (.t 33) (.t 35))⟩,
    ⟨(some 37), none, (.pick (.t 30) (.c (.sc (.bool true))) (.t 36))⟩,
    ⟨(some 38), none, (.mv (.t 37))⟩,
    ⟨(some 39), (some (38, false)), (.fad 1 (.t 1))⟩,
    ⟨(some 40), (some (38, false)), (.ld none (.t 39))⟩,
    ⟨(some 41), (some (38, false)), (.fad 2 (.t 1))⟩,
    ⟨(some 42), (some (38, false)), (.ld none (.t 41))⟩,
    ⟨(some 43), (some (38, false)), (.iad 3 (.t 40) (.t 42))⟩,
    ⟨(some 44), (some (38, false)), (.fad 2 (.t 43))⟩,
    ⟨(some 45), (some (38, false)), (.ld none (.t 44))⟩,
    ⟨(some 46), (some (38, false)), (.un .not (.t 45))⟩,
    ⟨(some 47), none, (.pick (.t 38) (.c (.sc (.bool true))) (.t 46))⟩]) (.cond (.t 47) (.seq (.reg [
   ⟨(some 2), none, (.mv (.c (.sc (.bool false))))⟩]) .ret) .skip)) (.seq (.reg [
   ⟨(some 48), none, .mkm⟩,
    ⟨(some 4), none, (.mv (.t 48))⟩]) (.seq (.seq (.reg [
   ⟨(some 49), none, (.fad 1 (.t 1))⟩,
    ⟨(some 50), none, (.ld none (.t 49))⟩,
    ⟨(some 51), none, (.len false (.t 50))⟩,
    ⟨(some 52), none, (.mv (.c (.sc (.int .i64 0))))⟩]) (.block 0 (.loop [53, 6, 75, 2, 52] [53, 54, 55, 6, 56, 57, 58, 59, 60, 61, 62, 63, 64, 65, 66, 67, 68, 69, 70, 71, 72, 73, 74, 75, 2, 76, 77, 78, 79, 52] (.seq (.reg [
   ⟨(some 53), none, (.bin .lss (.t 52) (.t 51))⟩]) (.seq (.cond (.t 53) .skip (.exit 0)) (.seq (.block 1 (.seq (.reg [
   ⟨(some 54), none, (.iad 3 (.t 50) (.t 52))⟩,
    ⟨(some 55), none, (.ld (some 3) (.t 54))⟩,
    ⟨(some 6), none, (.alloc [(.string ⟨#[]⟩), (.int .i64 0), (.bool false)])⟩,
    ⟨none, none, (.st 3 (.t 6) (.t 55))⟩]) (.seq (.seq (.reg [
   ⟨(some 56), none, (.mv (.t 4))⟩,
    ⟨(some 57), none, (.fad 0 (.t 6))⟩,
    ⟨(some 58), none, (.ld none (.t 57))⟩,
    ⟨(some 59), none, (.lkp (.bool false) false (.t 56) (.t 58))⟩,
    ⟨(some 60), none, (.mv (.t 59))⟩,
    ⟨(some 61), (some (60, false)), (.fad 0 (.t 6))⟩,
    ⟨(some 62), (some (60, false)), (.ld none (.t 61))⟩,
    ⟨(some 63), (some (60, false)), (.call (.c (.fn 123 [])) [(.t 62)])⟩,
    ⟨(some 64), (some (60, false)), (.un .not (.t 63))⟩,
    ⟨(some 65), none, (.pick (.t 60) (.c (.sc (.bool true))) (.t 64))⟩,
    ⟨(some 66), none, (.mv (.t 65))⟩,
    ⟨(some 67), (some (66, false)), (.fad 1 (.t 6))⟩,
    ⟨(some 68), (some (66, false)), (.ld none (.t 67))⟩,
    ⟨(some 69), (some (66, false)), (.bin .lss (.t 68) (.c (.sc (.int .i64 1))))⟩,
    ⟨(some 70), none, (.pick (.t 66) (.c (.sc (.bool true))) (.t 69))⟩,
    ⟨(some 71), none, (.mv (.t 70))⟩,
    ⟨(some 72), (some (71, false)), (.fad 1 (.t 6))⟩,
    ⟨(some 73), (some (71, false)), (.ld none (.t 72))⟩,
    ⟨(some 74), (some (71, false)), (.bin .gtr (.t 73) (.c (.sc (.int .i64 3))))⟩,
    ⟨(some 75), none, (.pick (.t 71) (.c (.sc (.bool true))) (.t 74))⟩]) (.cond (.t 75) (.seq (.reg [
   ⟨(some 2), none, (.mv (.c (.sc (.bool false))))⟩]) .ret) .skip)) (.reg [
   ⟨(some 76), none, (.mv (.t 4))⟩,
    ⟨(some 77), none, (.fad 0 (.t 6))⟩,
    ⟨(some 78), none, (.ld none (.t 77))⟩,
    ⟨none, none, (.mup (.t 76) (.t 78) (.c (.sc (.bool true))))⟩])))) (.reg [
   ⟨(some 79), none, (.bin .add (.t 52) (.c (.sc (.int .i64 1))))⟩,
    ⟨(some 52), none, (.mv (.t 79))⟩]))))))) (.seq (.reg [
   ⟨(some 80), none, (.mv (.t 4))⟩,
    ⟨none, none, (.clm (.t 80))⟩]) (.seq (.seq (.reg [
   ⟨(some 81), none, (.fad 3 (.t 1))⟩,
    ⟨(some 82), none, (.ld none (.t 81))⟩,
    ⟨(some 83), none, (.len false (.t 82))⟩,
    ⟨(some 84), none, (.mv (.c (.sc (.int .i64 0))))⟩]) (.block 2 (.loop [85, 8, 105, 2, 84] [85, 86, 87, 8, 88, 89, 90, 91, 92, 93, 94, 95, 96, 97, 98, 99, 100, 101, 102, 103, 104, 105, 2, 106, 107, 108, 109, 84] (.seq (.reg [
   ⟨(some 85), none, (.bin .lss (.t 84) (.t 83))⟩]) (.seq (.cond (.t 85) .skip (.exit 2)) (.seq (.block 3 (.seq (.reg [
   ⟨(some 86), none, (.iad 2 (.t 82) (.t 84))⟩,
    ⟨(some 87), none, (.ld (some 2) (.t 86))⟩,
    ⟨(some 8), none, (.alloc [(.string ⟨#[]⟩), (.int .i64 0)])⟩,
    ⟨none, none, (.st 2 (.t 8) (.t 87))⟩]) (.seq (.seq (.reg [
   ⟨(some 88), none, (.mv (.t 4))⟩,
    ⟨(some 89), none, (.fad 0 (.t 8))⟩,
    ⟨(some 90), none, (.ld none (.t 89))⟩,
    ⟨(some 91), none, (.lkp (.bool false) false (.t 88) (.t 90))⟩,
    ⟨(some 92), none, (.mv (.t 91))⟩,
    ⟨(some 93), (some (92, false)), (.fad 0 (.t 8))⟩,
    ⟨(some 94), (some (92, false)), (.ld none (.t 93))⟩,
    ⟨(some 95), (some (92, false)), (.call (.c (.fn 123 [])) [(.t 94)])⟩,
    ⟨(some 96), (some (92, false)), (.un .not (.t 95))⟩,
    ⟨(some 97), none, (.pick (.t 92) (.c (.sc (.bool true))) (.t 96))⟩,
    ⟨(some 98), none, (.mv (.t 97))⟩,
    ⟨(some 99), (some (98, false)), (.fad 1 (.t 8))⟩,
    ⟨(some 100), (some (98, false)), (.ld none (.t 99))⟩,
    ⟨(some 101), (some (98, false)), (.cvi .u64 (.t 100))⟩,
    ⟨(some 102), (some (98, false)), (.mv (.t 3))⟩,
    ⟨(some 103), (some (98, false)), (.cvi .u64 (.t 102))⟩,
    ⟨(some 104), (some (98, false)), (.bin .geq (.t 101) (.t 103))⟩,
    ⟨(some 105), none, (.pick (.t 98) (.c (.sc (.bool true))) (.t 104))⟩]) (.cond (.t 105) (.seq (.reg [
   ⟨(some 2), none, (.mv (.c (.sc (.bool false))))⟩]) .ret) .skip)) (.reg [
   ⟨(some 106), none, (.mv (.t 4))⟩,
    ⟨(some 107), none, (.fad 0 (.t 8))⟩,
    ⟨(some 108), none, (.ld none (.t 107))⟩,
    ⟨none, none, (.mup (.t 106) (.t 108) (.c (.sc (.bool true))))⟩])))) (.reg [
   ⟨(some 109), none, (.bin .add (.t 84) (.c (.sc (.int .i64 1))))⟩,
    ⟨(some 84), none, (.mv (.t 109))⟩]))))))) (.seq (.reg [
   ⟨(some 2), none, (.mv (.c (.sc (.bool true))))⟩]) .ret))))))))
def sh_catalog_May (a0 : AV) (σ : Hp) (n : Nat) (R : AEnd → Hp → Nat → Prop) : Prop :=
 bindS (hBox n a0) σ n fun v1 σ n =>
 bindP (aFad 1 v1) fun v2 =>
 bindP (aLd σ none v2) fun v3 =>
 bindP (aLen false v3) fun v4 => bnd σ v3 →
 bindP (aFad 0 v1) fun v5 =>
 bindP (aLd σ none v5) fun v6 =>
 CALL Try.prog (.fn 123 []) [v6] σ n (kc_catalog_May5 v4 v1 R)
theorem se_catalog_May (a0 : AV) (σ : Hp) (n : Nat) (R : AEnd → Hp → Nat → Prop) : sh_catalog_May a0 σ n R = swp Try.prog sc_catalog_May (retQ [(.t 2)] R) (entry [a0]) σ n := by kernel_rfl
theorem by_catalog_May {a0 : AV} {σ : Hp} {n : Nat} {R : AEnd → Hp → Nat → Prop} (h : sh_catalog_May a0 σ n R) : ConH Try.prog 75 [a0] σ n R := by
  rw [se_catalog_May] at h
  exact conH_of [(.t 2)] (fn := Try.f75) rfl [0, 47, 51, 53, 50, 75, 6, 52, 1, 83, 85, 82, 3, 105, 4, 8, 84, 2] (by kernel_rfl) (by kernel_rfl) (by kernel_rfl) (by kernel_rfl) h
/-- cmp.Compare[string] -/
def kc_cmp_Compare_string1 (v1 : AV) (R : AEnd → Hp → Nat → Prop) (a0 : AV) (a1 : AV) (r : AEnd) (σ : Hp) (n : Nat) : Prop :=
 onEnd r (fun v3 =>
 COND v1 (
 COND v3 (
 R (.ret (.sc (.int .i64 0))) σ n) (
 R (.ret (.sc (.int .i64 (-1)))) σ n)) (
 COND v3 (
 R (.ret (.sc (.int .i64 1))) σ n) (
 bindP (semBin .lss a0 a1) fun v5 =>
 COND v5 (
 R (.ret (.sc (.int .i64 (-1)))) σ n) (
 bindP (semBin .gtr a0 a1) fun v6 =>
 COND v6 (
 R (.ret (.sc (.int .i64 1))) σ n) (
 R (.ret (.sc (.int .i64 0))) σ n))))) (fun v4 => R (.pan v4) σ n)
def kc_cmp_Compare_string2 (a1 : AV) (R : AEnd → Hp → Nat → Prop) (a0 : AV) (r : AEnd) (σ : Hp) (n : Nat) : Prop :=
 onEnd r (fun v1 =>
 CALL Try.prog (.fn 154 []) [a1] σ n (kc_cmp_Compare_string1 v1 R a0 a1)) (fun v2 => R (.pan v2) σ n)
attribute [go_sem] kc_cmp_Compare_string1 kc_cmp_Compare_string2
def sc_cmp_Compare_string : SCode := (.seq (.reg [
   ⟨(some 4), none, (.mv (.c (.sc (.int .i64 0))))⟩]) (.seq (.reg [
   ⟨(some 7), none, (.mv (.t 0))⟩,
    ⟨(some 8), none, (.call (.c (.fn 154 [])) [(.t 7)])⟩,
    ⟨(some 5), none, (.mv (.t 8))⟩]) (.seq (.reg [
   ⟨(some 9), none, (.mv (.t 1))⟩,
    ⟨(some 10), none, (.call (.c (.fn 154 [])) [(.t 9)])⟩,
    ⟨(some 6), none, (.mv (.t 10))⟩]) (.seq (.seq (.reg [
   ⟨(some 11), none, (.mv (.t 5))⟩]) (.cond (.t 11) (.seq (.seq (.reg [
   ⟨(some 12), none, (.mv (.t 6))⟩]) (.cond (.t 12) (.seq (.reg [
   ⟨(some 4), none, (.mv (.c (.sc (.int .i64 0))))⟩]) .ret) .skip)) (.seq (.reg [
   ⟨(some 4), none, (.mv (.c (.sc (.int .i64 (-1)))))⟩]) .ret)) .skip)) (.seq (.seq (.reg [
   ⟨(some 13), none, (.mv (.t 6))⟩]) (.cond (.t 13) (.seq (.reg [
   ⟨(some 4), none, (.mv (.c (.sc (.int .i64 1))))⟩]) .ret) .skip)) (.seq (.seq (.reg [
   ⟨(some 14), none, (.mv (.t 0))⟩,
    ⟨(some 15), none, (.mv (.t 1))⟩,
    ⟨(some 16), none, (.bin .lss (.t 14) (.t 15))⟩]) (.cond (.t 16) (.seq (.reg [
   ⟨(some 4), none, (.mv (.c (.sc (.int .i64 (-1)))))⟩]) .ret) .skip)) (.seq (.seq (.reg [
   ⟨(some 17), none, (.mv (.t 0))⟩,
    ⟨(some 18), none, (.mv (.t 1))⟩,
    ⟨(some 19), none, (.bin .gtr (.t 17) (.t 18))⟩]) (.cond (.t 19) (.seq (.reg [
   ⟨(some 4), none, (.mv (.c (.sc (.int .i64 1))))⟩]) .ret) .skip)) (.seq (.reg [
   ⟨(some 4), none, (.mv (.c (.sc (.int .i64 0))))⟩]) .ret))))))))
def sh_cmp_Compare_string (a0 a1 : AV) (σ : Hp) (n : Nat) (R : AEnd → Hp → Nat → Prop) : Prop :=
 CALL Try.prog (.fn 154 []) [a0] σ n (kc_cmp_Compare_string2 a1 R a0)
theorem se_cmp_Compare_string (a0 a1 : AV) (σ : Hp) (n : Nat) (R : AEnd → Hp → Nat → Prop) : sh_cmp_Compare_string a0 a1 σ n R = swp Try.prog sc_cmp_Compare_string (retQ [(.t 4)] R) (entry [a0, a1]) σ n := by kernel_rfl
theorem by_cmp_Compare_string {a0 a1 : AV} {σ : Hp} {n : Nat} {R : AEnd → Hp → Nat → Prop} (h : sh_cmp_Compare_string a0 a1 σ n R) : ConH Try.prog 112 [a0, a1] σ n R := by
  rw [se_cmp_Compare_string] at h
  exact conH_of [(.t 4)] (fn := Try.f112) rfl [5, 11, 12, 6, 13, 16, 0, 1, 19, 4] (by kernel_rfl) (by kernel_rfl) (by kernel_rfl) (by kernel_rfl) h
/-- cmp.isNaN[string] -/
def sc_cmp_isNaN_string : SCode := (.seq (.reg [
   ⟨(some 2), none, (.mv (.c (.sc (.bool false))))⟩]) (.seq (.reg [
   ⟨(some 3), none, (.mv (.t 0))⟩,
    ⟨(some 4), none, (.mv (.t 0))⟩,
    ⟨(some 5), none, (.bin .neq (.t 3) (.t 4))⟩,
    ⟨(some 2), none, (.mv (.t 5))⟩]) .ret))
def sh_cmp_isNaN_string (a0 : AV) (σ : Hp) (n : Nat) (R : AEnd → Hp → Nat → Prop) : Prop :=
 bindP (semBin .neq a0 a0) fun v1 =>
 R (.ret v1) σ n
theorem se_cmp_isNaN_string (a0 : AV) (σ : Hp) (n : Nat) (R : AEnd → Hp → Nat → Prop) : sh_cmp_isNaN_string a0 σ n R = swp Try.prog sc_cmp_isNaN_string (retQ [(.t 2)] R) (entry [a0]) σ n := by kernel_rfl
theorem by_cmp_isNaN_string {a0 : AV} {σ : Hp} {n : Nat} {R : AEnd → Hp → Nat → Prop} (h : sh_cmp_isNaN_string a0 σ n R) : ConH Try.prog 154 [a0] σ n R := by
  rw [se_cmp_isNaN_string] at h
  exact conH_of [(.t 2)] (fn := Try.f154) rfl [0, 2] (by kernel_rfl) (by kernel_rfl) (by kernel_rfl) (by kernel_rfl) h
end Go.Proofs.Ytlhnncmflnjinaa
