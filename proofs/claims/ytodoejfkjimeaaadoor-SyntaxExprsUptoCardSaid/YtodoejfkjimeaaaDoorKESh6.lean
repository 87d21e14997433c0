/- Packed by a program of this repo: Sh6. -/
import Derived.Test.YtodoejfkjimeaaaDoorKEMs
import Derived.Test.YtodoejfkjimeaaaDoorProg
set_option linter.unusedVariables false
set_option maxRecDepth 8000
namespace Go.Proofs.YtodoejfkjimeaaaDoor
open Go Am
/-- switchback/syntax.Check -/
def as_syntax_Check_1 : Code := (.region 6 #[⟨(some 3), (.alloc 26), 0, "syntax.go:167", #[], none⟩, ⟨none, (.store 26 (.tmp 3) (.tmp 17)), 0, "syntax.go:167", #[⟨0, .data⟩, ⟨0, .phase⟩], none⟩] false)
def bo_syntax_Check_1 : Code := (.block 1 (.seq (.region 7 #[⟨(some 18), (.load 26 (.tmp 3)), 26, "syntax.go:168", #[], none⟩, ⟨(some 19), (.call ⟨(.value (.func 14)), #[(.tmp 18)], #[26]⟩), 28, "syntax.go:168", #[⟨0, .data⟩], none⟩, ⟨(some 4), (.assign (.tmp 19)), 28, "syntax.go:168", #[⟨1, .data⟩, ⟨1, .chain⟩, ⟨0, .phase⟩, ⟨1, .phase⟩], none⟩] false) (.seq (.region 8 #[⟨(some 20), (.move (.tmp 4)), 28, "syntax.go:168", #[], none⟩, ⟨(some 21), (.binOp .neq 28 (.tmp 20) (.const (.int .i64 0)) 28), 4, "syntax.go:168", #[⟨0, .data⟩], none⟩] false) (.cond (.tmp 21) (.seq (.region 9 #[⟨(some 22), (.move (.tmp 4)), 28, "syntax.go:169", #[], none⟩, ⟨none, (.store 28 (.tmp 2) (.tmp 22)), 0, "syntax.go:169", #[⟨0, .data⟩, ⟨0, .phase⟩], none⟩] false) .ret) .skip))))
def rk_syntax_Check1 (v1 : AV) (v2 : AV) (q18 : Nat) (R : AEnd → Hp → Nat → Prop) (σ : Hp) (n : Nat) : Prop :=
 bindP (aFad 11 v1) fun v19 =>
 bindP (aLd σ none v19) fun v20 =>
 bindP (aLen false v20) fun v21 => bnd σ v20 →
 bindP (semBin .gtr v21 (.sc (.int .i64 0))) fun v22 =>
 guardP v22 true (aFad 11 v1) fun v23 =>
 guardP v22 true (aLd σ none v23) fun v24 =>
 guardP v22 true (aIad 7 v24 (.sc (.int .i64 0))) fun v25 =>
 guardP v22 true (aFad 0 v25) fun v26 =>
 guardP v22 true (aLd σ none v26) fun v27 =>
 guardP v22 true (semBin .neq v27 (.sc (.int .i64 1))) fun v28 =>
 bindP (aPick v22 v28 (.sc (.bool false))) fun v29 =>
 COND v29 (
 bindS (hSt σ 1 v2 (.sc (.int .i64 9))) σ n fun v30 σ n =>
 σ q18 = some (.df true true) ∧ (fun σ =>
 bindP (aLd σ none v2) fun v31 =>
 R (.ret v31) σ n) (upd σ q18 none)) (
 bindS (hSt σ 1 v2 (.sc (.int .i64 0))) σ n fun v32 σ n =>
 σ q18 = some (.df true true) ∧ (fun σ =>
 bindP (aLd σ none v2) fun v33 =>
 R (.ret v33) σ n) (upd σ q18 none))
def rr_syntax_Check2 (q18 : Nat) (v2 : AV) (R : AEnd → Hp → Nat → Prop) (σ : Hp) (n : Nat) : Prop :=
 σ q18 = some (.df true true) ∧ (fun σ =>
 bindP (aLd σ none v2) fun v34 =>
 R (.ret v34) σ n) (upd σ q18 none)
def kc_syntax_Check3 (v2 : AV) (R : AEnd → Hp → Nat → Prop) (v1 : AV) (r : AEnd) (σ : Hp) (n : Nat) : Prop :=
 onEnd r (fun v13 =>
 bindP (aUn .not v13) fun v15 =>
 COND v15 (
 bindS (hSt σ 1 v2 (.sc (.int .i64 9))) σ n fun v16 σ n =>
 bindP (aLd σ none v2) fun v17 =>
 R (.ret v17) σ n) (
 (fun q18 => ∀ fnid, RNG Tryd.prog (.fn 57 [v1]) ⟨fnid, #[17], as_syntax_Check_1, bo_syntax_Check_1, q18⟩ (keepR [16, 17, 3, 21, 4, 1, 34, 2] [(.fn 57 [v1]), (.tp []), (.tp []), (.tp []), (.tp []), v1, (.tp []), v2]) 35 σ q18 (rngS 0 (rk_syntax_Check1 v1 v2 q18 R) (rr_syntax_Check2 q18 v2 R))) n)) (fun v14 => R (.pan v14) σ n)
attribute [go_sem] rk_syntax_Check1 rr_syntax_Check2 kc_syntax_Check3
def sp_syntax_Check : Spn := (.st (.reg [⟨(some 1), none, (.box (.t 0))⟩, ⟨(some 2), none, (.alloc [(.int .i64 0)])⟩]) (.st (.seq (.reg [⟨(some 5), none, (.fad 0 (.t 1))⟩, ⟨(some 6), none, (.ld none (.t 5))⟩, ⟨(some 7), none, (.bin .lss (.t 6) (.c (.sc (.int .i64 1))))⟩, ⟨(some 8), none, (.mv (.t 7))⟩, ⟨(some 9), (some (8, false)), (.fad 0 (.t 1))⟩, ⟨(some 10), (some (8, false)), (.ld none (.t 9))⟩, ⟨(some 11), (some (8, false)), (.bin .gtr (.t 10) (.c (.sc (.int .i64 10))))⟩, ⟨(some 12), none, (.pick (.t 8) (.c (.sc (.bool true))) (.t 11))⟩]) (.cond (.t 12) (.seq (.reg [⟨none, none, (.st 1 (.t 2) (.c (.sc (.int .i64 22))))⟩]) .ret) .skip)) (.st (.seq (.reg [⟨(some 13), none, (.ld (some 14) (.t 1))⟩, ⟨(some 14), none, (.call (.c (.fn 56 [])) [(.t 13)])⟩, ⟨(some 15), none, (.un .not (.t 14))⟩]) (.cond (.t 15) (.seq (.reg [⟨none, none, (.st 1 (.t 2) (.c (.sc (.int .i64 9))))⟩]) .ret) .skip)) (.st (.reg [⟨(some 16), none, (.mkf 57 [(.t 1)])⟩]) (.rng 0 (.t 16) [16, 17, 3, 21, 4, 1, 34, 2] #[17] as_syntax_Check_1 bo_syntax_Check_1 (.fin (.seq (.seq (.reg [⟨(some 23), none, (.fad 11 (.t 1))⟩, ⟨(some 24), none, (.ld none (.t 23))⟩, ⟨(some 25), none, (.len false (.t 24))⟩, ⟨(some 26), none, (.bin .gtr (.t 25) (.c (.sc (.int .i64 0))))⟩, ⟨(some 27), none, (.mv (.t 26))⟩, ⟨(some 28), (some (27, true)), (.fad 11 (.t 1))⟩, ⟨(some 29), (some (27, true)), (.ld none (.t 28))⟩, ⟨(some 30), (some (27, true)), (.iad 7 (.t 29) (.c (.sc (.int .i64 0))))⟩, ⟨(some 31), (some (27, true)), (.fad 0 (.t 30))⟩, ⟨(some 32), (some (27, true)), (.ld none (.t 31))⟩, ⟨(some 33), (some (27, true)), (.bin .neq (.t 32) (.c (.sc (.int .i64 1))))⟩, ⟨(some 34), none, (.pick (.t 27) (.t 33) (.c (.sc (.bool false))))⟩]) (.cond (.t 34) (.seq (.reg [⟨none, none, (.st 1 (.t 2) (.c (.sc (.int .i64 9))))⟩]) .ret) .skip)) (.seq (.reg [⟨none, none, (.st 1 (.t 2) (.c (.sc (.int .i64 0))))⟩]) .ret))))))))
def sh_syntax_Check (a0 : AV) (σ : Hp) (n : Nat) (R : AEnd → Hp → Nat → Prop) : Prop :=
 bindS (hBox n a0) σ n fun v1 σ n =>
 bindS (hAlloc n [(.int .i64 0)]) σ n fun v2 σ n =>
 bindP (aFad 0 v1) fun v3 =>
 bindP (aLd σ none v3) fun v4 =>
 bindP (semBin .lss v4 (.sc (.int .i64 1))) fun v5 =>
 guardP v5 false (aFad 0 v1) fun v6 =>
 guardP v5 false (aLd σ none v6) fun v7 =>
 guardP v5 false (semBin .gtr v7 (.sc (.int .i64 10))) fun v8 =>
 bindP (aPick v5 (.sc (.bool true)) v8) fun v9 =>
 COND v9 (
 bindS (hSt σ 1 v2 (.sc (.int .i64 22))) σ n fun v10 σ n =>
 bindP (aLd σ none v2) fun v11 =>
 R (.ret v11) σ n) (
 bindP (aLd σ (some 14) v1) fun v12 =>
 CALL Tryd.prog (.fn 56 []) [v12] σ n (kc_syntax_Check3 v2 R v1))
theorem se_syntax_Check (a0 : AV) (σ : Hp) (n : Nat) (R : AEnd → Hp → Nat → Prop) : sh_syntax_Check a0 σ n R = swpR Tryd.prog 35 sp_syntax_Check (retQ [(.c 2 none)] R) (entry [a0]) σ n := by kernel_rfl
theorem by_syntax_Check {a0 : AV} {σ : Hp} {n : Nat} {R : AEnd → Hp → Nat → Prop} (h : sh_syntax_Check a0 σ n R) : ConH Tryd.prog 26 [a0] σ n R := by
  rw [se_syntax_Check] at h
  exact conH_ofR [(.c 2 none)] (fn := Tryd.f26) rfl [0, 12, 15, 16, 17, 3, 21, 4, 1, 34, 2] (sp := sp_syntax_Check) (by kernel_rfl) (by kernel_rfl) (by kernel_rfl) (by kernel_rfl) h
def kc_syntax_Check_11 (a8 : AV) (y : Nat) (L : Lp) (gr : Regs) (R : AEnd → Hp → Nat → Prop) (r : AEnd) (σ : Hp) (n : Nat) : Prop :=
 onEnd r (fun v4 =>
 bindP (semBin .neq v4 (.sc (.int .i64 0))) fun v6 =>
 COND v6 (
 bindS (hSt σ 1 a8 v4) σ n fun v7 σ n =>
 σ y = some (.lp L gr 35 .busy none true) ∧ R (.ret (bb false)) (upd σ y (some (.lp L gr 35 .done (some .ret) true))) n) (
 σ y = some (.lp L gr 35 .busy none true) ∧ R (.ret (bb true)) (upd σ y (some (.lp L gr 35 .ready none true))) n)) (fun v5 => False)
attribute [go_sem] kc_syntax_Check_11
def sa_syntax_Check_1 : SCode := (.reg [
   ⟨(some 3), none, (.alloc [(.int .i64 0), (.int .i64 0), (.int .i64 0), (.string ⟨#[]⟩), (.string ⟨#[]⟩), (.string ⟨#[]⟩), (.slice none 0 0)])⟩,
    ⟨none, none, (.st 7 (.t 3) (.t 17))⟩])
def sb_syntax_Check_1 : SCode := (.block 1 (.seq (.reg [
   ⟨(some 18), none, (.ld (some 7) (.t 3))⟩,
    ⟨(some 19), none, (.call (.c (.fn 14 [])) [(.t 18)])⟩,
    ⟨(some 4), none, (.mv (.t 19))⟩]) (.seq (.reg [
   ⟨(some 20), none, (.mv (.t 4))⟩,
    ⟨(some 21), none, (.bin .neq (.t 20) (.c (.sc (.int .i64 0))))⟩]) (.cond (.t 21) (.seq (.reg [
   ⟨(some 22), none, (.mv (.t 4))⟩,
    ⟨none, none, (.st 1 (.t 2) (.t 22))⟩]) .ret) .skip))))
def shr_syntax_Check_1 (a0 a1 a2 a3 a4 a5 a6 a7 a8 : AV) (gr : Regs) (L : Lp) (y : Nat) (σ : Hp) (n : Nat) (R : AEnd → Hp → Nat → Prop) : Prop :=
 bindS (hAlloc n [(.int .i64 0), (.int .i64 0), (.int .i64 0), (.string ⟨#[]⟩), (.string ⟨#[]⟩), (.string ⟨#[]⟩), (.slice none 0 0)]) σ n fun v1 σ n =>
 bindS (hSt σ 7 v1 a0) σ n fun v2 σ n =>
 σ y = some (.lp L gr 35 .ready none true) ∧ (fun σ =>
 bindP (aLd σ (some 7) v1) fun v3 =>
 CALL Tryd.prog (.fn 14 []) [v3] σ n (kc_syntax_Check_11 a8 y L gr R)) (upd σ y (some (.lp L gr 35 .busy none true)))
theorem ser_syntax_Check_1 (a0 a1 a2 a3 a4 a5 a6 a7 a8 : AV) (gr : Regs) (L : Lp) (y : Nat) (σ : Hp) (n : Nat) (R : AEnd → Hp → Nat → Prop) : shr_syntax_Check_1 a0 a1 a2 a3 a4 a5 a6 a7 a8 gr L y σ n R = swp Tryd.prog sa_syntax_Check_1 (rndA Tryd.prog y L gr 35 sb_syntax_Check_1 R) (keepR [17, 16, 17, 3, 21, 4, 1, 34, 2] [a0, a1, a2, a3, a4, a5, a6, a7, a8]) σ n := by kernel_rfl
theorem byr_syntax_Check_1 {a0 a1 a2 a3 a4 a5 a6 a7 a8 : AV} {fnid : FuncId} {d y : Nat} {σ : Hp} {n : Nat} {R : AEnd → Hp → Nat → Prop} (hy : σ y = some (.lp ⟨fnid, #[17], as_syntax_Check_1, bo_syntax_Check_1, d⟩ (keepR [16, 17, 3, 21, 4, 1, 34, 2] [a1, a2, a3, a4, a5, a6, a7, a8]) 35 .ready none true)) (h : shr_syntax_Check_1 a0 a1 a2 a3 a4 a5 a6 a7 a8 (keepR [16, 17, 3, 21, 4, 1, 34, 2] [a1, a2, a3, a4, a5, a6, a7, a8]) ⟨fnid, #[17], as_syntax_Check_1, bo_syntax_Check_1, d⟩ y σ n R) : YCon Tryd.prog y [a0] σ n R := by
  rw [ser_syntax_Check_1] at h
  exact ycon_at (X := [0, 12, 15, 16, 17, 3, 21, 4, 1, 34, 2]) hy rfl (by kernel_rfl) (by kernel_rfl) (by kernel_rfl) h
end Go.Proofs.YtodoejfkjimeaaaDoor
