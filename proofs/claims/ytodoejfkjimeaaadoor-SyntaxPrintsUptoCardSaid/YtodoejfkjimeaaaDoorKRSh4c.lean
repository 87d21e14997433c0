/- Packed by a program of this repo: Sh4c. -/
import Derived.Test.YtodoejfkjimeaaaDoorKRMs
import Derived.Test.YtodoejfkjimeaaaDoorProg
set_option linter.unusedVariables false
set_option maxRecDepth 8000
namespace Go.Proofs.YtodoejfkjimeaaaDoor
open Go Am
def kc_pstrings_Builder_WriteString1 (a0 : AV) (a1 : AV) (R : AEnd → Hp → Nat → Prop) (r : AEnd) (σ : Hp) (n : Nat) : Prop :=
 onEnd r (fun v1 =>
 bindP (aNck a0) fun v3 =>
 bindP (aFad 1 v3) fun v4 =>
 bindP (aLd σ none v4) fun v5 =>
 bindS (hAps σ n 1 v5 a1) σ n fun v6 σ n =>
 bindP (aNck a0) fun v7 =>
 bindP (aFad 1 v7) fun v8 =>
 bindS (hSt σ 1 v8 v6) σ n fun v9 σ n =>
 bindP (aLen true a1) fun v10 => bnd σ a1 →
 R (.ret (.tp [v10, (.sc .nilIface)])) σ n) (fun v2 => R (.pan v2) σ n)
attribute [go_sem] kc_pstrings_Builder_WriteString1
def sc_pstrings_Builder_WriteString : SCode := (.seq (.reg [ ⟨some 4,none,.mv (.c (.sc (.int .i64 0)))⟩,⟨some 5,none,.mv (.c (.sc .nilIface))⟩]) (.seq (.reg [ ⟨some 6,none,.mv (.t 0)⟩,⟨some 7,none,.call (.c (.fn 126 [])) [(.t 6)]⟩]) (.seq (.reg [ ⟨some 8,none,.mv (.t 0)⟩,⟨some 9,none,.mv (.t 0)⟩,⟨some 10,none,.nck (.t 9)⟩,⟨some 11,none,.fad 1 (.t 10)⟩,⟨some 12,none,.ld none (.t 11)⟩,⟨some 13,none,.mv (.t 1)⟩,⟨some 14,none,.aps 1 (.t 12) (.t 13)⟩,⟨some 15,none,.nck (.t 8)⟩,⟨some 16,none,.fad 1 (.t 15)⟩,⟨none,none,(.st 1 (.t 16) (.t 14))⟩]) (.seq (.reg [ ⟨some 17,none,.mv (.t 1)⟩,⟨some 18,none,.len true (.t 17)⟩,⟨some 4,none,.mv (.t 18)⟩,⟨some 5,none,.mv (.c (.sc .nilIface))⟩]) .ret))))
def sh_pstrings_Builder_WriteString (a0 a1 : AV) (σ : Hp) (n : Nat) (R : AEnd → Hp → Nat → Prop) : Prop :=
 CALL Tryd.prog (.fn 126 []) [a0] σ n (kc_pstrings_Builder_WriteString1 a0 a1 R)
theorem se_pstrings_Builder_WriteString (a0 a1 : AV) (σ : Hp) (n : Nat) (R : AEnd → Hp → Nat → Prop) : sh_pstrings_Builder_WriteString a0 a1 σ n R = swp Tryd.prog sc_pstrings_Builder_WriteString (retQ [(.t 4), (.t 5)] R) (entry [a0, a1]) σ n := by kernel_rfl
theorem by_pstrings_Builder_WriteString {a0 a1 : AV} {σ : Hp} {n : Nat} {R : AEnd → Hp → Nat → Prop} (h : sh_pstrings_Builder_WriteString a0 a1 σ n R) : ConH Tryd.prog 111 [a0, a1] σ n R := by
  rw [se_pstrings_Builder_WriteString] at h
  exact conH_of [(.t 4), (.t 5)] (fn := Tryd.f111) rfl [0, 1, 4, 5] (by kernel_rfl) (by kernel_rfl) (by kernel_rfl) (by kernel_rfl) h
def kc_psyntax_printer_put1 (s2 : List AV) (K2 : List AV → Hp → Nat → Prop) (v3 : AV) (v5 : AV) (R : AEnd → Hp → Nat → Prop) (r : AEnd) (σ : Hp) (n : Nat) : Prop :=
 onEnd r (fun v8 =>
 bindP (semBin .add (s2.getD 2 .any) (.sc (.int .i64 1))) fun v10 =>
 K2 [v3, v5, v10] σ n) (fun v9 => R (.pan v9) σ n)
def lb_psyntax_printer_put2 (v1 : AV) (a1 : AV) (a0 : AV) (R : AEnd → Hp → Nat → Prop) (K2 : List AV → Hp → Nat → Prop) (s2 : List AV) (σ : Hp) (n : Nat) : Prop :=
 bindP (semBin .lss (s2.getD 2 .any) v1) fun v3 =>
 COND v3 (
 bindP (aIad 1 a1 (s2.getD 2 .any)) fun v4 =>
 bindP (aLd σ none v4) fun v5 =>
 bindP (aNck a0) fun v6 =>
 bindP (aFad 0 v6) fun v7 =>
 CALL Tryd.prog (.fn 111 []) [v7, v5] σ n (kc_psyntax_printer_put1 s2 K2 v3 v5 R)) (
 R (.ret (.tp [])) σ n)
attribute [go_sem] kc_psyntax_printer_put1 lb_psyntax_printer_put2
def sc_psyntax_printer_put : SCode := (.seq (.reg [ ⟨some 6,none,.mv (.t 1)⟩,⟨some 7,none,.len false (.t 6)⟩,⟨some 8,none,.mv (.c (.sc (.int .i64 0)))⟩]) (.block 0 (.loop [9,5,8] [9,10,11,5,12,13,14,15,16,17,8] (.seq (.reg [ ⟨some 9,none,.bin .lss (.t 8) (.t 7)⟩]) (.seq (.cond (.t 9) .skip (.exit 0)) (.seq (.block 1 (.seq (.reg [ ⟨some 10,none,.iad 1 (.t 6) (.t 8)⟩,⟨some 11,none,.ld none (.t 10)⟩,⟨some 5,none,.mv (.t 11)⟩]) (.reg [ ⟨some 12,none,.mv (.t 0)⟩,⟨some 13,none,.nck (.t 12)⟩,⟨some 14,none,.fad 0 (.t 13)⟩,⟨some 15,none,.mv (.t 5)⟩,⟨some 16,none,.call (.c (.fn 111 [])) [(.t 14),(.t 15)]⟩]))) (.reg [ ⟨some 17,none,.bin .add (.t 8) (.c (.sc (.int .i64 1)))⟩,⟨some 8,none,.mv (.t 17)⟩])))))))
def sh_psyntax_printer_put (a0 a1 : AV) (σ : Hp) (n : Nat) (R : AEnd → Hp → Nat → Prop) : Prop :=
 bindP (aLen false a1) fun v1 => bnd σ a1 →
 LOOP (lb_psyntax_printer_put2 v1 a1 a0 R) [(.tp []), (.tp []), (.sc (.int .i64 0))] σ n
theorem se_psyntax_printer_put (a0 a1 : AV) (σ : Hp) (n : Nat) (R : AEnd → Hp → Nat → Prop) : sh_psyntax_printer_put a0 a1 σ n R = swp Tryd.prog sc_psyntax_printer_put (retQ [] R) (entry [a0, a1]) σ n := by kernel_rfl
theorem by_psyntax_printer_put {a0 a1 : AV} {σ : Hp} {n : Nat} {R : AEnd → Hp → Nat → Prop} (h : sh_psyntax_printer_put a0 a1 σ n R) : ConH Tryd.prog 70 [a0, a1] σ n R := by
  rw [se_psyntax_printer_put] at h
  exact conH_of [] (fn := Tryd.f70) rfl [1, 7, 9, 6, 0, 5, 8] (by kernel_rfl) (by kernel_rfl) (by kernel_rfl) (by kernel_rfl) h
def kc_syntax_list_lapi_Expr1 (s2 : List AV) (K2 : List AV → Hp → Nat → Prop) (v3 : AV) (v5 : AV) (R : AEnd → Hp → Nat → Prop) (r : AEnd) (σ : Hp) (n : Nat) : Prop :=
 onEnd r (fun v9 =>
 bindP (semBin .add (s2.getD 3 .any) (.sc (.int .i64 1))) fun v11 =>
 K2 [v3, v5, (.s [44, 32]), v11] σ n) (fun v10 => R (.pan v10) σ n)
def kc_syntax_list_lapi_Expr2 (s2 : List AV) (a0 : AV) (K2 : List AV → Hp → Nat → Prop) (v3 : AV) (v5 : AV) (R : AEnd → Hp → Nat → Prop) (r : AEnd) (σ : Hp) (n : Nat) : Prop :=
 onEnd r (fun v6 =>
 bindS (hBsl σ n 1 [(.string ⟨#[]⟩)] 2 [(0, (s2.getD 2 .any)), (1, v6)]) σ n fun v8 σ n =>
 CALL Tryd.prog (.fn 70 []) [a0, v8] σ n (kc_syntax_list_lapi_Expr1 s2 K2 v3 v5 R)) (fun v7 => R (.pan v7) σ n)
def lb_syntax_list_lapi_Expr3 (v1 : AV) (a2 : AV) (a3 : AV) (a0 : AV) (R : AEnd → Hp → Nat → Prop) (K2 : List AV → Hp → Nat → Prop) (s2 : List AV) (σ : Hp) (n : Nat) : Prop :=
 bindP (semBin .lss (s2.getD 3 .any) v1) fun v3 =>
 COND v3 (
 bindP (aIad 1 a2 (s2.getD 3 .any)) fun v4 =>
 bindP (aLd σ none v4) fun v5 =>
 CALL Tryd.prog a3 [v5] σ n (kc_syntax_list_lapi_Expr2 s2 a0 K2 v3 v5 R)) (
 R (.ret (.tp [])) σ n)
attribute [go_sem] kc_syntax_list_lapi_Expr1 kc_syntax_list_lapi_Expr2 lb_syntax_list_lapi_Expr3
def sc_syntax_list_lapi_Expr : SCode := (.seq (.reg [ ⟨some 10,none,.mv (.t 2)⟩,⟨some 11,none,.len false (.t 10)⟩,⟨some 12,none,.mv (.c (.sc (.int .i64 0)))⟩]) (.block 0 (.loop [13,9,1,12] [13,14,15,9,16,17,18,19,20,21,22,1,23,12] (.seq (.reg [ ⟨some 13,none,.bin .lss (.t 12) (.t 11)⟩]) (.seq (.cond (.t 13) .skip (.exit 0)) (.seq (.block 1 (.seq (.reg [ ⟨some 14,none,.iad 1 (.t 10) (.t 12)⟩,⟨some 15,none,.ld none (.t 14)⟩,⟨some 9,none,.mv (.t 15)⟩]) (.seq (.reg [ ⟨some 16,none,.mv (.t 0)⟩,⟨some 17,none,.mv (.t 1)⟩,⟨some 18,none,.mv (.t 3)⟩,⟨some 19,none,.mv (.t 9)⟩,⟨some 20,none,.call (.t 18) [(.t 19)]⟩,⟨some 21,none,.bsl 1 [(.string ⟨#[]⟩)] 2 [(0,(.t 17)),(1,(.t 20))]⟩,⟨some 22,none,.call (.c (.fn 70 [])) [(.t 16),(.t 21)]⟩]) (.reg [ ⟨some 1,none,.mv (.c (.s [44,32]))⟩])))) (.reg [ ⟨some 23,none,.bin .add (.t 12) (.c (.sc (.int .i64 1)))⟩,⟨some 12,none,.mv (.t 23)⟩])))))))
def sh_syntax_list_lapi_Expr (a0 a1 a2 a3 : AV) (σ : Hp) (n : Nat) (R : AEnd → Hp → Nat → Prop) : Prop :=
 bindP (aLen false a2) fun v1 => bnd σ a2 →
 LOOP (lb_syntax_list_lapi_Expr3 v1 a2 a3 a0 R) [(.tp []), (.tp []), a1, (.sc (.int .i64 0))] σ n
theorem se_syntax_list_lapi_Expr (a0 a1 a2 a3 : AV) (σ : Hp) (n : Nat) (R : AEnd → Hp → Nat → Prop) : sh_syntax_list_lapi_Expr a0 a1 a2 a3 σ n R = swp Tryd.prog sc_syntax_list_lapi_Expr (retQ [] R) (entry [a0, a1, a2, a3]) σ n := by kernel_rfl
theorem by_syntax_list_lapi_Expr {a0 a1 a2 a3 : AV} {σ : Hp} {n : Nat} {R : AEnd → Hp → Nat → Prop} (h : sh_syntax_list_lapi_Expr a0 a1 a2 a3 σ n R) : ConH Tryd.prog 71 [a0, a1, a2, a3] σ n R := by
  rw [se_syntax_list_lapi_Expr] at h
  exact conH_of [] (fn := Tryd.f71) rfl [2, 11, 13, 10, 0, 1, 3, 9, 12] (by kernel_rfl) (by kernel_rfl) (by kernel_rfl) (by kernel_rfl) h
def kc_syntax_list_api_Expr1 (s2 : List AV) (K2 : List AV → Hp → Nat → Prop) (v3 : AV) (v6 : AV) (R : AEnd → Hp → Nat → Prop) (r : AEnd) (σ : Hp) (n : Nat) : Prop :=
 onEnd r (fun v12 =>
 bindP (semBin .add (s2.getD 3 .any) (.sc (.int .i64 1))) fun v14 =>
 K2 [v3, v6, (.s [44, 32]), v14] σ n) (fun v13 => R (.pan v13) σ n)
def kc_syntax_list_api_Expr2 (s2 : List AV) (a0 : AV) (K2 : List AV → Hp → Nat → Prop) (v3 : AV) (v6 : AV) (R : AEnd → Hp → Nat → Prop) (r : AEnd) (σ : Hp) (n : Nat) : Prop :=
 onEnd r (fun v9 =>
 bindS (hBsl σ n 1 [(.string ⟨#[]⟩)] 2 [(0, (s2.getD 2 .any)), (1, v9)]) σ n fun v11 σ n =>
 CALL Tryd.prog (.fn 70 []) [a0, v11] σ n (kc_syntax_list_api_Expr1 s2 K2 v3 v6 R)) (fun v10 => R (.pan v10) σ n)
def lb_syntax_list_api_Expr3 (v1 : AV) (a2 : AV) (a3 : AV) (a0 : AV) (R : AEnd → Hp → Nat → Prop) (K2 : List AV → Hp → Nat → Prop) (s2 : List AV) (σ : Hp) (n : Nat) : Prop :=
 bindP (semBin .lss (s2.getD 3 .any) v1) fun v3 =>
 COND v3 (
 bindP (aIad 7 a2 (s2.getD 3 .any)) fun v4 =>
 bindP (aLd σ (some 7) v4) fun v5 =>
 bindS (hAlloc n [(.int .i64 0), (.int .i64 0), (.int .i64 0), (.string ⟨#[]⟩), (.string ⟨#[]⟩), (.string ⟨#[]⟩), (.slice none 0 0)]) σ n fun v6 σ n =>
 bindS (hSt σ 7 v6 v5) σ n fun v7 σ n =>
 bindP (aLd σ (some 7) v6) fun v8 =>
 CALL Tryd.prog a3 [v8] σ n (kc_syntax_list_api_Expr2 s2 a0 K2 v3 v6 R)) (
 R (.ret (.tp [])) σ n)
attribute [go_sem] kc_syntax_list_api_Expr1 kc_syntax_list_api_Expr2 lb_syntax_list_api_Expr3
def sc_syntax_list_api_Expr : SCode := (.seq (.reg [ ⟨some 10,none,.mv (.t 2)⟩,⟨some 11,none,.len false (.t 10)⟩,⟨some 12,none,.mv (.c (.sc (.int .i64 0)))⟩]) (.block 0 (.loop [13,9,1,12] [13,14,15,9,16,17,18,19,20,21,22,1,23,12] (.seq (.reg [ ⟨some 13,none,.bin .lss (.t 12) (.t 11)⟩]) (.seq (.cond (.t 13) .skip (.exit 0)) (.seq (.block 1 (.seq (.reg [ ⟨some 14,none,.iad 7 (.t 10) (.t 12)⟩,⟨some 15,none,.ld (some 7) (.t 14)⟩,⟨some 9,none,.alloc [(.int .i64 0),(.int .i64 0),(.int .i64 0),(.string ⟨#[]⟩),(.string ⟨#[]⟩),(.string ⟨#[]⟩),(.slice none 0 0)]⟩,⟨none,none,(.st 7 (.t 9) (.t 15))⟩]) (.seq (.reg [ ⟨some 16,none,.mv (.t 0)⟩,⟨some 17,none,.mv (.t 1)⟩,⟨some 18,none,.mv (.t 3)⟩,⟨some 19,none,.ld (some 7) (.t 9)⟩,⟨some 20,none,.call (.t 18) [(.t 19)]⟩,⟨some 21,none,.bsl 1 [(.string ⟨#[]⟩)] 2 [(0,(.t 17)),(1,(.t 20))]⟩,⟨some 22,none,.call (.c (.fn 70 [])) [(.t 16),(.t 21)]⟩]) (.reg [ ⟨some 1,none,.mv (.c (.s [44,32]))⟩])))) (.reg [ ⟨some 23,none,.bin .add (.t 12) (.c (.sc (.int .i64 1)))⟩,⟨some 12,none,.mv (.t 23)⟩])))))))
def sh_syntax_list_api_Expr (a0 a1 a2 a3 : AV) (σ : Hp) (n : Nat) (R : AEnd → Hp → Nat → Prop) : Prop :=
 bindP (aLen false a2) fun v1 => bnd σ a2 →
 LOOP (lb_syntax_list_api_Expr3 v1 a2 a3 a0 R) [(.tp []), (.tp []), a1, (.sc (.int .i64 0))] σ n
theorem se_syntax_list_api_Expr (a0 a1 a2 a3 : AV) (σ : Hp) (n : Nat) (R : AEnd → Hp → Nat → Prop) : sh_syntax_list_api_Expr a0 a1 a2 a3 σ n R = swp Tryd.prog sc_syntax_list_api_Expr (retQ [] R) (entry [a0, a1, a2, a3]) σ n := by kernel_rfl
theorem by_syntax_list_api_Expr {a0 a1 a2 a3 : AV} {σ : Hp} {n : Nat} {R : AEnd → Hp → Nat → Prop} (h : sh_syntax_list_api_Expr a0 a1 a2 a3 σ n R) : ConH Tryd.prog 73 [a0, a1, a2, a3] σ n R := by
  rw [se_syntax_list_api_Expr] at h
  exact conH_of [] (fn := Tryd.f73) rfl [2, 11, 13, 10, 0, 1, 3, 9, 12] (by kernel_rfl) (by kernel_rfl) (by kernel_rfl) (by kernel_rfl) h
def kc_syntax_list_api_Set1 (s2 : List AV) (K2 : List AV → Hp → Nat → Prop) (v3 : AV) (v6 : AV) (R : AEnd → Hp → Nat → Prop) (r : AEnd) (σ : Hp) (n : Nat) : Prop :=
 onEnd r (fun v12 =>
 bindP (semBin .add (s2.getD 3 .any) (.sc (.int .i64 1))) fun v14 =>
 K2 [v3, v6, (.s [44, 32]), v14] σ n) (fun v13 => R (.pan v13) σ n)
def kc_syntax_list_api_Set2 (s2 : List AV) (a0 : AV) (K2 : List AV → Hp → Nat → Prop) (v3 : AV) (v6 : AV) (R : AEnd → Hp → Nat → Prop) (r : AEnd) (σ : Hp) (n : Nat) : Prop :=
 onEnd r (fun v9 =>
 bindS (hBsl σ n 1 [(.string ⟨#[]⟩)] 2 [(0, (s2.getD 2 .any)), (1, v9)]) σ n fun v11 σ n =>
 CALL Tryd.prog (.fn 70 []) [a0, v11] σ n (kc_syntax_list_api_Set1 s2 K2 v3 v6 R)) (fun v10 => R (.pan v10) σ n)
def lb_syntax_list_api_Set3 (v1 : AV) (a2 : AV) (a3 : AV) (a0 : AV) (R : AEnd → Hp → Nat → Prop) (K2 : List AV → Hp → Nat → Prop) (s2 : List AV) (σ : Hp) (n : Nat) : Prop :=
 bindP (semBin .lss (s2.getD 3 .any) v1) fun v3 =>
 COND v3 (
 bindP (aIad 8 a2 (s2.getD 3 .any)) fun v4 =>
 bindP (aLd σ (some 8) v4) fun v5 =>
 bindS (hAlloc n [(.string ⟨#[]⟩), (.int .i64 0), (.int .i64 0), (.int .i64 0), (.string ⟨#[]⟩), (.string ⟨#[]⟩), (.string ⟨#[]⟩), (.slice none 0 0)]) σ n fun v6 σ n =>
 bindS (hSt σ 8 v6 v5) σ n fun v7 σ n =>
 bindP (aLd σ (some 8) v6) fun v8 =>
 CALL Tryd.prog a3 [v8] σ n (kc_syntax_list_api_Set2 s2 a0 K2 v3 v6 R)) (
 R (.ret (.tp [])) σ n)
attribute [go_sem] kc_syntax_list_api_Set1 kc_syntax_list_api_Set2 lb_syntax_list_api_Set3
def sc_syntax_list_api_Set : SCode := (.seq (.reg [ ⟨some 10,none,.mv (.t 2)⟩,⟨some 11,none,.len false (.t 10)⟩,⟨some 12,none,.mv (.c (.sc (.int .i64 0)))⟩]) (.block 0 (.loop [13,9,1,12] [13,14,15,9,16,17,18,19,20,21,22,1,23,12] (.seq (.reg [ ⟨some 13,none,.bin .lss (.t 12) (.t 11)⟩]) (.seq (.cond (.t 13) .skip (.exit 0)) (.seq (.block 1 (.seq (.reg [ ⟨some 14,none,.iad 8 (.t 10) (.t 12)⟩,⟨some 15,none,.ld (some 8) (.t 14)⟩,⟨some 9,none,.alloc [(.string ⟨#[]⟩),(.int .i64 0),(.int .i64 0),(.int .i64 0),(.string ⟨#[]⟩),(.string ⟨#[]⟩),(.string ⟨#[]⟩),(.slice none 0 0)]⟩,⟨none,none,(.st 8 (.t 9) (.t 15))⟩]) (.seq (.reg [ ⟨some 16,none,.mv (.t 0)⟩,⟨some 17,none,.mv (.t 1)⟩,⟨some 18,none,.mv (.t 3)⟩,⟨some 19,none,.ld (some 8) (.t 9)⟩,⟨some 20,none,.call (.t 18) [(.t 19)]⟩,⟨some 21,none,.bsl 1 [(.string ⟨#[]⟩)] 2 [(0,(.t 17)),(1,(.t 20))]⟩,⟨some 22,none,.call (.c (.fn 70 [])) [(.t 16),(.t 21)]⟩]) (.reg [ ⟨some 1,none,.mv (.c (.s [44,32]))⟩])))) (.reg [ ⟨some 23,none,.bin .add (.t 12) (.c (.sc (.int .i64 1)))⟩,⟨some 12,none,.mv (.t 23)⟩])))))))
def sh_syntax_list_api_Set (a0 a1 a2 a3 : AV) (σ : Hp) (n : Nat) (R : AEnd → Hp → Nat → Prop) : Prop :=
 bindP (aLen false a2) fun v1 => bnd σ a2 →
 LOOP (lb_syntax_list_api_Set3 v1 a2 a3 a0 R) [(.tp []), (.tp []), a1, (.sc (.int .i64 0))] σ n
theorem se_syntax_list_api_Set (a0 a1 a2 a3 : AV) (σ : Hp) (n : Nat) (R : AEnd → Hp → Nat → Prop) : sh_syntax_list_api_Set a0 a1 a2 a3 σ n R = swp Tryd.prog sc_syntax_list_api_Set (retQ [] R) (entry [a0, a1, a2, a3]) σ n := by kernel_rfl
theorem by_syntax_list_api_Set {a0 a1 a2 a3 : AV} {σ : Hp} {n : Nat} {R : AEnd → Hp → Nat → Prop} (h : sh_syntax_list_api_Set a0 a1 a2 a3 σ n R) : ConH Tryd.prog 74 [a0, a1, a2, a3] σ n R := by
  rw [se_syntax_list_api_Set] at h
  exact conH_of [] (fn := Tryd.f74) rfl [2, 11, 13, 10, 0, 1, 3, 9, 12] (by kernel_rfl) (by kernel_rfl) (by kernel_rfl) (by kernel_rfl) h
def kc_syntax_list_api_Column1 (s2 : List AV) (K2 : List AV → Hp → Nat → Prop) (v3 : AV) (v6 : AV) (R : AEnd → Hp → Nat → Prop) (r : AEnd) (σ : Hp) (n : Nat) : Prop :=
 onEnd r (fun v12 =>
 bindP (semBin .add (s2.getD 3 .any) (.sc (.int .i64 1))) fun v14 =>
 K2 [v3, v6, (.s [44, 32]), v14] σ n) (fun v13 => R (.pan v13) σ n)
def kc_syntax_list_api_Column2 (s2 : List AV) (a0 : AV) (K2 : List AV → Hp → Nat → Prop) (v3 : AV) (v6 : AV) (R : AEnd → Hp → Nat → Prop) (r : AEnd) (σ : Hp) (n : Nat) : Prop :=
 onEnd r (fun v9 =>
 bindS (hBsl σ n 1 [(.string ⟨#[]⟩)] 2 [(0, (s2.getD 2 .any)), (1, v9)]) σ n fun v11 σ n =>
 CALL Tryd.prog (.fn 70 []) [a0, v11] σ n (kc_syntax_list_api_Column1 s2 K2 v3 v6 R)) (fun v10 => R (.pan v10) σ n)
def lb_syntax_list_api_Column3 (v1 : AV) (a2 : AV) (a3 : AV) (a0 : AV) (R : AEnd → Hp → Nat → Prop) (K2 : List AV → Hp → Nat → Prop) (s2 : List AV) (σ : Hp) (n : Nat) : Prop :=
 bindP (semBin .lss (s2.getD 3 .any) v1) fun v3 =>
 COND v3 (
 bindP (aIad 3 a2 (s2.getD 3 .any)) fun v4 =>
 bindP (aLd σ (some 3) v4) fun v5 =>
 bindS (hAlloc n [(.string ⟨#[]⟩), (.int .i64 0), (.bool false)]) σ n fun v6 σ n =>
 bindS (hSt σ 3 v6 v5) σ n fun v7 σ n =>
 bindP (aLd σ (some 3) v6) fun v8 =>
 CALL Tryd.prog a3 [v8] σ n (kc_syntax_list_api_Column2 s2 a0 K2 v3 v6 R)) (
 R (.ret (.tp [])) σ n)
attribute [go_sem] kc_syntax_list_api_Column1 kc_syntax_list_api_Column2 lb_syntax_list_api_Column3
def sc_syntax_list_api_Column : SCode := (.seq (.reg [ ⟨some 10,none,.mv (.t 2)⟩,⟨some 11,none,.len false (.t 10)⟩,⟨some 12,none,.mv (.c (.sc (.int .i64 0)))⟩]) (.block 0 (.loop [13,9,1,12] [13,14,15,9,16,17,18,19,20,21,22,1,23,12] (.seq (.reg [ ⟨some 13,none,.bin .lss (.t 12) (.t 11)⟩]) (.seq (.cond (.t 13) .skip (.exit 0)) (.seq (.block 1 (.seq (.reg [ ⟨some 14,none,.iad 3 (.t 10) (.t 12)⟩,⟨some 15,none,.ld (some 3) (.t 14)⟩,⟨some 9,none,.alloc [(.string ⟨#[]⟩),(.int .i64 0),(.bool false)]⟩,⟨none,none,(.st 3 (.t 9) (.t 15))⟩]) (.seq (.reg [ ⟨some 16,none,.mv (.t 0)⟩,⟨some 17,none,.mv (.t 1)⟩,⟨some 18,none,.mv (.t 3)⟩,⟨some 19,none,.ld (some 3) (.t 9)⟩,⟨some 20,none,.call (.t 18) [(.t 19)]⟩,⟨some 21,none,.bsl 1 [(.string ⟨#[]⟩)] 2 [(0,(.t 17)),(1,(.t 20))]⟩,⟨some 22,none,.call (.c (.fn 70 [])) [(.t 16),(.t 21)]⟩]) (.reg [ ⟨some 1,none,.mv (.c (.s [44,32]))⟩])))) (.reg [ ⟨some 23,none,.bin .add (.t 12) (.c (.sc (.int .i64 1)))⟩,⟨some 12,none,.mv (.t 23)⟩])))))))
def sh_syntax_list_api_Column (a0 a1 a2 a3 : AV) (σ : Hp) (n : Nat) (R : AEnd → Hp → Nat → Prop) : Prop :=
 bindP (aLen false a2) fun v1 => bnd σ a2 →
 LOOP (lb_syntax_list_api_Column3 v1 a2 a3 a0 R) [(.tp []), (.tp []), a1, (.sc (.int .i64 0))] σ n
theorem se_syntax_list_api_Column (a0 a1 a2 a3 : AV) (σ : Hp) (n : Nat) (R : AEnd → Hp → Nat → Prop) : sh_syntax_list_api_Column a0 a1 a2 a3 σ n R = swp Tryd.prog sc_syntax_list_api_Column (retQ [] R) (entry [a0, a1, a2, a3]) σ n := by kernel_rfl
theorem by_syntax_list_api_Column {a0 a1 a2 a3 : AV} {σ : Hp} {n : Nat} {R : AEnd → Hp → Nat → Prop} (h : sh_syntax_list_api_Column a0 a1 a2 a3 σ n R) : ConH Tryd.prog 109 [a0, a1, a2, a3] σ n R := by
  rw [se_syntax_list_api_Column] at h
  exact conH_of [] (fn := Tryd.f109) rfl [2, 11, 13, 10, 0, 1, 3, 9, 12] (by kernel_rfl) (by kernel_rfl) (by kernel_rfl) (by kernel_rfl) h
def kc_syntax_list_api_Order1 (s2 : List AV) (K2 : List AV → Hp → Nat → Prop) (v3 : AV) (v6 : AV) (R : AEnd → Hp → Nat → Prop) (r : AEnd) (σ : Hp) (n : Nat) : Prop :=
 onEnd r (fun v12 =>
 bindP (semBin .add (s2.getD 3 .any) (.sc (.int .i64 1))) fun v14 =>
 K2 [v3, v6, (.s [44, 32]), v14] σ n) (fun v13 => R (.pan v13) σ n)
def kc_syntax_list_api_Order2 (s2 : List AV) (a0 : AV) (K2 : List AV → Hp → Nat → Prop) (v3 : AV) (v6 : AV) (R : AEnd → Hp → Nat → Prop) (r : AEnd) (σ : Hp) (n : Nat) : Prop :=
 onEnd r (fun v9 =>
 bindS (hBsl σ n 1 [(.string ⟨#[]⟩)] 2 [(0, (s2.getD 2 .any)), (1, v9)]) σ n fun v11 σ n =>
 CALL Tryd.prog (.fn 70 []) [a0, v11] σ n (kc_syntax_list_api_Order1 s2 K2 v3 v6 R)) (fun v10 => R (.pan v10) σ n)
def lb_syntax_list_api_Order3 (v1 : AV) (a2 : AV) (a3 : AV) (a0 : AV) (R : AEnd → Hp → Nat → Prop) (K2 : List AV → Hp → Nat → Prop) (s2 : List AV) (σ : Hp) (n : Nat) : Prop :=
 bindP (semBin .lss (s2.getD 3 .any) v1) fun v3 =>
 COND v3 (
 bindP (aIad 2 a2 (s2.getD 3 .any)) fun v4 =>
 bindP (aLd σ (some 2) v4) fun v5 =>
 bindS (hAlloc n [(.int .i64 0), (.bool false)]) σ n fun v6 σ n =>
 bindS (hSt σ 2 v6 v5) σ n fun v7 σ n =>
 bindP (aLd σ (some 2) v6) fun v8 =>
 CALL Tryd.prog a3 [v8] σ n (kc_syntax_list_api_Order2 s2 a0 K2 v3 v6 R)) (
 R (.ret (.tp [])) σ n)
attribute [go_sem] kc_syntax_list_api_Order1 kc_syntax_list_api_Order2 lb_syntax_list_api_Order3
def sc_syntax_list_api_Order : SCode := (.seq (.reg [ ⟨some 10,none,.mv (.t 2)⟩,⟨some 11,none,.len false (.t 10)⟩,⟨some 12,none,.mv (.c (.sc (.int .i64 0)))⟩]) (.block 0 (.loop [13,9,1,12] [13,14,15,9,16,17,18,19,20,21,22,1,23,12] (.seq (.reg [ ⟨some 13,none,.bin .lss (.t 12) (.t 11)⟩]) (.seq (.cond (.t 13) .skip (.exit 0)) (.seq (.block 1 (.seq (.reg [ ⟨some 14,none,.iad 2 (.t 10) (.t 12)⟩,⟨some 15,none,.ld (some 2) (.t 14)⟩,⟨some 9,none,.alloc [(.int .i64 0),(.bool false)]⟩,⟨none,none,(.st 2 (.t 9) (.t 15))⟩]) (.seq (.reg [ ⟨some 16,none,.mv (.t 0)⟩,⟨some 17,none,.mv (.t 1)⟩,⟨some 18,none,.mv (.t 3)⟩,⟨some 19,none,.ld (some 2) (.t 9)⟩,⟨some 20,none,.call (.t 18) [(.t 19)]⟩,⟨some 21,none,.bsl 1 [(.string ⟨#[]⟩)] 2 [(0,(.t 17)),(1,(.t 20))]⟩,⟨some 22,none,.call (.c (.fn 70 [])) [(.t 16),(.t 21)]⟩]) (.reg [ ⟨some 1,none,.mv (.c (.s [44,32]))⟩])))) (.reg [ ⟨some 23,none,.bin .add (.t 12) (.c (.sc (.int .i64 1)))⟩,⟨some 12,none,.mv (.t 23)⟩])))))))
def sh_syntax_list_api_Order (a0 a1 a2 a3 : AV) (σ : Hp) (n : Nat) (R : AEnd → Hp → Nat → Prop) : Prop :=
 bindP (aLen false a2) fun v1 => bnd σ a2 →
 LOOP (lb_syntax_list_api_Order3 v1 a2 a3 a0 R) [(.tp []), (.tp []), a1, (.sc (.int .i64 0))] σ n
theorem se_syntax_list_api_Order (a0 a1 a2 a3 : AV) (σ : Hp) (n : Nat) (R : AEnd → Hp → Nat → Prop) : sh_syntax_list_api_Order a0 a1 a2 a3 σ n R = swp Tryd.prog sc_syntax_list_api_Order (retQ [] R) (entry [a0, a1, a2, a3]) σ n := by kernel_rfl
theorem by_syntax_list_api_Order {a0 a1 a2 a3 : AV} {σ : Hp} {n : Nat} {R : AEnd → Hp → Nat → Prop} (h : sh_syntax_list_api_Order a0 a1 a2 a3 σ n R) : ConH Tryd.prog 112 [a0, a1, a2, a3] σ n R := by
  rw [se_syntax_list_api_Order] at h
  exact conH_of [] (fn := Tryd.f112) rfl [2, 11, 13, 10, 0, 1, 3, 9, 12] (by kernel_rfl) (by kernel_rfl) (by kernel_rfl) (by kernel_rfl) h
def kc_psyntax_printer_stmt1 (R : AEnd → Hp → Nat → Prop) (r : AEnd) (σ : Hp) (n : Nat) : Prop :=
 onEnd r (fun v6 =>
 R (.ret (.tp [])) σ n) (fun v7 => R (.pan v7) σ n)
def kc_psyntax_printer_stmt2 (R : AEnd → Hp → Nat → Prop) (r : AEnd) (σ : Hp) (n : Nat) : Prop :=
 onEnd r (fun v16 =>
 R (.ret (.tp [])) σ n) (fun v17 => R (.pan v17) σ n)
def kc_psyntax_printer_stmt3 (R : AEnd → Hp → Nat → Prop) (r : AEnd) (σ : Hp) (n : Nat) : Prop :=
 onEnd r (fun v22 =>
 R (.ret (.tp [])) σ n) (fun v23 => R (.pan v23) σ n)
def kc_psyntax_printer_stmt4 (R : AEnd → Hp → Nat → Prop) (r : AEnd) (σ : Hp) (n : Nat) : Prop :=
 onEnd r (fun v32 =>
 R (.ret (.tp [])) σ n) (fun v33 => R (.pan v33) σ n)
def kc_psyntax_printer_stmt5 (v1 : AV) (a0 : AV) (R : AEnd → Hp → Nat → Prop) (r : AEnd) (σ : Hp) (n : Nat) : Prop :=
 onEnd r (fun v28 =>
 bindP (aFad 5 v1) fun v30 =>
 bindP (aLd σ none v30) fun v31 =>
 CALL Tryd.prog (.fn 71 []) [a0, (.s [32, 86, 65, 76, 85, 69, 83, 32]), v31, (.fn 72 [])] σ n (kc_psyntax_printer_stmt4 R)) (fun v29 => R (.pan v29) σ n)
def kc_psyntax_printer_stmt6 (R : AEnd → Hp → Nat → Prop) (r : AEnd) (σ : Hp) (n : Nat) : Prop :=
 onEnd r (fun v46 =>
 R (.ret (.tp [])) σ n) (fun v47 => R (.pan v47) σ n)
def kc_psyntax_printer_stmt7 (v1 : AV) (a0 : AV) (R : AEnd → Hp → Nat → Prop) (r : AEnd) (σ : Hp) (n : Nat) : Prop :=
 onEnd r (fun v42 =>
 bindP (aFad 10 v1) fun v44 =>
 bindP (aLd σ none v44) fun v45 =>
 CALL Tryd.prog (.fn 73 []) [a0, (.s [32, 87, 72, 69, 82, 69, 32]), v45, (.fn 27 [])] σ n (kc_psyntax_printer_stmt6 R)) (fun v43 => R (.pan v43) σ n)
def kc_psyntax_printer_stmt8 (v1 : AV) (a0 : AV) (R : AEnd → Hp → Nat → Prop) (r : AEnd) (σ : Hp) (n : Nat) : Prop :=
 onEnd r (fun v38 =>
 bindP (aFad 6 v1) fun v40 =>
 bindP (aLd σ none v40) fun v41 =>
 CALL Tryd.prog (.fn 74 []) [a0, (.s [32, 83, 69, 84, 32]), v41, (.fn 75 [])] σ n (kc_psyntax_printer_stmt7 v1 a0 R)) (fun v39 => R (.pan v39) σ n)
def kc_psyntax_printer_stmt9 (R : AEnd → Hp → Nat → Prop) (r : AEnd) (σ : Hp) (n : Nat) : Prop :=
 onEnd r (fun v56 =>
 R (.ret (.tp [])) σ n) (fun v57 => R (.pan v57) σ n)
def kc_psyntax_printer_stmt10 (v1 : AV) (a0 : AV) (R : AEnd → Hp → Nat → Prop) (r : AEnd) (σ : Hp) (n : Nat) : Prop :=
 onEnd r (fun v52 =>
 bindP (aFad 10 v1) fun v54 =>
 bindP (aLd σ none v54) fun v55 =>
 CALL Tryd.prog (.fn 73 []) [a0, (.s [32, 87, 72, 69, 82, 69, 32]), v55, (.fn 27 [])] σ n (kc_psyntax_printer_stmt9 R)) (fun v53 => R (.pan v53) σ n)
def kc_psyntax_printer_stmt11 (R : AEnd → Hp → Nat → Prop) (r : AEnd) (σ : Hp) (n : Nat) : Prop :=
 onEnd r (fun v60 =>
 R (.ret (.tp [])) σ n) (fun v61 => R (.pan v61) σ n)
def kc_psyntax_printer_stmt12 (R : AEnd → Hp → Nat → Prop) (r : AEnd) (σ : Hp) (n : Nat) : Prop :=
 onEnd r (fun v68 =>
 R (.ret (.tp [])) σ n) (fun v69 => R (.pan v69) σ n)
attribute [go_sem] kc_psyntax_printer_stmt1 kc_psyntax_printer_stmt2 kc_psyntax_printer_stmt3 kc_psyntax_printer_stmt4 kc_psyntax_printer_stmt5 kc_psyntax_printer_stmt6 kc_psyntax_printer_stmt7 kc_psyntax_printer_stmt8 kc_psyntax_printer_stmt9 kc_psyntax_printer_stmt10 kc_psyntax_printer_stmt11 kc_psyntax_printer_stmt12
def sc_psyntax_printer_stmt : SCode := (.seq (.reg [ ⟨some 3,none,.box (.t 1)⟩]) (.seq (.reg [ ⟨some 4,none,.fad 0 (.t 3)⟩,⟨some 5,none,.ld none (.t 4)⟩]) (.block 0 (.seq (.reg [ ⟨some 15,none,.bin .eql (.t 5) (.c (.sc (.int .i64 1)))⟩,⟨some 14,none,.mv (.t 15)⟩]) (.cond (.t 14) (.reg [ ⟨some 16,none,.mv (.t 0)⟩,⟨some 17,none,.ld (some 14) (.t 3)⟩,⟨some 18,none,.call (.c (.fn 69 [])) [(.t 16),(.t 17)]⟩]) (.seq (.reg [ ⟨some 20,none,.bin .eql (.t 5) (.c (.sc (.int .i64 2)))⟩,⟨some 19,none,.mv (.t 20)⟩]) (.cond (.t 19) (.reg [ ⟨some 21,none,.mv (.t 0)⟩,⟨some 22,none,.fad 4 (.t 3)⟩,⟨some 23,none,.ld none (.t 22)⟩,⟨some 24,none,.fad 1 (.t 3)⟩,⟨some 25,none,.ld none (.t 24)⟩,⟨some 26,none,.fad 3 (.t 3)⟩,⟨some 27,none,.ld none (.t 26)⟩,⟨some 28,none,.bsl 1 [(.string ⟨#[]⟩)] 7 [(0,(.c (.s [67,82,69,65,84,69,32,73,78,68,69,88,32]))),(1,(.t 23)),(2,(.c (.s [32,79,78,32]))),(3,(.t 25)),(4,(.c (.s [32,40]))),(5,(.t 27)),(6,(.c (.s [41])))]⟩,⟨some 29,none,.call (.c (.fn 70 [])) [(.t 21),(.t 28)]⟩]) (.seq (.reg [ ⟨some 31,none,.bin .eql (.t 5) (.c (.sc (.int .i64 3)))⟩,⟨some 30,none,.mv (.t 31)⟩]) (.cond (.t 30) (.reg [ ⟨some 32,none,.mv (.t 0)⟩,⟨some 33,none,.fad 1 (.t 3)⟩,⟨some 34,none,.ld none (.t 33)⟩,⟨some 35,none,.bsl 1 [(.string ⟨#[]⟩)] 2 [(0,(.c (.s [68,82,79,80,32,84,65,66,76,69,32]))),(1,(.t 34))]⟩,⟨some 36,none,.call (.c (.fn 70 [])) [(.t 32),(.t 35)]⟩]) (.seq (.reg [ ⟨some 38,none,.bin .eql (.t 5) (.c (.sc (.int .i64 4)))⟩,⟨some 37,none,.mv (.t 38)⟩]) (.cond (.t 37) (.seq (.reg [ ⟨some 39,none,.mv (.t 0)⟩,⟨some 40,none,.fad 1 (.t 3)⟩,⟨some 41,none,.ld none (.t 40)⟩,⟨some 42,none,.bsl 1 [(.string ⟨#[]⟩)] 2 [(0,(.c (.s [73,78,83,69,82,84,32,73,78,84,79,32]))),(1,(.t 41))]⟩,⟨some 43,none,.call (.c (.fn 70 [])) [(.t 39),(.t 42)]⟩]) (.reg [ ⟨some 44,none,.mv (.t 0)⟩,⟨some 45,none,.fad 5 (.t 3)⟩,⟨some 46,none,.ld none (.t 45)⟩,⟨some 47,none,.call (.c (.fn 71 [])) [(.t 44),(.c (.s [32,86,65,76,85,69,83,32])),(.t 46),(.c (.fn 72 []))]⟩])) (.seq (.reg [ ⟨some 49,none,.bin .eql (.t 5) (.c (.sc (.int .i64 5)))⟩,⟨some 48,none,.mv (.t 49)⟩]) (.cond (.t 48) (.seq (.reg [ ⟨some 50,none,.mv (.t 0)⟩,⟨some 51,none,.fad 1 (.t 3)⟩,⟨some 52,none,.ld none (.t 51)⟩,⟨some 53,none,.bsl 1 [(.string ⟨#[]⟩)] 2 [(0,(.c (.s [85,80,68,65,84,69,32]))),(1,(.t 52))]⟩,⟨some 54,none,.call (.c (.fn 70 [])) [(.t 50),(.t 53)]⟩]) (.seq (.reg [ ⟨some 55,none,.mv (.t 0)⟩,⟨some 56,none,.fad 6 (.t 3)⟩,⟨some 57,none,.ld none (.t 56)⟩,⟨some 58,none,.call (.c (.fn 74 [])) [(.t 55),(.c (.s [32,83,69,84,32])),(.t 57),(.c (.fn 75 []))]⟩]) (.reg [ ⟨some 59,none,.mv (.t 0)⟩,⟨some 60,none,.fad 10 (.t 3)⟩,⟨some 61,none,.ld none (.t 60)⟩,⟨some 62,none,.call (.c (.fn 73 [])) [(.t 59),(.c (.s [32,87,72,69,82,69,32])),(.t 61),(.c (.fn 27 []))]⟩]))) (.seq (.reg [ ⟨some 64,none,.bin .eql (.t 5) (.c (.sc (.int .i64 6)))⟩,⟨some 63,none,.mv (.t 64)⟩]) (.cond (.t 63) (.seq (.reg [ ⟨some 65,none,.mv (.t 0)⟩,⟨some 66,none,.fad 1 (.t 3)⟩,⟨some 67,none,.ld none (.t 66)⟩,⟨some 68,none,.bsl 1 [(.string ⟨#[]⟩)] 2 [(0,(.c (.s [68,69,76,69,84,69,32,70,82,79,77,32]))),(1,(.t 67))]⟩,⟨some 69,none,.call (.c (.fn 70 [])) [(.t 65),(.t 68)]⟩]) (.reg [ ⟨some 70,none,.mv (.t 0)⟩,⟨some 71,none,.fad 10 (.t 3)⟩,⟨some 72,none,.ld none (.t 71)⟩,⟨some 73,none,.call (.c (.fn 73 [])) [(.t 70),(.c (.s [32,87,72,69,82,69,32])),(.t 72),(.c (.fn 27 []))]⟩])) (.seq (.reg [ ⟨some 75,none,.bin .eql (.t 5) (.c (.sc (.int .i64 7)))⟩,⟨some 74,none,.mv (.t 75)⟩]) (.cond (.t 74) (.reg [ ⟨some 76,none,.mv (.t 0)⟩,⟨some 77,none,.ld (some 14) (.t 3)⟩,⟨some 78,none,.call (.c (.fn 76 [])) [(.t 76),(.t 77)]⟩]) (.reg [ ⟨some 6,none,.mv (.t 0)⟩,⟨(some 7),none,(.build [(.string ⟨#[]⟩),(.string ⟨#[]⟩),(.string ⟨#[]⟩)] [(0,(1,(.c (.s [66,69,71,73,78])))),(1,(1,(.c (.s [67,79,77,77,73,84])))),(2,(1,(.c (.s [82,79,76,76,66,65,67,75]))))])⟩,⟨some 8,none,.fad 0 (.t 3)⟩,⟨some 9,none,.ld none (.t 8)⟩,⟨some 10,none,.bin .sub (.t 9) (.c (.sc (.int .i64 8)))⟩,⟨some 11,none,.iarr none 1 3 (.t 7) (.t 10)⟩,⟨some 12,none,.bsl 1 [(.string ⟨#[]⟩)] 1 [(0,(.t 11))]⟩,⟨some 13,none,.call (.c (.fn 70 [])) [(.t 6),(.t 12)]⟩]))))))))))))))))))
def sh_psyntax_printer_stmt (a0 a1 : AV) (σ : Hp) (n : Nat) (R : AEnd → Hp → Nat → Prop) : Prop :=
 bindS (hBox n a1) σ n fun v1 σ n =>
 bindP (aFad 0 v1) fun v2 =>
 bindP (aLd σ none v2) fun v3 =>
 bindP (semBin .eql v3 (.sc (.int .i64 1))) fun v4 =>
 COND v4 (
 bindP (aLd σ (some 14) v1) fun v5 =>
 CALL Tryd.prog (.fn 69 []) [a0, v5] σ n (kc_psyntax_printer_stmt1 R)) (
 bindP (semBin .eql v3 (.sc (.int .i64 2))) fun v8 =>
 COND v8 (
 bindP (aFad 4 v1) fun v9 =>
 bindP (aLd σ none v9) fun v10 =>
 bindP (aFad 1 v1) fun v11 =>
 bindP (aLd σ none v11) fun v12 =>
 bindP (aFad 3 v1) fun v13 =>
 bindP (aLd σ none v13) fun v14 =>
 bindS (hBsl σ n 1 [(.string ⟨#[]⟩)] 7 [(0, (.s [67, 82, 69, 65, 84, 69, 32, 73, 78, 68, 69, 88, 32])), (1, v10), (2, (.s [32, 79, 78, 32])), (3, v12), (4, (.s [32, 40])), (5, v14), (6, (.s [41]))]) σ n fun v15 σ n =>
 CALL Tryd.prog (.fn 70 []) [a0, v15] σ n (kc_psyntax_printer_stmt2 R)) (
 bindP (semBin .eql v3 (.sc (.int .i64 3))) fun v18 =>
 COND v18 (
 bindP (aFad 1 v1) fun v19 =>
 bindP (aLd σ none v19) fun v20 =>
 bindS (hBsl σ n 1 [(.string ⟨#[]⟩)] 2 [(0, (.s [68, 82, 79, 80, 32, 84, 65, 66, 76, 69, 32])), (1, v20)]) σ n fun v21 σ n =>
 CALL Tryd.prog (.fn 70 []) [a0, v21] σ n (kc_psyntax_printer_stmt3 R)) (
 bindP (semBin .eql v3 (.sc (.int .i64 4))) fun v24 =>
 COND v24 (
 bindP (aFad 1 v1) fun v25 =>
 bindP (aLd σ none v25) fun v26 =>
 bindS (hBsl σ n 1 [(.string ⟨#[]⟩)] 2 [(0, (.s [73, 78, 83, 69, 82, 84, 32, 73, 78, 84, 79, 32])), (1, v26)]) σ n fun v27 σ n =>
 CALL Tryd.prog (.fn 70 []) [a0, v27] σ n (kc_psyntax_printer_stmt5 v1 a0 R)) (
 bindP (semBin .eql v3 (.sc (.int .i64 5))) fun v34 =>
 COND v34 (
 bindP (aFad 1 v1) fun v35 =>
 bindP (aLd σ none v35) fun v36 =>
 bindS (hBsl σ n 1 [(.string ⟨#[]⟩)] 2 [(0, (.s [85, 80, 68, 65, 84, 69, 32])), (1, v36)]) σ n fun v37 σ n =>
 CALL Tryd.prog (.fn 70 []) [a0, v37] σ n (kc_psyntax_printer_stmt8 v1 a0 R)) (
 bindP (semBin .eql v3 (.sc (.int .i64 6))) fun v48 =>
 COND v48 (
 bindP (aFad 1 v1) fun v49 =>
 bindP (aLd σ none v49) fun v50 =>
 bindS (hBsl σ n 1 [(.string ⟨#[]⟩)] 2 [(0, (.s [68, 69, 76, 69, 84, 69, 32, 70, 82, 79, 77, 32])), (1, v50)]) σ n fun v51 σ n =>
 CALL Tryd.prog (.fn 70 []) [a0, v51] σ n (kc_psyntax_printer_stmt10 v1 a0 R)) (
 bindP (semBin .eql v3 (.sc (.int .i64 7))) fun v58 =>
 COND v58 (
 bindP (aLd σ (some 14) v1) fun v59 =>
 CALL Tryd.prog (.fn 76 []) [a0, v59] σ n (kc_psyntax_printer_stmt11 R)) (
 bindP (aBuild [(.string ⟨#[]⟩), (.string ⟨#[]⟩), (.string ⟨#[]⟩)] [(0, 1, (.s [66, 69, 71, 73, 78])), (1, 1, (.s [67, 79, 77, 77, 73, 84])), (2, 1, (.s [82, 79, 76, 76, 66, 65, 67, 75]))]) fun v62 =>
 bindP (aFad 0 v1) fun v63 =>
 bindP (aLd σ none v63) fun v64 =>
 bindP (semBin .sub v64 (.sc (.int .i64 8))) fun v65 =>
 bindP (aIarr none 1 3 v62 v65) fun v66 =>
 bindS (hBsl σ n 1 [(.string ⟨#[]⟩)] 1 [(0, v66)]) σ n fun v67 σ n =>
 CALL Tryd.prog (.fn 70 []) [a0, v67] σ n (kc_psyntax_printer_stmt12 R))))))))
theorem se_psyntax_printer_stmt (a0 a1 : AV) (σ : Hp) (n : Nat) (R : AEnd → Hp → Nat → Prop) : sh_psyntax_printer_stmt a0 a1 σ n R = swp Tryd.prog sc_psyntax_printer_stmt (retQ [] R) (entry [a0, a1]) σ n := by kernel_rfl
theorem by_psyntax_printer_stmt {a0 a1 : AV} {σ : Hp} {n : Nat} {R : AEnd → Hp → Nat → Prop} (h : sh_psyntax_printer_stmt a0 a1 σ n R) : ConH Tryd.prog 48 [a0, a1] σ n R := by
  rw [se_psyntax_printer_stmt] at h
  exact conH_of [] (fn := Tryd.f48) rfl [1, 14, 19, 30, 37, 48, 63, 5, 74, 0, 3] (by kernel_rfl) (by kernel_rfl) (by kernel_rfl) (by kernel_rfl) h
def kc_psyntax_printer_stmt_c11 (R : AEnd → Hp → Nat → Prop) (r : AEnd) (σ : Hp) (n : Nat) : Prop :=
 onEnd r (fun v5 =>
 bindP (semBin .add v5 (.s [41])) fun v7 =>
 R (.ret v7) σ n) (fun v6 => R (.pan v6) σ n)
def kc_psyntax_printer_stmt_c12 (v1 : AV) (R : AEnd → Hp → Nat → Prop) (r : AEnd) (σ : Hp) (n : Nat) : Prop :=
 onEnd r (fun v2 =>
 bindP (aFad 0 v1) fun v4 =>
 CALL Tryd.prog (.fn 49 []) [v4] σ n (kc_psyntax_printer_stmt_c11 R)) (fun v3 => R (.pan v3) σ n)
attribute [go_sem] kc_psyntax_printer_stmt_c11 kc_psyntax_printer_stmt_c12
def sc_psyntax_printer_stmt_c1 : SCode := (.seq (.reg [ ⟨some 2,none,.mv (.c (.s []))⟩]) (.seq (.reg [ ⟨some 3,none,.allt 84 [(.pointer none),(.slice none 0 0)]⟩]) (.seq (.reg [ ⟨some 4,none,.mv (.t 0)⟩,⟨some 5,none,.call (.c (.fn 73 [])) [(.t 3),(.c (.s [40])),(.t 4),(.c (.fn 27 []))]⟩]) (.seq (.reg [ ⟨some 6,none,.fad 0 (.t 3)⟩,⟨some 7,none,.call (.c (.fn 49 [])) [(.t 6)]⟩,⟨some 8,none,.bin .add (.t 7) (.c (.s [41]))⟩,⟨some 2,none,.mv (.t 8)⟩]) .ret))))
def sh_psyntax_printer_stmt_c1 (a0 : AV) (σ : Hp) (n : Nat) (R : AEnd → Hp → Nat → Prop) : Prop :=
 bindS (hAllt n 84 [(.pointer none), (.slice none 0 0)]) σ n fun v1 σ n =>
 CALL Tryd.prog (.fn 73 []) [v1, (.s [40]), a0, (.fn 27 [])] σ n (kc_psyntax_printer_stmt_c12 v1 R)
theorem se_psyntax_printer_stmt_c1 (a0 : AV) (σ : Hp) (n : Nat) (R : AEnd → Hp → Nat → Prop) : sh_psyntax_printer_stmt_c1 a0 σ n R = swp Tryd.prog sc_psyntax_printer_stmt_c1 (retQ [(.t 2)] R) (entry [a0]) σ n := by kernel_rfl
theorem by_psyntax_printer_stmt_c1 {a0 : AV} {σ : Hp} {n : Nat} {R : AEnd → Hp → Nat → Prop} (h : sh_psyntax_printer_stmt_c1 a0 σ n R) : ConH Tryd.prog 72 [a0] σ n R := by
  rw [se_psyntax_printer_stmt_c1] at h
  exact conH_of [(.t 2)] (fn := Tryd.f72) rfl [0, 3, 2] (by kernel_rfl) (by kernel_rfl) (by kernel_rfl) (by kernel_rfl) h
def kd_psyntax_printer_stmt_c21 (v4 : AV) (v2 : AV) (v5 : AV) (n : Nat) (σ : Hp) (R : AEnd → Hp → Nat → Prop) (r : AEnd) (w7 : Wr) (d7 : List Nat) : Prop :=
 onEnd r (fun v7 =>
 bindP (semBin .add v4 v7) fun v9 =>
 Apt (names []) (rdA v2) (names []) (rdA v5) ∧
 Apt (names []) (rdA v2) (names w7) d7 ∧
 ∀ n_, n + 16 * 8 ≤ n_ → (fun n => (fun σ => R (.ret v9) σ n) (applyW σ w7)) n_) (fun v8 => Apt (names []) (rdA v2) (names []) (rdA v5) ∧
 Apt (names []) (rdA v2) (names []) d7 ∧
 ∀ (fr_ : Regs) σ n, R (.pan v8) σ n)
attribute [go_sem] kd_psyntax_printer_stmt_c21
def sc_psyntax_printer_stmt_c2 : SCode := (.seq (.reg [ ⟨some 1,none,.box (.t 0)⟩,⟨some 2,none,.mv (.c (.s []))⟩]) (.seq (.regD [(⟨some 3,none,.fad 0 (.t 1)⟩,[]),(⟨some 4,none,.ld none (.t 3)⟩,[0]),(⟨some 5,none,.bin .add (.t 4) (.c (.s [32,61,32]))⟩,[1,0]),(⟨some 6,none,.fad 1 (.t 1)⟩,[]),(⟨some 7,none,.ld (some 7) (.t 6)⟩,[3]),(⟨some 8,none,.call (.c (.fn 27 [])) [(.t 7)]⟩,[4,3]),(⟨some 9,none,.bin .add (.t 5) (.t 8)⟩,[2,1,0,5,4,3]),(⟨some 2,none,.mv (.t 9)⟩,[6,2,1,0,5,4,3])]) .ret))
def sh_psyntax_printer_stmt_c2 (a0 : AV) (σ : Hp) (n : Nat) (R : AEnd → Hp → Nat → Prop) : Prop :=
 bindS (hBox n a0) σ n fun v1 σ n =>
 bindP (aFad 0 v1) fun v2 =>
 bindP (aLd σ none v2) fun v3 =>
 bindP (semBin .add v3 (.s [32, 61, 32])) fun v4 =>
 bindP (aFad 1 v1) fun v5 =>
 bindP (aLd σ (some 7) v5) fun v6 =>
 callD Tryd.prog (.fn 27 []) [v6] σ (n + 16 * 5) (kd_psyntax_printer_stmt_c21 v4 v2 v5 n σ R)
theorem se_psyntax_printer_stmt_c2 (a0 : AV) (σ : Hp) (n : Nat) (R : AEnd → Hp → Nat → Prop) : sh_psyntax_printer_stmt_c2 a0 σ n R = swp Tryd.prog sc_psyntax_printer_stmt_c2 (retQ [(.t 2)] R) (entry [a0]) σ n := by kernel_rfl
theorem by_psyntax_printer_stmt_c2 {a0 : AV} {σ : Hp} {n : Nat} {R : AEnd → Hp → Nat → Prop} (h : sh_psyntax_printer_stmt_c2 a0 σ n R) : ConH Tryd.prog 75 [a0] σ n R := by
  rw [se_psyntax_printer_stmt_c2] at h
  exact conH_of [(.t 2)] (fn := Tryd.f75) rfl [0, 1, 2] (by kernel_rfl) (by kernel_rfl) (by kernel_rfl) (by kernel_rfl) h
def kc_psyntax_printer_query1 (R : AEnd → Hp → Nat → Prop) (r : AEnd) (σ : Hp) (n : Nat) : Prop :=
 onEnd r (fun v36 =>
 R (.ret (.tp [])) σ n) (fun v37 => R (.pan v37) σ n)
def kc_psyntax_printer_query2 (a0 : AV) (R : AEnd → Hp → Nat → Prop) (r : AEnd) (σ : Hp) (n : Nat) : Prop :=
 onEnd r (fun v33 =>
 bindS (hBsl σ n 1 [(.string ⟨#[]⟩)] 2 [(0, (.s [32, 76, 73, 77, 73, 84, 32])), (1, v33)]) σ n fun v35 σ n =>
 CALL Tryd.prog (.fn 70 []) [a0, v35] σ n (kc_psyntax_printer_query1 R)) (fun v34 => R (.pan v34) σ n)
def kc_psyntax_printer_query3 (v1 : AV) (a0 : AV) (R : AEnd → Hp → Nat → Prop) (r : AEnd) (σ : Hp) (n : Nat) : Prop :=
 onEnd r (fun v26 =>
 bindP (aFad 13 v1) fun v28 =>
 bindP (aLd σ none v28) fun v29 =>
 bindP (semBin .geq v29 (.sc (.int .i64 0))) fun v30 =>
 COND v30 (
 bindP (aFad 13 v1) fun v31 =>
 bindP (aLd σ none v31) fun v32 =>
 CALL Tryd.prog (.fn 100 []) [v32] σ n (kc_psyntax_printer_query2 a0 R)) (
 R (.ret (.tp [])) σ n)) (fun v27 => R (.pan v27) σ n)
def kc_psyntax_printer_query4 (v1 : AV) (a0 : AV) (R : AEnd → Hp → Nat → Prop) (r : AEnd) (σ : Hp) (n : Nat) : Prop :=
 onEnd r (fun v22 =>
 bindP (aFad 12 v1) fun v24 =>
 bindP (aLd σ none v24) fun v25 =>
 CALL Tryd.prog (.fn 112 []) [a0, (.s [32, 79, 82, 68, 69, 82, 32, 66, 89, 32]), v25, (.fn 113 [])] σ n (kc_psyntax_printer_query3 v1 a0 R)) (fun v23 => R (.pan v23) σ n)
def kc_psyntax_printer_query5 (v1 : AV) (a0 : AV) (R : AEnd → Hp → Nat → Prop) (r : AEnd) (σ : Hp) (n : Nat) : Prop :=
 onEnd r (fun v18 =>
 bindP (aFad 11 v1) fun v20 =>
 bindP (aLd σ none v20) fun v21 =>
 CALL Tryd.prog (.fn 73 []) [a0, (.s [32, 71, 82, 79, 85, 80, 32, 66, 89, 32]), v21, (.fn 27 [])] σ n (kc_psyntax_printer_query4 v1 a0 R)) (fun v19 => R (.pan v19) σ n)
def kc_psyntax_printer_query6 (v1 : AV) (a0 : AV) (R : AEnd → Hp → Nat → Prop) (r : AEnd) (σ : Hp) (n : Nat) : Prop :=
 onEnd r (fun v14 =>
 bindP (aFad 10 v1) fun v16 =>
 bindP (aLd σ none v16) fun v17 =>
 CALL Tryd.prog (.fn 73 []) [a0, (.s [32, 87, 72, 69, 82, 69, 32]), v17, (.fn 27 [])] σ n (kc_psyntax_printer_query5 v1 a0 R)) (fun v15 => R (.pan v15) σ n)
def kc_psyntax_printer_query7 (K11 : List AV → Hp → Nat → Prop) (v40 : AV) (R : AEnd → Hp → Nat → Prop) (r : AEnd) (σ : Hp) (n : Nat) : Prop :=
 onEnd r (fun v44 =>
 K11 [v40] σ n) (fun v45 => R (.pan v45) σ n)
def jk_psyntax_printer_query8 (v1 : AV) (a0 : AV) (R : AEnd → Hp → Nat → Prop) (s11 : List AV) (σ : Hp) (n : Nat) : Prop :=
 bindP (aFad 9 v1) fun v12 =>
 bindP (aLd σ none v12) fun v13 =>
 CALL Tryd.prog (.fn 73 []) [a0, (.s [32, 79, 78, 32]), v13, (.fn 27 [])] σ n (kc_psyntax_printer_query6 v1 a0 R)
def kc_psyntax_printer_query9 (v1 : AV) (a0 : AV) (R : AEnd → Hp → Nat → Prop) (r : AEnd) (σ : Hp) (n : Nat) : Prop :=
 onEnd r (fun v9 =>
 JOIN (jk_psyntax_printer_query8 v1 a0 R) fun K11 =>
 bindP (aFad 8 v1) fun v38 =>
 bindP (aLd σ none v38) fun v39 =>
 bindP (semBin .neq v39 (.s [])) fun v40 =>
 COND v40 (
 bindP (aFad 8 v1) fun v41 =>
 bindP (aLd σ none v41) fun v42 =>
 bindS (hBsl σ n 1 [(.string ⟨#[]⟩)] 2 [(0, (.s [32, 74, 79, 73, 78, 32])), (1, v42)]) σ n fun v43 σ n =>
 CALL Tryd.prog (.fn 70 []) [a0, v43] σ n (kc_psyntax_printer_query7 K11 v40 R)) (
 K11 [v40] σ n)) (fun v10 => R (.pan v10) σ n)
def kc_psyntax_printer_query10 (v1 : AV) (a0 : AV) (R : AEnd → Hp → Nat → Prop) (r : AEnd) (σ : Hp) (n : Nat) : Prop :=
 onEnd r (fun v4 =>
 bindP (aFad 1 v1) fun v6 =>
 bindP (aLd σ none v6) fun v7 =>
 bindS (hBsl σ n 1 [(.string ⟨#[]⟩)] 2 [(0, (.s [32, 70, 82, 79, 77, 32])), (1, v7)]) σ n fun v8 σ n =>
 CALL Tryd.prog (.fn 70 []) [a0, v8] σ n (kc_psyntax_printer_query9 v1 a0 R)) (fun v5 => R (.pan v5) σ n)
attribute [go_sem] kc_psyntax_printer_query1 kc_psyntax_printer_query2 kc_psyntax_printer_query3 kc_psyntax_printer_query4 kc_psyntax_printer_query5 kc_psyntax_printer_query6 kc_psyntax_printer_query7 jk_psyntax_printer_query8 kc_psyntax_printer_query9 kc_psyntax_printer_query10
def sc_psyntax_printer_query : SCode := (.seq (.reg [ ⟨some 3,none,.box (.t 1)⟩]) (.seq (.reg [ ⟨some 4,none,.mv (.t 0)⟩,⟨some 5,none,.fad 7 (.t 3)⟩,⟨some 6,none,.ld none (.t 5)⟩,⟨some 7,none,.call (.c (.fn 73 [])) [(.t 4),(.c (.s [83,69,76,69,67,84,32])),(.t 6),(.c (.fn 27 []))]⟩]) (.seq (.reg [ ⟨some 8,none,.mv (.t 0)⟩,⟨some 9,none,.fad 1 (.t 3)⟩,⟨some 10,none,.ld none (.t 9)⟩,⟨some 11,none,.bsl 1 [(.string ⟨#[]⟩)] 2 [(0,(.c (.s [32,70,82,79,77,32]))),(1,(.t 10))]⟩,⟨some 12,none,.call (.c (.fn 70 [])) [(.t 8),(.t 11)]⟩]) (.seqJ [15] [13,14,15,16,17,18,19,20] (.seq (.reg [ ⟨some 13,none,.fad 8 (.t 3)⟩,⟨some 14,none,.ld none (.t 13)⟩,⟨some 15,none,.bin .neq (.t 14) (.c (.s []))⟩]) (.cond (.t 15) (.reg [ ⟨some 16,none,.mv (.t 0)⟩,⟨some 17,none,.fad 8 (.t 3)⟩,⟨some 18,none,.ld none (.t 17)⟩,⟨some 19,none,.bsl 1 [(.string ⟨#[]⟩)] 2 [(0,(.c (.s [32,74,79,73,78,32]))),(1,(.t 18))]⟩,⟨some 20,none,.call (.c (.fn 70 [])) [(.t 16),(.t 19)]⟩]) .skip)) (.seq (.reg [ ⟨some 21,none,.mv (.t 0)⟩,⟨some 22,none,.fad 9 (.t 3)⟩,⟨some 23,none,.ld none (.t 22)⟩,⟨some 24,none,.call (.c (.fn 73 [])) [(.t 21),(.c (.s [32,79,78,32])),(.t 23),(.c (.fn 27 []))]⟩]) (.seq (.reg [ ⟨some 25,none,.mv (.t 0)⟩,⟨some 26,none,.fad 10 (.t 3)⟩,⟨some 27,none,.ld none (.t 26)⟩,⟨some 28,none,.call (.c (.fn 73 [])) [(.t 25),(.c (.s [32,87,72,69,82,69,32])),(.t 27),(.c (.fn 27 []))]⟩]) (.seq (.reg [ ⟨some 29,none,.mv (.t 0)⟩,⟨some 30,none,.fad 11 (.t 3)⟩,⟨some 31,none,.ld none (.t 30)⟩,⟨some 32,none,.call (.c (.fn 73 [])) [(.t 29),(.c (.s [32,71,82,79,85,80,32,66,89,32])),(.t 31),(.c (.fn 27 []))]⟩]) (.seq (.reg [ ⟨some 33,none,.mv (.t 0)⟩,⟨some 34,none,.fad 12 (.t 3)⟩,⟨some 35,none,.ld none (.t 34)⟩,⟨some 36,none,.call (.c (.fn 112 [])) [(.t 33),(.c (.s [32,79,82,68,69,82,32,66,89,32])),(.t 35),(.c (.fn 113 []))]⟩]) (.seq (.reg [ ⟨some 37,none,.fad 13 (.t 3)⟩,⟨some 38,none,.ld none (.t 37)⟩,⟨some 39,none,.bin .geq (.t 38) (.c (.sc (.int .i64 0)))⟩]) (.cond (.t 39) (.reg [ ⟨some 40,none,.mv (.t 0)⟩,⟨some 41,none,.fad 13 (.t 3)⟩,⟨some 42,none,.ld none (.t 41)⟩,⟨some 43,none,.call (.c (.fn 100 [])) [(.t 42)]⟩,⟨some 44,none,.bsl 1 [(.string ⟨#[]⟩)] 2 [(0,(.c (.s [32,76,73,77,73,84,32]))),(1,(.t 43))]⟩,⟨some 45,none,.call (.c (.fn 70 [])) [(.t 40),(.t 44)]⟩]) .skip))))))))))
def sh_psyntax_printer_query (a0 a1 : AV) (σ : Hp) (n : Nat) (R : AEnd → Hp → Nat → Prop) : Prop :=
 bindS (hBox n a1) σ n fun v1 σ n =>
 bindP (aFad 7 v1) fun v2 =>
 bindP (aLd σ none v2) fun v3 =>
 CALL Tryd.prog (.fn 73 []) [a0, (.s [83, 69, 76, 69, 67, 84, 32]), v3, (.fn 27 [])] σ n (kc_psyntax_printer_query10 v1 a0 R)
theorem se_psyntax_printer_query (a0 a1 : AV) (σ : Hp) (n : Nat) (R : AEnd → Hp → Nat → Prop) : sh_psyntax_printer_query a0 a1 σ n R = swp Tryd.prog sc_psyntax_printer_query (retQ [] R) (entry [a0, a1]) σ n := by kernel_rfl
theorem by_psyntax_printer_query {a0 a1 : AV} {σ : Hp} {n : Nat} {R : AEnd → Hp → Nat → Prop} (h : sh_psyntax_printer_query a0 a1 σ n R) : ConH Tryd.prog 76 [a0, a1] σ n R := by
  rw [se_psyntax_printer_query] at h
  exact conH_of [] (fn := Tryd.f76) rfl [1, 15, 39, 0, 3] (by kernel_rfl) (by kernel_rfl) (by kernel_rfl) (by kernel_rfl) h
def kc_psyntax_printer_query_c11 (R : AEnd → Hp → Nat → Prop) (r : AEnd) (σ : Hp) (n : Nat) : Prop :=
 onEnd r (fun v6 =>
 bindP (semBin .add v6 (.s [32, 68, 69, 83, 67])) fun v8 =>
 R (.ret v8) σ n) (fun v7 => R (.pan v7) σ n)
def kc_psyntax_printer_query_c12 (R : AEnd → Hp → Nat → Prop) (r : AEnd) (σ : Hp) (n : Nat) : Prop :=
 onEnd r (fun v11 =>
 R (.ret v11) σ n) (fun v12 => R (.pan v12) σ n)
attribute [go_sem] kc_psyntax_printer_query_c11 kc_psyntax_printer_query_c12
def sc_psyntax_printer_query_c1 : SCode := (.seq (.reg [ ⟨some 1,none,.box (.t 0)⟩,⟨some 2,none,.mv (.c (.s []))⟩]) (.seq (.seq (.reg [ ⟨some 3,none,.fad 1 (.t 1)⟩,⟨some 4,none,.ld none (.t 3)⟩]) (.cond (.t 4) (.seq (.reg [ ⟨some 5,none,.fad 0 (.t 1)⟩,⟨some 6,none,.ld none (.t 5)⟩,⟨some 7,none,.call (.c (.fn 100 [])) [(.t 6)]⟩,⟨some 8,none,.bin .add (.t 7) (.c (.s [32,68,69,83,67]))⟩,⟨some 2,none,.mv (.t 8)⟩]) .ret) .skip)) (.seq (.reg [ ⟨some 9,none,.fad 0 (.t 1)⟩,⟨some 10,none,.ld none (.t 9)⟩,⟨some 11,none,.call (.c (.fn 100 [])) [(.t 10)]⟩,⟨some 2,none,.mv (.t 11)⟩]) .ret)))
def sh_psyntax_printer_query_c1 (a0 : AV) (σ : Hp) (n : Nat) (R : AEnd → Hp → Nat → Prop) : Prop :=
 bindS (hBox n a0) σ n fun v1 σ n =>
 bindP (aFad 1 v1) fun v2 =>
 bindP (aLd σ none v2) fun v3 =>
 COND v3 (
 bindP (aFad 0 v1) fun v4 =>
 bindP (aLd σ none v4) fun v5 =>
 CALL Tryd.prog (.fn 100 []) [v5] σ n (kc_psyntax_printer_query_c11 R)) (
 bindP (aFad 0 v1) fun v9 =>
 bindP (aLd σ none v9) fun v10 =>
 CALL Tryd.prog (.fn 100 []) [v10] σ n (kc_psyntax_printer_query_c12 R))
theorem se_psyntax_printer_query_c1 (a0 : AV) (σ : Hp) (n : Nat) (R : AEnd → Hp → Nat → Prop) : sh_psyntax_printer_query_c1 a0 σ n R = swp Tryd.prog sc_psyntax_printer_query_c1 (retQ [(.t 2)] R) (entry [a0]) σ n := by kernel_rfl
theorem by_psyntax_printer_query_c1 {a0 : AV} {σ : Hp} {n : Nat} {R : AEnd → Hp → Nat → Prop} (h : sh_psyntax_printer_query_c1 a0 σ n R) : ConH Tryd.prog 113 [a0] σ n R := by
  rw [se_psyntax_printer_query_c1] at h
  exact conH_of [(.t 2)] (fn := Tryd.f113) rfl [0, 4, 1, 2] (by kernel_rfl) (by kernel_rfl) (by kernel_rfl) (by kernel_rfl) h
def kc_psyntax_printer_create1 (R : AEnd → Hp → Nat → Prop) (r : AEnd) (σ : Hp) (n : Nat) : Prop :=
 onEnd r (fun v14 =>
 R (.ret (.tp [])) σ n) (fun v15 => R (.pan v15) σ n)
def kc_psyntax_printer_create2 (v1 : AV) (a0 : AV) (R : AEnd → Hp → Nat → Prop) (r : AEnd) (σ : Hp) (n : Nat) : Prop :=
 onEnd r (fun v9 =>
 bindP (aFad 3 v1) fun v11 =>
 bindP (aLd σ none v11) fun v12 =>
 bindS (hBsl σ n 1 [(.string ⟨#[]⟩)] 3 [(0, (.s [44, 32, 80, 82, 73, 77, 65, 82, 89, 32, 75, 69, 89, 32, 40])), (1, v12), (2, (.s [41, 41]))]) σ n fun v13 σ n =>
 CALL Tryd.prog (.fn 70 []) [a0, v13] σ n (kc_psyntax_printer_create1 R)) (fun v10 => R (.pan v10) σ n)
def kc_psyntax_printer_create3 (v1 : AV) (a0 : AV) (R : AEnd → Hp → Nat → Prop) (r : AEnd) (σ : Hp) (n : Nat) : Prop :=
 onEnd r (fun v5 =>
 bindP (aFad 2 v1) fun v7 =>
 bindP (aLd σ none v7) fun v8 =>
 CALL Tryd.prog (.fn 109 []) [a0, (.s [32, 40]), v8, (.fn 110 [])] σ n (kc_psyntax_printer_create2 v1 a0 R)) (fun v6 => R (.pan v6) σ n)
attribute [go_sem] kc_psyntax_printer_create1 kc_psyntax_printer_create2 kc_psyntax_printer_create3
def sc_psyntax_printer_create : SCode := (.seq (.reg [ ⟨some 3,none,.box (.t 1)⟩]) (.seq (.reg [ ⟨some 4,none,.mv (.t 0)⟩,⟨some 5,none,.fad 1 (.t 3)⟩,⟨some 6,none,.ld none (.t 5)⟩,⟨some 7,none,.bsl 1 [(.string ⟨#[]⟩)] 2 [(0,(.c (.s [67,82,69,65,84,69,32,84,65,66,76,69,32]))),(1,(.t 6))]⟩,⟨some 8,none,.call (.c (.fn 70 [])) [(.t 4),(.t 7)]⟩]) (.seq (.reg [ ⟨some 9,none,.mv (.t 0)⟩,⟨some 10,none,.fad 2 (.t 3)⟩,⟨some 11,none,.ld none (.t 10)⟩,⟨some 12,none,.call (.c (.fn 109 [])) [(.t 9),(.c (.s [32,40])),(.t 11),(.c (.fn 110 []))]⟩]) (.reg [ ⟨some 13,none,.mv (.t 0)⟩,⟨some 14,none,.fad 3 (.t 3)⟩,⟨some 15,none,.ld none (.t 14)⟩,⟨some 16,none,.bsl 1 [(.string ⟨#[]⟩)] 3 [(0,(.c (.s [44,32,80,82,73,77,65,82,89,32,75,69,89,32,40]))),(1,(.t 15)),(2,(.c (.s [41,41])))]⟩,⟨some 17,none,.call (.c (.fn 70 [])) [(.t 13),(.t 16)]⟩]))))
def sh_psyntax_printer_create (a0 a1 : AV) (σ : Hp) (n : Nat) (R : AEnd → Hp → Nat → Prop) : Prop :=
 bindS (hBox n a1) σ n fun v1 σ n =>
 bindP (aFad 1 v1) fun v2 =>
 bindP (aLd σ none v2) fun v3 =>
 bindS (hBsl σ n 1 [(.string ⟨#[]⟩)] 2 [(0, (.s [67, 82, 69, 65, 84, 69, 32, 84, 65, 66, 76, 69, 32])), (1, v3)]) σ n fun v4 σ n =>
 CALL Tryd.prog (.fn 70 []) [a0, v4] σ n (kc_psyntax_printer_create3 v1 a0 R)
theorem se_psyntax_printer_create (a0 a1 : AV) (σ : Hp) (n : Nat) (R : AEnd → Hp → Nat → Prop) : sh_psyntax_printer_create a0 a1 σ n R = swp Tryd.prog sc_psyntax_printer_create (retQ [] R) (entry [a0, a1]) σ n := by kernel_rfl
theorem by_psyntax_printer_create {a0 a1 : AV} {σ : Hp} {n : Nat} {R : AEnd → Hp → Nat → Prop} (h : sh_psyntax_printer_create a0 a1 σ n R) : ConH Tryd.prog 69 [a0, a1] σ n R := by
  rw [se_psyntax_printer_create] at h
  exact conH_of [] (fn := Tryd.f69) rfl [1, 0, 3] (by kernel_rfl) (by kernel_rfl) (by kernel_rfl) (by kernel_rfl) h
def jk_psyntax_printer_create_c11 (R : AEnd → Hp → Nat → Prop) (s11 : List AV) (σ : Hp) (n : Nat) : Prop :=
 R (.ret (s11.getD 1 .any)) σ n
attribute [go_sem] jk_psyntax_printer_create_c11
def sc_psyntax_printer_create_c1 : SCode := (.seq (.reg [ ⟨some 1,none,.box (.t 0)⟩,⟨some 2,none,.mv (.c (.s []))⟩]) (.seq (.regD [(⟨some 4,none,.fad 0 (.t 1)⟩,[]),(⟨some 5,none,.ld none (.t 4)⟩,[0]),(⟨(some 6),none,(.build [(.string ⟨#[]⟩),(.string ⟨#[]⟩),(.string ⟨#[]⟩)] [(0,(1,(.c (.s [32,73,78,84])))),(1,(1,(.c (.s [32,66,79,79,76])))),(2,(1,(.c (.s [32,84,69,88,84]))))])⟩,[]),(⟨some 7,none,.fad 1 (.t 1)⟩,[]),(⟨some 8,none,.ld none (.t 7)⟩,[3]),(⟨some 9,none,.bin .sub (.t 8) (.c (.sc (.int .i64 1)))⟩,[4,3]),(⟨some 10,none,.iarr none 1 3 (.t 6) (.t 9)⟩,[2,5,4,3]),(⟨some 11,none,.bin .add (.t 5) (.t 10)⟩,[1,0,6,2,5,4,3]),(⟨some 3,none,.mv (.t 11)⟩,[7,1,0,6,2,5,4,3])]) (.seqJ [13,3] [12,13,14,15,3] (.seq (.reg [ ⟨some 12,none,.fad 2 (.t 1)⟩,⟨some 13,none,.ld none (.t 12)⟩]) (.cond (.t 13) (.reg [ ⟨some 14,none,.mv (.t 3)⟩,⟨some 15,none,.bin .add (.t 14) (.c (.s [32,78,79,84,32,78,85,76,76]))⟩,⟨some 3,none,.mv (.t 15)⟩]) .skip)) (.seq (.reg [ ⟨some 16,none,.mv (.t 3)⟩,⟨some 2,none,.mv (.t 16)⟩]) .ret))))
def sh_psyntax_printer_create_c1 (a0 : AV) (σ : Hp) (n : Nat) (R : AEnd → Hp → Nat → Prop) : Prop :=
 bindS (hBox n a0) σ n fun v1 σ n =>
 bindP (aFad 0 v1) fun v2 =>
 bindP (aLd σ none v2) fun v3 =>
 bindP (aBuild [(.string ⟨#[]⟩), (.string ⟨#[]⟩), (.string ⟨#[]⟩)] [(0, 1, (.s [32, 73, 78, 84])), (1, 1, (.s [32, 66, 79, 79, 76])), (2, 1, (.s [32, 84, 69, 88, 84]))]) fun v4 =>
 bindP (aFad 1 v1) fun v5 =>
 bindP (aLd σ none v5) fun v6 =>
 bindP (semBin .sub v6 (.sc (.int .i64 1))) fun v7 =>
 bindP (aIarr none 1 3 v4 v7) fun v8 =>
 bindP (semBin .add v3 v8) fun v9 =>
 Apt (names []) (rdA v2) (names []) (rdA v5) ∧
 ∀ n_, n + 16 * 9 ≤ n_ → (fun n => JOIN (jk_psyntax_printer_create_c11 R) fun K11 =>
 bindP (aFad 2 v1) fun v12 =>
 bindP (aLd σ none v12) fun v13 =>
 COND v13 (
 bindP (semBin .add v9 (.s [32, 78, 79, 84, 32, 78, 85, 76, 76])) fun v14 =>
 K11 [v13, v14] σ n) (
 K11 [v13, v9] σ n)) n_
theorem se_psyntax_printer_create_c1 (a0 : AV) (σ : Hp) (n : Nat) (R : AEnd → Hp → Nat → Prop) : sh_psyntax_printer_create_c1 a0 σ n R = swp Tryd.prog sc_psyntax_printer_create_c1 (retQ [(.t 2)] R) (entry [a0]) σ n := by kernel_rfl
theorem by_psyntax_printer_create_c1 {a0 : AV} {σ : Hp} {n : Nat} {R : AEnd → Hp → Nat → Prop} (h : sh_psyntax_printer_create_c1 a0 σ n R) : ConH Tryd.prog 110 [a0] σ n R := by
  rw [se_psyntax_printer_create_c1] at h
  exact conH_of [(.t 2)] (fn := Tryd.f110) rfl [0, 1, 13, 3, 2] (by kernel_rfl) (by kernel_rfl) (by kernel_rfl) (by kernel_rfl) h
def kc_syntax_Print1 (R : AEnd → Hp → Nat → Prop) (r : AEnd) (σ : Hp) (n : Nat) : Prop :=
 onEnd r (fun v11 =>
 R (.ret (.tp [v11, (.sc (.int .i64 0))])) σ n) (fun v12 => R (.pan v12) σ n)
def kc_syntax_Print2 (v6 : AV) (R : AEnd → Hp → Nat → Prop) (r : AEnd) (σ : Hp) (n : Nat) : Prop :=
 onEnd r (fun v8 =>
 bindP (aFad 0 v6) fun v10 =>
 CALL Tryd.prog (.fn 49 []) [v10] σ n (kc_syntax_Print1 R)) (fun v9 => R (.pan v9) σ n)
def kc_syntax_Print3 (R : AEnd → Hp → Nat → Prop) (v1 : AV) (r : AEnd) (σ : Hp) (n : Nat) : Prop :=
 onEnd r (fun v3 =>
 bindP (semBin .neq v3 (.sc (.int .i64 0))) fun v5 =>
 COND v5 (
 R (.ret (.tp [(.s []), v3])) σ n) (
 bindS (hAllt n 84 [(.pointer none), (.slice none 0 0)]) σ n fun v6 σ n =>
 bindP (aLd σ (some 14) v1) fun v7 =>
 CALL Tryd.prog (.fn 48 []) [v6, v7] σ n (kc_syntax_Print2 v6 R))) (fun v4 => R (.pan v4) σ n)
attribute [go_sem] kc_syntax_Print1 kc_syntax_Print2 kc_syntax_Print3
def sc_syntax_Print : SCode := (.seq (.reg [ ⟨some 1,none,.box (.t 0)⟩,⟨some 2,none,.mv (.c (.s []))⟩,⟨some 3,none,.mv (.c (.sc (.int .i64 0)))⟩]) (.seq (.seq (.reg [ ⟨some 6,none,.ld (some 14) (.t 1)⟩,⟨some 7,none,.call (.c (.fn 26 [])) [(.t 6)]⟩,⟨some 4,none,.mv (.t 7)⟩]) (.seq (.reg [ ⟨some 8,none,.mv (.t 4)⟩,⟨some 9,none,.bin .neq (.t 8) (.c (.sc (.int .i64 0)))⟩]) (.cond (.t 9) (.seq (.reg [ ⟨some 10,none,.mv (.t 4)⟩,⟨some 2,none,.mv (.c (.s []))⟩,⟨some 3,none,.mv (.t 10)⟩]) .ret) .skip))) (.seq (.reg [ ⟨some 5,none,.allt 84 [(.pointer none),(.slice none 0 0)]⟩]) (.seq (.reg [ ⟨some 11,none,.ld (some 14) (.t 1)⟩,⟨some 12,none,.call (.c (.fn 48 [])) [(.t 5),(.t 11)]⟩]) (.seq (.reg [ ⟨some 13,none,.fad 0 (.t 5)⟩,⟨some 14,none,.call (.c (.fn 49 [])) [(.t 13)]⟩,⟨some 2,none,.mv (.t 14)⟩,⟨some 3,none,.mv (.c (.sc (.int .i64 0)))⟩]) .ret)))))
def sh_syntax_Print (a0 : AV) (σ : Hp) (n : Nat) (R : AEnd → Hp → Nat → Prop) : Prop :=
 bindS (hBox n a0) σ n fun v1 σ n =>
 bindP (aLd σ (some 14) v1) fun v2 =>
 CALL Tryd.prog (.fn 26 []) [v2] σ n (kc_syntax_Print3 R v1)
theorem se_syntax_Print (a0 : AV) (σ : Hp) (n : Nat) (R : AEnd → Hp → Nat → Prop) : sh_syntax_Print a0 σ n R = swp Tryd.prog sc_syntax_Print (retQ [(.t 2), (.t 3)] R) (entry [a0]) σ n := by kernel_rfl
theorem by_syntax_Print {a0 : AV} {σ : Hp} {n : Nat} {R : AEnd → Hp → Nat → Prop} (h : sh_syntax_Print a0 σ n R) : ConH Tryd.prog 21 [a0] σ n R := by
  rw [se_syntax_Print] at h
  exact conH_of [(.t 2), (.t 3)] (fn := Tryd.f21) rfl [0, 9, 4, 1, 5, 2, 3] (by kernel_rfl) (by kernel_rfl) (by kernel_rfl) (by kernel_rfl) h
end Go.Proofs.YtodoejfkjimeaaaDoor
