/- Packed by a program of this repo: Sh4c. -/
import Derived.Test.YtodoejfkjimeaaaGreatDoorKTMs
import Derived.Test.YtodoejfkjimeaaaGreatDoorProg
set_option linter.unusedVariables false
set_option maxRecDepth 8000
namespace Go.Proofs.YtodoejfkjimeaaaGreatDoor
open Go Am
def kc_pstrings_Builder_WriteString1 (a0 : AV) (a1 : AV) (R : AEnd → Hp → Nat → Prop) (r : AEnd) (σ : Hp) (n : Nat) : Prop :=
 onEnd r (fun v1 =>
 bindP (aNck a0) fun v3 =>
 bindP (aFad 1 v3) fun v4 =>
 bindP (aLd σ none v4) fun v5 =>
 bindS (hAps σ n 1 v5 a1) σ n fun v6 σ n =>
 bindP (aNck a0) fun v7 =>
 bindP (aFad 1 v7) fun v8 =>
 bindS (hSt σ 1 v8 v6) σ n fun v9 σ n =>
 bindP (aLen true a1) fun v10 => bnd σ a1 →
 R (.ret (.tp [v10, (.sc .nilIface)])) σ n) (fun v2 => R (.pan v2) σ n)
attribute [go_sem] kc_pstrings_Builder_WriteString1
noncomputable def sc_pstrings_Builder_WriteString : SCode := (Tryz.f72.body.bind (cmpC Tryz.prog Tryz.f72.ntmps [0, 1, 4, 5])).getD .skip
def sh_pstrings_Builder_WriteString (a0 a1 : AV) (σ : Hp) (n : Nat) (R : AEnd → Hp → Nat → Prop) : Prop :=
 CALL Tryz.prog (.fn 86 []) [a0] σ n (kc_pstrings_Builder_WriteString1 a0 a1 R)
theorem se_pstrings_Builder_WriteString (a0 a1 : AV) (σ : Hp) (n : Nat) (R : AEnd → Hp → Nat → Prop) : sh_pstrings_Builder_WriteString a0 a1 σ n R = swp Tryz.prog sc_pstrings_Builder_WriteString (retQ [(.t 4), (.t 5)] R) (entry [a0, a1]) σ n := by kernel_rfl
theorem by_pstrings_Builder_WriteString {a0 a1 : AV} {σ : Hp} {n : Nat} {R : AEnd → Hp → Nat → Prop} (h : sh_pstrings_Builder_WriteString a0 a1 σ n R) : ConH Tryz.prog 72 [a0, a1] σ n R := by
  rw [se_pstrings_Builder_WriteString] at h
  exact conH_of [(.t 4), (.t 5)] (fn := Tryz.f72) rfl [0, 1, 4, 5] (by kernel_rfl) (by kernel_rfl) (by kernel_rfl) (by kernel_rfl) h
def kc_psyntax_printer_put1 (s2 : List AV) (K2 : List AV → Hp → Nat → Prop) (v3 : AV) (v5 : AV) (R : AEnd → Hp → Nat → Prop) (r : AEnd) (σ : Hp) (n : Nat) : Prop :=
 onEnd r (fun v8 =>
 bindP (semBin .add (s2.getD 2 .any) (.sc (.int .i64 1))) fun v10 =>
 K2 [v3, v5, v10] σ n) (fun v9 => R (.pan v9) σ n)
def lb_psyntax_printer_put2 (v1 : AV) (a1 : AV) (a0 : AV) (R : AEnd → Hp → Nat → Prop) (K2 : List AV → Hp → Nat → Prop) (s2 : List AV) (σ : Hp) (n : Nat) : Prop :=
 bindP (semBin .lss (s2.getD 2 .any) v1) fun v3 =>
 COND v3 (
 bindP (aIad 1 a1 (s2.getD 2 .any)) fun v4 =>
 bindP (aLd σ none v4) fun v5 =>
 bindP (aNck a0) fun v6 =>
 bindP (aFad 0 v6) fun v7 =>
 CALL Tryz.prog (.fn 72 []) [v7, v5] σ n (kc_psyntax_printer_put1 s2 K2 v3 v5 R)) (
 R (.ret (.tp [])) σ n)
attribute [go_sem] kc_psyntax_printer_put1 lb_psyntax_printer_put2
noncomputable def sc_psyntax_printer_put : SCode := (Tryz.f40.body.bind (cmpC Tryz.prog Tryz.f40.ntmps [1, 7, 9, 6, 0, 5, 8])).getD .skip
def sh_psyntax_printer_put (a0 a1 : AV) (σ : Hp) (n : Nat) (R : AEnd → Hp → Nat → Prop) : Prop :=
 bindP (aLen false a1) fun v1 => bnd σ a1 →
 LOOP (lb_psyntax_printer_put2 v1 a1 a0 R) [(.tp []), (.tp []), (.sc (.int .i64 0))] σ n
theorem se_psyntax_printer_put (a0 a1 : AV) (σ : Hp) (n : Nat) (R : AEnd → Hp → Nat → Prop) : sh_psyntax_printer_put a0 a1 σ n R = swp Tryz.prog sc_psyntax_printer_put (retQ [] R) (entry [a0, a1]) σ n := by kernel_rfl
theorem by_psyntax_printer_put {a0 a1 : AV} {σ : Hp} {n : Nat} {R : AEnd → Hp → Nat → Prop} (h : sh_psyntax_printer_put a0 a1 σ n R) : ConH Tryz.prog 40 [a0, a1] σ n R := by
  rw [se_psyntax_printer_put] at h
  exact conH_of [] (fn := Tryz.f40) rfl [1, 7, 9, 6, 0, 5, 8] (by kernel_rfl) (by kernel_rfl) (by kernel_rfl) (by kernel_rfl) h
def kc_syntax_list_lapi_Expr1 (s2 : List AV) (K2 : List AV → Hp → Nat → Prop) (v3 : AV) (v5 : AV) (R : AEnd → Hp → Nat → Prop) (r : AEnd) (σ : Hp) (n : Nat) : Prop :=
 onEnd r (fun v9 =>
 bindP (semBin .add (s2.getD 3 .any) (.sc (.int .i64 1))) fun v11 =>
 K2 [v3, v5, (.s [44, 32]), v11] σ n) (fun v10 => R (.pan v10) σ n)
def kc_syntax_list_lapi_Expr2 (s2 : List AV) (a0 : AV) (K2 : List AV → Hp → Nat → Prop) (v3 : AV) (v5 : AV) (R : AEnd → Hp → Nat → Prop) (r : AEnd) (σ : Hp) (n : Nat) : Prop :=
 onEnd r (fun v6 =>
 bindS (hBsl σ n 1 [(.string ⟨#[]⟩)] 2 [(0, (s2.getD 2 .any)), (1, v6)]) σ n fun v8 σ n =>
 CALL Tryz.prog (.fn 40 []) [a0, v8] σ n (kc_syntax_list_lapi_Expr1 s2 K2 v3 v5 R)) (fun v7 => R (.pan v7) σ n)
def lb_syntax_list_lapi_Expr3 (v1 : AV) (a2 : AV) (a3 : AV) (a0 : AV) (R : AEnd → Hp → Nat → Prop) (K2 : List AV → Hp → Nat → Prop) (s2 : List AV) (σ : Hp) (n : Nat) : Prop :=
 bindP (semBin .lss (s2.getD 3 .any) v1) fun v3 =>
 COND v3 (
 bindP (aIad 1 a2 (s2.getD 3 .any)) fun v4 =>
 bindP (aLd σ none v4) fun v5 =>
 CALL Tryz.prog a3 [v5] σ n (kc_syntax_list_lapi_Expr2 s2 a0 K2 v3 v5 R)) (
 R (.ret (.tp [])) σ n)
attribute [go_sem] kc_syntax_list_lapi_Expr1 kc_syntax_list_lapi_Expr2 lb_syntax_list_lapi_Expr3
noncomputable def sc_syntax_list_lapi_Expr : SCode := (Tryz.f41.body.bind (cmpC Tryz.prog Tryz.f41.ntmps [2, 11, 13, 10, 0, 1, 3, 9, 12])).getD .skip
def sh_syntax_list_lapi_Expr (a0 a1 a2 a3 : AV) (σ : Hp) (n : Nat) (R : AEnd → Hp → Nat → Prop) : Prop :=
 bindP (aLen false a2) fun v1 => bnd σ a2 →
 LOOP (lb_syntax_list_lapi_Expr3 v1 a2 a3 a0 R) [(.tp []), (.tp []), a1, (.sc (.int .i64 0))] σ n
theorem se_syntax_list_lapi_Expr (a0 a1 a2 a3 : AV) (σ : Hp) (n : Nat) (R : AEnd → Hp → Nat → Prop) : sh_syntax_list_lapi_Expr a0 a1 a2 a3 σ n R = swp Tryz.prog sc_syntax_list_lapi_Expr (retQ [] R) (entry [a0, a1, a2, a3]) σ n := by kernel_rfl
theorem by_syntax_list_lapi_Expr {a0 a1 a2 a3 : AV} {σ : Hp} {n : Nat} {R : AEnd → Hp → Nat → Prop} (h : sh_syntax_list_lapi_Expr a0 a1 a2 a3 σ n R) : ConH Tryz.prog 41 [a0, a1, a2, a3] σ n R := by
  rw [se_syntax_list_lapi_Expr] at h
  exact conH_of [] (fn := Tryz.f41) rfl [2, 11, 13, 10, 0, 1, 3, 9, 12] (by kernel_rfl) (by kernel_rfl) (by kernel_rfl) (by kernel_rfl) h
def kc_syntax_list_api_Expr1 (s2 : List AV) (K2 : List AV → Hp → Nat → Prop) (v3 : AV) (v6 : AV) (R : AEnd → Hp → Nat → Prop) (r : AEnd) (σ : Hp) (n : Nat) : Prop :=
 onEnd r (fun v12 =>
 bindP (semBin .add (s2.getD 3 .any) (.sc (.int .i64 1))) fun v14 =>
 K2 [v3, v6, (.s [44, 32]), v14] σ n) (fun v13 => R (.pan v13) σ n)
def kc_syntax_list_api_Expr2 (s2 : List AV) (a0 : AV) (K2 : List AV → Hp → Nat → Prop) (v3 : AV) (v6 : AV) (R : AEnd → Hp → Nat → Prop) (r : AEnd) (σ : Hp) (n : Nat) : Prop :=
 onEnd r (fun v9 =>
 bindS (hBsl σ n 1 [(.string ⟨#[]⟩)] 2 [(0, (s2.getD 2 .any)), (1, v9)]) σ n fun v11 σ n =>
 CALL Tryz.prog (.fn 40 []) [a0, v11] σ n (kc_syntax_list_api_Expr1 s2 K2 v3 v6 R)) (fun v10 => R (.pan v10) σ n)
def lb_syntax_list_api_Expr3 (v1 : AV) (a2 : AV) (a3 : AV) (a0 : AV) (R : AEnd → Hp → Nat → Prop) (K2 : List AV → Hp → Nat → Prop) (s2 : List AV) (σ : Hp) (n : Nat) : Prop :=
 bindP (semBin .lss (s2.getD 3 .any) v1) fun v3 =>
 COND v3 (
 bindP (aIad 7 a2 (s2.getD 3 .any)) fun v4 =>
 bindP (aLd σ (some 7) v4) fun v5 =>
 bindS (hAlloc n [(.int .i64 0), (.int .i64 0), (.int .i64 0), (.string ⟨#[]⟩), (.string ⟨#[]⟩), (.string ⟨#[]⟩), (.slice none 0 0)]) σ n fun v6 σ n =>
 bindS (hSt σ 7 v6 v5) σ n fun v7 σ n =>
 bindP (aLd σ (some 7) v6) fun v8 =>
 CALL Tryz.prog a3 [v8] σ n (kc_syntax_list_api_Expr2 s2 a0 K2 v3 v6 R)) (
 R (.ret (.tp [])) σ n)
attribute [go_sem] kc_syntax_list_api_Expr1 kc_syntax_list_api_Expr2 lb_syntax_list_api_Expr3
noncomputable def sc_syntax_list_api_Expr : SCode := (Tryz.f43.body.bind (cmpC Tryz.prog Tryz.f43.ntmps [2, 11, 13, 10, 0, 1, 3, 9, 12])).getD .skip
def sh_syntax_list_api_Expr (a0 a1 a2 a3 : AV) (σ : Hp) (n : Nat) (R : AEnd → Hp → Nat → Prop) : Prop :=
 bindP (aLen false a2) fun v1 => bnd σ a2 →
 LOOP (lb_syntax_list_api_Expr3 v1 a2 a3 a0 R) [(.tp []), (.tp []), a1, (.sc (.int .i64 0))] σ n
theorem se_syntax_list_api_Expr (a0 a1 a2 a3 : AV) (σ : Hp) (n : Nat) (R : AEnd → Hp → Nat → Prop) : sh_syntax_list_api_Expr a0 a1 a2 a3 σ n R = swp Tryz.prog sc_syntax_list_api_Expr (retQ [] R) (entry [a0, a1, a2, a3]) σ n := by kernel_rfl
theorem by_syntax_list_api_Expr {a0 a1 a2 a3 : AV} {σ : Hp} {n : Nat} {R : AEnd → Hp → Nat → Prop} (h : sh_syntax_list_api_Expr a0 a1 a2 a3 σ n R) : ConH Tryz.prog 43 [a0, a1, a2, a3] σ n R := by
  rw [se_syntax_list_api_Expr] at h
  exact conH_of [] (fn := Tryz.f43) rfl [2, 11, 13, 10, 0, 1, 3, 9, 12] (by kernel_rfl) (by kernel_rfl) (by kernel_rfl) (by kernel_rfl) h
def kc_syntax_list_api_Set1 (s2 : List AV) (K2 : List AV → Hp → Nat → Prop) (v3 : AV) (v6 : AV) (R : AEnd → Hp → Nat → Prop) (r : AEnd) (σ : Hp) (n : Nat) : Prop :=
 onEnd r (fun v12 =>
 bindP (semBin .add (s2.getD 3 .any) (.sc (.int .i64 1))) fun v14 =>
 K2 [v3, v6, (.s [44, 32]), v14] σ n) (fun v13 => R (.pan v13) σ n)
def kc_syntax_list_api_Set2 (s2 : List AV) (a0 : AV) (K2 : List AV → Hp → Nat → Prop) (v3 : AV) (v6 : AV) (R : AEnd → Hp → Nat → Prop) (r : AEnd) (σ : Hp) (n : Nat) : Prop :=
 onEnd r (fun v9 =>
 bindS (hBsl σ n 1 [(.string ⟨#[]⟩)] 2 [(0, (s2.getD 2 .any)), (1, v9)]) σ n fun v11 σ n =>
 CALL Tryz.prog (.fn 40 []) [a0, v11] σ n (kc_syntax_list_api_Set1 s2 K2 v3 v6 R)) (fun v10 => R (.pan v10) σ n)
def lb_syntax_list_api_Set3 (v1 : AV) (a2 : AV) (a3 : AV) (a0 : AV) (R : AEnd → Hp → Nat → Prop) (K2 : List AV → Hp → Nat → Prop) (s2 : List AV) (σ : Hp) (n : Nat) : Prop :=
 bindP (semBin .lss (s2.getD 3 .any) v1) fun v3 =>
 COND v3 (
 bindP (aIad 8 a2 (s2.getD 3 .any)) fun v4 =>
 bindP (aLd σ (some 8) v4) fun v5 =>
 bindS (hAlloc n [(.string ⟨#[]⟩), (.int .i64 0), (.int .i64 0), (.int .i64 0), (.string ⟨#[]⟩), (.string ⟨#[]⟩), (.string ⟨#[]⟩), (.slice none 0 0)]) σ n fun v6 σ n =>
 bindS (hSt σ 8 v6 v5) σ n fun v7 σ n =>
 bindP (aLd σ (some 8) v6) fun v8 =>
 CALL Tryz.prog a3 [v8] σ n (kc_syntax_list_api_Set2 s2 a0 K2 v3 v6 R)) (
 R (.ret (.tp [])) σ n)
attribute [go_sem] kc_syntax_list_api_Set1 kc_syntax_list_api_Set2 lb_syntax_list_api_Set3
noncomputable def sc_syntax_list_api_Set : SCode := (Tryz.f45.body.bind (cmpC Tryz.prog Tryz.f45.ntmps [2, 11, 13, 10, 0, 1, 3, 9, 12])).getD .skip
def sh_syntax_list_api_Set (a0 a1 a2 a3 : AV) (σ : Hp) (n : Nat) (R : AEnd → Hp → Nat → Prop) : Prop :=
 bindP (aLen false a2) fun v1 => bnd σ a2 →
 LOOP (lb_syntax_list_api_Set3 v1 a2 a3 a0 R) [(.tp []), (.tp []), a1, (.sc (.int .i64 0))] σ n
theorem se_syntax_list_api_Set (a0 a1 a2 a3 : AV) (σ : Hp) (n : Nat) (R : AEnd → Hp → Nat → Prop) : sh_syntax_list_api_Set a0 a1 a2 a3 σ n R = swp Tryz.prog sc_syntax_list_api_Set (retQ [] R) (entry [a0, a1, a2, a3]) σ n := by kernel_rfl
theorem by_syntax_list_api_Set {a0 a1 a2 a3 : AV} {σ : Hp} {n : Nat} {R : AEnd → Hp → Nat → Prop} (h : sh_syntax_list_api_Set a0 a1 a2 a3 σ n R) : ConH Tryz.prog 45 [a0, a1, a2, a3] σ n R := by
  rw [se_syntax_list_api_Set] at h
  exact conH_of [] (fn := Tryz.f45) rfl [2, 11, 13, 10, 0, 1, 3, 9, 12] (by kernel_rfl) (by kernel_rfl) (by kernel_rfl) (by kernel_rfl) h
def kc_syntax_list_api_Column1 (s2 : List AV) (K2 : List AV → Hp → Nat → Prop) (v3 : AV) (v6 : AV) (R : AEnd → Hp → Nat → Prop) (r : AEnd) (σ : Hp) (n : Nat) : Prop :=
 onEnd r (fun v12 =>
 bindP (semBin .add (s2.getD 3 .any) (.sc (.int .i64 1))) fun v14 =>
 K2 [v3, v6, (.s [44, 32]), v14] σ n) (fun v13 => R (.pan v13) σ n)
def kc_syntax_list_api_Column2 (s2 : List AV) (a0 : AV) (K2 : List AV → Hp → Nat → Prop) (v3 : AV) (v6 : AV) (R : AEnd → Hp → Nat → Prop) (r : AEnd) (σ : Hp) (n : Nat) : Prop :=
 onEnd r (fun v9 =>
 bindS (hBsl σ n 1 [(.string ⟨#[]⟩)] 2 [(0, (s2.getD 2 .any)), (1, v9)]) σ n fun v11 σ n =>
 CALL Tryz.prog (.fn 40 []) [a0, v11] σ n (kc_syntax_list_api_Column1 s2 K2 v3 v6 R)) (fun v10 => R (.pan v10) σ n)
def lb_syntax_list_api_Column3 (v1 : AV) (a2 : AV) (a3 : AV) (a0 : AV) (R : AEnd → Hp → Nat → Prop) (K2 : List AV → Hp → Nat → Prop) (s2 : List AV) (σ : Hp) (n : Nat) : Prop :=
 bindP (semBin .lss (s2.getD 3 .any) v1) fun v3 =>
 COND v3 (
 bindP (aIad 3 a2 (s2.getD 3 .any)) fun v4 =>
 bindP (aLd σ (some 3) v4) fun v5 =>
 bindS (hAlloc n [(.string ⟨#[]⟩), (.int .i64 0), (.bool false)]) σ n fun v6 σ n =>
 bindS (hSt σ 3 v6 v5) σ n fun v7 σ n =>
 bindP (aLd σ (some 3) v6) fun v8 =>
 CALL Tryz.prog a3 [v8] σ n (kc_syntax_list_api_Column2 s2 a0 K2 v3 v6 R)) (
 R (.ret (.tp [])) σ n)
attribute [go_sem] kc_syntax_list_api_Column1 kc_syntax_list_api_Column2 lb_syntax_list_api_Column3
noncomputable def sc_syntax_list_api_Column : SCode := (Tryz.f70.body.bind (cmpC Tryz.prog Tryz.f70.ntmps [2, 11, 13, 10, 0, 1, 3, 9, 12])).getD .skip
def sh_syntax_list_api_Column (a0 a1 a2 a3 : AV) (σ : Hp) (n : Nat) (R : AEnd → Hp → Nat → Prop) : Prop :=
 bindP (aLen false a2) fun v1 => bnd σ a2 →
 LOOP (lb_syntax_list_api_Column3 v1 a2 a3 a0 R) [(.tp []), (.tp []), a1, (.sc (.int .i64 0))] σ n
theorem se_syntax_list_api_Column (a0 a1 a2 a3 : AV) (σ : Hp) (n : Nat) (R : AEnd → Hp → Nat → Prop) : sh_syntax_list_api_Column a0 a1 a2 a3 σ n R = swp Tryz.prog sc_syntax_list_api_Column (retQ [] R) (entry [a0, a1, a2, a3]) σ n := by kernel_rfl
theorem by_syntax_list_api_Column {a0 a1 a2 a3 : AV} {σ : Hp} {n : Nat} {R : AEnd → Hp → Nat → Prop} (h : sh_syntax_list_api_Column a0 a1 a2 a3 σ n R) : ConH Tryz.prog 70 [a0, a1, a2, a3] σ n R := by
  rw [se_syntax_list_api_Column] at h
  exact conH_of [] (fn := Tryz.f70) rfl [2, 11, 13, 10, 0, 1, 3, 9, 12] (by kernel_rfl) (by kernel_rfl) (by kernel_rfl) (by kernel_rfl) h
def kc_syntax_list_api_Order1 (s2 : List AV) (K2 : List AV → Hp → Nat → Prop) (v3 : AV) (v6 : AV) (R : AEnd → Hp → Nat → Prop) (r : AEnd) (σ : Hp) (n : Nat) : Prop :=
 onEnd r (fun v12 =>
 bindP (semBin .add (s2.getD 3 .any) (.sc (.int .i64 1))) fun v14 =>
 K2 [v3, v6, (.s [44, 32]), v14] σ n) (fun v13 => R (.pan v13) σ n)
def kc_syntax_list_api_Order2 (s2 : List AV) (a0 : AV) (K2 : List AV → Hp → Nat → Prop) (v3 : AV) (v6 : AV) (R : AEnd → Hp → Nat → Prop) (r : AEnd) (σ : Hp) (n : Nat) : Prop :=
 onEnd r (fun v9 =>
 bindS (hBsl σ n 1 [(.string ⟨#[]⟩)] 2 [(0, (s2.getD 2 .any)), (1, v9)]) σ n fun v11 σ n =>
 CALL Tryz.prog (.fn 40 []) [a0, v11] σ n (kc_syntax_list_api_Order1 s2 K2 v3 v6 R)) (fun v10 => R (.pan v10) σ n)
def lb_syntax_list_api_Order3 (v1 : AV) (a2 : AV) (a3 : AV) (a0 : AV) (R : AEnd → Hp → Nat → Prop) (K2 : List AV → Hp → Nat → Prop) (s2 : List AV) (σ : Hp) (n : Nat) : Prop :=
 bindP (semBin .lss (s2.getD 3 .any) v1) fun v3 =>
 COND v3 (
 bindP (aIad 2 a2 (s2.getD 3 .any)) fun v4 =>
 bindP (aLd σ (some 2) v4) fun v5 =>
 bindS (hAlloc n [(.int .i64 0), (.bool false)]) σ n fun v6 σ n =>
 bindS (hSt σ 2 v6 v5) σ n fun v7 σ n =>
 bindP (aLd σ (some 2) v6) fun v8 =>
 CALL Tryz.prog a3 [v8] σ n (kc_syntax_list_api_Order2 s2 a0 K2 v3 v6 R)) (
 R (.ret (.tp [])) σ n)
attribute [go_sem] kc_syntax_list_api_Order1 kc_syntax_list_api_Order2 lb_syntax_list_api_Order3
noncomputable def sc_syntax_list_api_Order : SCode := (Tryz.f75.body.bind (cmpC Tryz.prog Tryz.f75.ntmps [2, 11, 13, 10, 0, 1, 3, 9, 12])).getD .skip
def sh_syntax_list_api_Order (a0 a1 a2 a3 : AV) (σ : Hp) (n : Nat) (R : AEnd → Hp → Nat → Prop) : Prop :=
 bindP (aLen false a2) fun v1 => bnd σ a2 →
 LOOP (lb_syntax_list_api_Order3 v1 a2 a3 a0 R) [(.tp []), (.tp []), a1, (.sc (.int .i64 0))] σ n
theorem se_syntax_list_api_Order (a0 a1 a2 a3 : AV) (σ : Hp) (n : Nat) (R : AEnd → Hp → Nat → Prop) : sh_syntax_list_api_Order a0 a1 a2 a3 σ n R = swp Tryz.prog sc_syntax_list_api_Order (retQ [] R) (entry [a0, a1, a2, a3]) σ n := by kernel_rfl
theorem by_syntax_list_api_Order {a0 a1 a2 a3 : AV} {σ : Hp} {n : Nat} {R : AEnd → Hp → Nat → Prop} (h : sh_syntax_list_api_Order a0 a1 a2 a3 σ n R) : ConH Tryz.prog 75 [a0, a1, a2, a3] σ n R := by
  rw [se_syntax_list_api_Order] at h
  exact conH_of [] (fn := Tryz.f75) rfl [2, 11, 13, 10, 0, 1, 3, 9, 12] (by kernel_rfl) (by kernel_rfl) (by kernel_rfl) (by kernel_rfl) h
def kc_psyntax_printer_stmt1 (R : AEnd → Hp → Nat → Prop) (r : AEnd) (σ : Hp) (n : Nat) : Prop :=
 onEnd r (fun v6 =>
 R (.ret (.tp [])) σ n) (fun v7 => R (.pan v7) σ n)
def kc_psyntax_printer_stmt2 (R : AEnd → Hp → Nat → Prop) (r : AEnd) (σ : Hp) (n : Nat) : Prop :=
 onEnd r (fun v16 =>
 R (.ret (.tp [])) σ n) (fun v17 => R (.pan v17) σ n)
def kc_psyntax_printer_stmt3 (R : AEnd → Hp → Nat → Prop) (r : AEnd) (σ : Hp) (n : Nat) : Prop :=
 onEnd r (fun v22 =>
 R (.ret (.tp [])) σ n) (fun v23 => R (.pan v23) σ n)
def kc_psyntax_printer_stmt4 (R : AEnd → Hp → Nat → Prop) (r : AEnd) (σ : Hp) (n : Nat) : Prop :=
 onEnd r (fun v32 =>
 R (.ret (.tp [])) σ n) (fun v33 => R (.pan v33) σ n)
def kc_psyntax_printer_stmt5 (v1 : AV) (a0 : AV) (R : AEnd → Hp → Nat → Prop) (r : AEnd) (σ : Hp) (n : Nat) : Prop :=
 onEnd r (fun v28 =>
 bindP (aFad 5 v1) fun v30 =>
 bindP (aLd σ none v30) fun v31 =>
 CALL Tryz.prog (.fn 41 []) [a0, (.s [32, 86, 65, 76, 85, 69, 83, 32]), v31, (.fn 42 [])] σ n (kc_psyntax_printer_stmt4 R)) (fun v29 => R (.pan v29) σ n)
def kc_psyntax_printer_stmt6 (R : AEnd → Hp → Nat → Prop) (r : AEnd) (σ : Hp) (n : Nat) : Prop :=
 onEnd r (fun v46 =>
 R (.ret (.tp [])) σ n) (fun v47 => R (.pan v47) σ n)
def kc_psyntax_printer_stmt7 (v1 : AV) (a0 : AV) (R : AEnd → Hp → Nat → Prop) (r : AEnd) (σ : Hp) (n : Nat) : Prop :=
 onEnd r (fun v42 =>
 bindP (aFad 10 v1) fun v44 =>
 bindP (aLd σ none v44) fun v45 =>
 CALL Tryz.prog (.fn 43 []) [a0, (.s [32, 87, 72, 69, 82, 69, 32]), v45, (.fn 44 [])] σ n (kc_psyntax_printer_stmt6 R)) (fun v43 => R (.pan v43) σ n)
def kc_psyntax_printer_stmt8 (v1 : AV) (a0 : AV) (R : AEnd → Hp → Nat → Prop) (r : AEnd) (σ : Hp) (n : Nat) : Prop :=
 onEnd r (fun v38 =>
 bindP (aFad 6 v1) fun v40 =>
 bindP (aLd σ none v40) fun v41 =>
 CALL Tryz.prog (.fn 45 []) [a0, (.s [32, 83, 69, 84, 32]), v41, (.fn 46 [])] σ n (kc_psyntax_printer_stmt7 v1 a0 R)) (fun v39 => R (.pan v39) σ n)
def kc_psyntax_printer_stmt9 (R : AEnd → Hp → Nat → Prop) (r : AEnd) (σ : Hp) (n : Nat) : Prop :=
 onEnd r (fun v56 =>
 R (.ret (.tp [])) σ n) (fun v57 => R (.pan v57) σ n)
def kc_psyntax_printer_stmt10 (v1 : AV) (a0 : AV) (R : AEnd → Hp → Nat → Prop) (r : AEnd) (σ : Hp) (n : Nat) : Prop :=
 onEnd r (fun v52 =>
 bindP (aFad 10 v1) fun v54 =>
 bindP (aLd σ none v54) fun v55 =>
 CALL Tryz.prog (.fn 43 []) [a0, (.s [32, 87, 72, 69, 82, 69, 32]), v55, (.fn 44 [])] σ n (kc_psyntax_printer_stmt9 R)) (fun v53 => R (.pan v53) σ n)
def kc_psyntax_printer_stmt11 (R : AEnd → Hp → Nat → Prop) (r : AEnd) (σ : Hp) (n : Nat) : Prop :=
 onEnd r (fun v60 =>
 R (.ret (.tp [])) σ n) (fun v61 => R (.pan v61) σ n)
def kc_psyntax_printer_stmt12 (R : AEnd → Hp → Nat → Prop) (r : AEnd) (σ : Hp) (n : Nat) : Prop :=
 onEnd r (fun v68 =>
 R (.ret (.tp [])) σ n) (fun v69 => R (.pan v69) σ n)
attribute [go_sem] kc_psyntax_printer_stmt1 kc_psyntax_printer_stmt2 kc_psyntax_printer_stmt3 kc_psyntax_printer_stmt4 kc_psyntax_printer_stmt5 kc_psyntax_printer_stmt6 kc_psyntax_printer_stmt7 kc_psyntax_printer_stmt8 kc_psyntax_printer_stmt9 kc_psyntax_printer_stmt10 kc_psyntax_printer_stmt11 kc_psyntax_printer_stmt12
noncomputable def sc_psyntax_printer_stmt : SCode := (Tryz.f16.body.bind (cmpC Tryz.prog Tryz.f16.ntmps [1, 14, 19, 30, 37, 48, 63, 5, 74, 0, 3])).getD .skip
def sh_psyntax_printer_stmt (a0 a1 : AV) (σ : Hp) (n : Nat) (R : AEnd → Hp → Nat → Prop) : Prop :=
 bindS (hBox n a1) σ n fun v1 σ n =>
 bindP (aFad 0 v1) fun v2 =>
 bindP (aLd σ none v2) fun v3 =>
 bindP (semBin .eql v3 (.sc (.int .i64 1))) fun v4 =>
 COND v4 (
 bindP (aLd σ (some 14) v1) fun v5 =>
 CALL Tryz.prog (.fn 39 []) [a0, v5] σ n (kc_psyntax_printer_stmt1 R)) (
 bindP (semBin .eql v3 (.sc (.int .i64 2))) fun v8 =>
 COND v8 (
 bindP (aFad 4 v1) fun v9 =>
 bindP (aLd σ none v9) fun v10 =>
 bindP (aFad 1 v1) fun v11 =>
 bindP (aLd σ none v11) fun v12 =>
 bindP (aFad 3 v1) fun v13 =>
 bindP (aLd σ none v13) fun v14 =>
 bindS (hBsl σ n 1 [(.string ⟨#[]⟩)] 7 [(0, (.s [67, 82, 69, 65, 84, 69, 32, 73, 78, 68, 69, 88, 32])), (1, v10), (2, (.s [32, 79, 78, 32])), (3, v12), (4, (.s [32, 40])), (5, v14), (6, (.s [41]))]) σ n fun v15 σ n =>
 CALL Tryz.prog (.fn 40 []) [a0, v15] σ n (kc_psyntax_printer_stmt2 R)) (
 bindP (semBin .eql v3 (.sc (.int .i64 3))) fun v18 =>
 COND v18 (
 bindP (aFad 1 v1) fun v19 =>
 bindP (aLd σ none v19) fun v20 =>
 bindS (hBsl σ n 1 [(.string ⟨#[]⟩)] 2 [(0, (.s [68, 82, 79, 80, 32, 84, 65, 66, 76, 69, 32])), (1, v20)]) σ n fun v21 σ n =>
 CALL Tryz.prog (.fn 40 []) [a0, v21] σ n (kc_psyntax_printer_stmt3 R)) (
 bindP (semBin .eql v3 (.sc (.int .i64 4))) fun v24 =>
 COND v24 (
 bindP (aFad 1 v1) fun v25 =>
 bindP (aLd σ none v25) fun v26 =>
 bindS (hBsl σ n 1 [(.string ⟨#[]⟩)] 2 [(0, (.s [73, 78, 83, 69, 82, 84, 32, 73, 78, 84, 79, 32])), (1, v26)]) σ n fun v27 σ n =>
 CALL Tryz.prog (.fn 40 []) [a0, v27] σ n (kc_psyntax_printer_stmt5 v1 a0 R)) (
 bindP (semBin .eql v3 (.sc (.int .i64 5))) fun v34 =>
 COND v34 (
 bindP (aFad 1 v1) fun v35 =>
 bindP (aLd σ none v35) fun v36 =>
 bindS (hBsl σ n 1 [(.string ⟨#[]⟩)] 2 [(0, (.s [85, 80, 68, 65, 84, 69, 32])), (1, v36)]) σ n fun v37 σ n =>
 CALL Tryz.prog (.fn 40 []) [a0, v37] σ n (kc_psyntax_printer_stmt8 v1 a0 R)) (
 bindP (semBin .eql v3 (.sc (.int .i64 6))) fun v48 =>
 COND v48 (
 bindP (aFad 1 v1) fun v49 =>
 bindP (aLd σ none v49) fun v50 =>
 bindS (hBsl σ n 1 [(.string ⟨#[]⟩)] 2 [(0, (.s [68, 69, 76, 69, 84, 69, 32, 70, 82, 79, 77, 32])), (1, v50)]) σ n fun v51 σ n =>
 CALL Tryz.prog (.fn 40 []) [a0, v51] σ n (kc_psyntax_printer_stmt10 v1 a0 R)) (
 bindP (semBin .eql v3 (.sc (.int .i64 7))) fun v58 =>
 COND v58 (
 bindP (aLd σ (some 14) v1) fun v59 =>
 CALL Tryz.prog (.fn 47 []) [a0, v59] σ n (kc_psyntax_printer_stmt11 R)) (
 bindP (aBuild [(.string ⟨#[]⟩), (.string ⟨#[]⟩), (.string ⟨#[]⟩)] [(0, 1, (.s [66, 69, 71, 73, 78])), (1, 1, (.s [67, 79, 77, 77, 73, 84])), (2, 1, (.s [82, 79, 76, 76, 66, 65, 67, 75]))]) fun v62 =>
 bindP (aFad 0 v1) fun v63 =>
 bindP (aLd σ none v63) fun v64 =>
 bindP (semBin .sub v64 (.sc (.int .i64 8))) fun v65 =>
 bindP (aIarr none 1 3 v62 v65) fun v66 =>
 bindS (hBsl σ n 1 [(.string ⟨#[]⟩)] 1 [(0, v66)]) σ n fun v67 σ n =>
 CALL Tryz.prog (.fn 40 []) [a0, v67] σ n (kc_psyntax_printer_stmt12 R))))))))
theorem se_psyntax_printer_stmt (a0 a1 : AV) (σ : Hp) (n : Nat) (R : AEnd → Hp → Nat → Prop) : sh_psyntax_printer_stmt a0 a1 σ n R = swp Tryz.prog sc_psyntax_printer_stmt (retQ [] R) (entry [a0, a1]) σ n := by kernel_rfl
theorem by_psyntax_printer_stmt {a0 a1 : AV} {σ : Hp} {n : Nat} {R : AEnd → Hp → Nat → Prop} (h : sh_psyntax_printer_stmt a0 a1 σ n R) : ConH Tryz.prog 16 [a0, a1] σ n R := by
  rw [se_psyntax_printer_stmt] at h
  exact conH_of [] (fn := Tryz.f16) rfl [1, 14, 19, 30, 37, 48, 63, 5, 74, 0, 3] (by kernel_rfl) (by kernel_rfl) (by kernel_rfl) (by kernel_rfl) h
def kc_psyntax_printer_stmt_c11 (R : AEnd → Hp → Nat → Prop) (r : AEnd) (σ : Hp) (n : Nat) : Prop :=
 onEnd r (fun v5 =>
 bindP (semBin .add v5 (.s [41])) fun v7 =>
 R (.ret v7) σ n) (fun v6 => R (.pan v6) σ n)
def kc_psyntax_printer_stmt_c12 (v1 : AV) (R : AEnd → Hp → Nat → Prop) (r : AEnd) (σ : Hp) (n : Nat) : Prop :=
 onEnd r (fun v2 =>
 bindP (aFad 0 v1) fun v4 =>
 CALL Tryz.prog (.fn 17 []) [v4] σ n (kc_psyntax_printer_stmt_c11 R)) (fun v3 => R (.pan v3) σ n)
attribute [go_sem] kc_psyntax_printer_stmt_c11 kc_psyntax_printer_stmt_c12
noncomputable def sc_psyntax_printer_stmt_c1 : SCode := (Tryz.f42.body.bind (cmpC Tryz.prog Tryz.f42.ntmps [0, 3, 2])).getD .skip
def sh_psyntax_printer_stmt_c1 (a0 : AV) (σ : Hp) (n : Nat) (R : AEnd → Hp → Nat → Prop) : Prop :=
 bindS (hAllt n 55 [(.pointer none), (.slice none 0 0)]) σ n fun v1 σ n =>
 CALL Tryz.prog (.fn 43 []) [v1, (.s [40]), a0, (.fn 44 [])] σ n (kc_psyntax_printer_stmt_c12 v1 R)
theorem se_psyntax_printer_stmt_c1 (a0 : AV) (σ : Hp) (n : Nat) (R : AEnd → Hp → Nat → Prop) : sh_psyntax_printer_stmt_c1 a0 σ n R = swp Tryz.prog sc_psyntax_printer_stmt_c1 (retQ [(.t 2)] R) (entry [a0]) σ n := by kernel_rfl
theorem by_psyntax_printer_stmt_c1 {a0 : AV} {σ : Hp} {n : Nat} {R : AEnd → Hp → Nat → Prop} (h : sh_psyntax_printer_stmt_c1 a0 σ n R) : ConH Tryz.prog 42 [a0] σ n R := by
  rw [se_psyntax_printer_stmt_c1] at h
  exact conH_of [(.t 2)] (fn := Tryz.f42) rfl [0, 3, 2] (by kernel_rfl) (by kernel_rfl) (by kernel_rfl) (by kernel_rfl) h
def kd_psyntax_printer_stmt_c21 (v4 : AV) (v2 : AV) (v5 : AV) (n : Nat) (σ : Hp) (R : AEnd → Hp → Nat → Prop) (r : AEnd) (w7 : Wr) (d7 : List Nat) : Prop :=
 onEnd r (fun v7 =>
 bindP (semBin .add v4 v7) fun v9 =>
 Apt (names []) (rdA v2) (names []) (rdA v5) ∧
 Apt (names []) (rdA v2) (names w7) d7 ∧
 ∀ n_, n + 16 * 8 ≤ n_ → (fun n => (fun σ => R (.ret v9) σ n) (applyW σ w7)) n_) (fun v8 => Apt (names []) (rdA v2) (names []) (rdA v5) ∧
 Apt (names []) (rdA v2) (names []) d7 ∧
 ∀ (fr_ : Regs) σ n, R (.pan v8) σ n)
attribute [go_sem] kd_psyntax_printer_stmt_c21
noncomputable def sc_psyntax_printer_stmt_c2 : SCode := (Tryz.f46.body.bind (cmpC Tryz.prog Tryz.f46.ntmps [0, 1, 2])).getD .skip
def sh_psyntax_printer_stmt_c2 (a0 : AV) (σ : Hp) (n : Nat) (R : AEnd → Hp → Nat → Prop) : Prop :=
 bindS (hBox n a0) σ n fun v1 σ n =>
 bindP (aFad 0 v1) fun v2 =>
 bindP (aLd σ none v2) fun v3 =>
 bindP (semBin .add v3 (.s [32, 61, 32])) fun v4 =>
 bindP (aFad 1 v1) fun v5 =>
 bindP (aLd σ (some 7) v5) fun v6 =>
 callD Tryz.prog (.fn 44 []) [v6] σ (n + 16 * 5) (kd_psyntax_printer_stmt_c21 v4 v2 v5 n σ R)
theorem se_psyntax_printer_stmt_c2 (a0 : AV) (σ : Hp) (n : Nat) (R : AEnd → Hp → Nat → Prop) : sh_psyntax_printer_stmt_c2 a0 σ n R = swp Tryz.prog sc_psyntax_printer_stmt_c2 (retQ [(.t 2)] R) (entry [a0]) σ n := by kernel_rfl
theorem by_psyntax_printer_stmt_c2 {a0 : AV} {σ : Hp} {n : Nat} {R : AEnd → Hp → Nat → Prop} (h : sh_psyntax_printer_stmt_c2 a0 σ n R) : ConH Tryz.prog 46 [a0] σ n R := by
  rw [se_psyntax_printer_stmt_c2] at h
  exact conH_of [(.t 2)] (fn := Tryz.f46) rfl [0, 1, 2] (by kernel_rfl) (by kernel_rfl) (by kernel_rfl) (by kernel_rfl) h
def kc_psyntax_printer_query1 (R : AEnd → Hp → Nat → Prop) (r : AEnd) (σ : Hp) (n : Nat) : Prop :=
 onEnd r (fun v36 =>
 R (.ret (.tp [])) σ n) (fun v37 => R (.pan v37) σ n)
def kc_psyntax_printer_query2 (a0 : AV) (R : AEnd → Hp → Nat → Prop) (r : AEnd) (σ : Hp) (n : Nat) : Prop :=
 onEnd r (fun v33 =>
 bindS (hBsl σ n 1 [(.string ⟨#[]⟩)] 2 [(0, (.s [32, 76, 73, 77, 73, 84, 32])), (1, v33)]) σ n fun v35 σ n =>
 CALL Tryz.prog (.fn 40 []) [a0, v35] σ n (kc_psyntax_printer_query1 R)) (fun v34 => R (.pan v34) σ n)
def kc_psyntax_printer_query3 (v1 : AV) (a0 : AV) (R : AEnd → Hp → Nat → Prop) (r : AEnd) (σ : Hp) (n : Nat) : Prop :=
 onEnd r (fun v26 =>
 bindP (aFad 13 v1) fun v28 =>
 bindP (aLd σ none v28) fun v29 =>
 bindP (semBin .geq v29 (.sc (.int .i64 0))) fun v30 =>
 COND v30 (
 bindP (aFad 13 v1) fun v31 =>
 bindP (aLd σ none v31) fun v32 =>
 CALL Tryz.prog (.fn 77 []) [v32] σ n (kc_psyntax_printer_query2 a0 R)) (
 R (.ret (.tp [])) σ n)) (fun v27 => R (.pan v27) σ n)
def kc_psyntax_printer_query4 (v1 : AV) (a0 : AV) (R : AEnd → Hp → Nat → Prop) (r : AEnd) (σ : Hp) (n : Nat) : Prop :=
 onEnd r (fun v22 =>
 bindP (aFad 12 v1) fun v24 =>
 bindP (aLd σ none v24) fun v25 =>
 CALL Tryz.prog (.fn 75 []) [a0, (.s [32, 79, 82, 68, 69, 82, 32, 66, 89, 32]), v25, (.fn 76 [])] σ n (kc_psyntax_printer_query3 v1 a0 R)) (fun v23 => R (.pan v23) σ n)
def kc_psyntax_printer_query5 (v1 : AV) (a0 : AV) (R : AEnd → Hp → Nat → Prop) (r : AEnd) (σ : Hp) (n : Nat) : Prop :=
 onEnd r (fun v18 =>
 bindP (aFad 11 v1) fun v20 =>
 bindP (aLd σ none v20) fun v21 =>
 CALL Tryz.prog (.fn 43 []) [a0, (.s [32, 71, 82, 79, 85, 80, 32, 66, 89, 32]), v21, (.fn 44 [])] σ n (kc_psyntax_printer_query4 v1 a0 R)) (fun v19 => R (.pan v19) σ n)
def kc_psyntax_printer_query6 (v1 : AV) (a0 : AV) (R : AEnd → Hp → Nat → Prop) (r : AEnd) (σ : Hp) (n : Nat) : Prop :=
 onEnd r (fun v14 =>
 bindP (aFad 10 v1) fun v16 =>
 bindP (aLd σ none v16) fun v17 =>
 CALL Tryz.prog (.fn 43 []) [a0, (.s [32, 87, 72, 69, 82, 69, 32]), v17, (.fn 44 [])] σ n (kc_psyntax_printer_query5 v1 a0 R)) (fun v15 => R (.pan v15) σ n)
def kc_psyntax_printer_query7 (K11 : List AV → Hp → Nat → Prop) (v40 : AV) (R : AEnd → Hp → Nat → Prop) (r : AEnd) (σ : Hp) (n : Nat) : Prop :=
 onEnd r (fun v44 =>
 K11 [v40] σ n) (fun v45 => R (.pan v45) σ n)
def jk_psyntax_printer_query8 (v1 : AV) (a0 : AV) (R : AEnd → Hp → Nat → Prop) (s11 : List AV) (σ : Hp) (n : Nat) : Prop :=
 bindP (aFad 9 v1) fun v12 =>
 bindP (aLd σ none v12) fun v13 =>
 CALL Tryz.prog (.fn 43 []) [a0, (.s [32, 79, 78, 32]), v13, (.fn 44 [])] σ n (kc_psyntax_printer_query6 v1 a0 R)
def kc_psyntax_printer_query9 (v1 : AV) (a0 : AV) (R : AEnd → Hp → Nat → Prop) (r : AEnd) (σ : Hp) (n : Nat) : Prop :=
 onEnd r (fun v9 =>
 JOIN (jk_psyntax_printer_query8 v1 a0 R) fun K11 =>
 bindP (aFad 8 v1) fun v38 =>
 bindP (aLd σ none v38) fun v39 =>
 bindP (semBin .neq v39 (.s [])) fun v40 =>
 COND v40 (
 bindP (aFad 8 v1) fun v41 =>
 bindP (aLd σ none v41) fun v42 =>
 bindS (hBsl σ n 1 [(.string ⟨#[]⟩)] 2 [(0, (.s [32, 74, 79, 73, 78, 32])), (1, v42)]) σ n fun v43 σ n =>
 CALL Tryz.prog (.fn 40 []) [a0, v43] σ n (kc_psyntax_printer_query7 K11 v40 R)) (
 K11 [v40] σ n)) (fun v10 => R (.pan v10) σ n)
def kc_psyntax_printer_query10 (v1 : AV) (a0 : AV) (R : AEnd → Hp → Nat → Prop) (r : AEnd) (σ : Hp) (n : Nat) : Prop :=
 onEnd r (fun v4 =>
 bindP (aFad 1 v1) fun v6 =>
 bindP (aLd σ none v6) fun v7 =>
 bindS (hBsl σ n 1 [(.string ⟨#[]⟩)] 2 [(0, (.s [32, 70, 82, 79, 77, 32])), (1, v7)]) σ n fun v8 σ n =>
 CALL Tryz.prog (.fn 40 []) [a0, v8] σ n (kc_psyntax_printer_query9 v1 a0 R)) (fun v5 => R (.pan v5) σ n)
attribute [go_sem] kc_psyntax_printer_query1 kc_psyntax_printer_query2 kc_psyntax_printer_query3 kc_psyntax_printer_query4 kc_psyntax_printer_query5 kc_psyntax_printer_query6 kc_psyntax_printer_query7 jk_psyntax_printer_query8 kc_psyntax_printer_query9 kc_psyntax_printer_query10
noncomputable def sc_psyntax_printer_query : SCode := (Tryz.f47.body.bind (cmpC Tryz.prog Tryz.f47.ntmps [1, 15, 39, 0, 3])).getD .skip
def sh_psyntax_printer_query (a0 a1 : AV) (σ : Hp) (n : Nat) (R : AEnd → Hp → Nat → Prop) : Prop :=
 bindS (hBox n a1) σ n fun v1 σ n =>
 bindP (aFad 7 v1) fun v2 =>
 bindP (aLd σ none v2) fun v3 =>
 CALL Tryz.prog (.fn 43 []) [a0, (.s [83, 69, 76, 69, 67, 84, 32]), v3, (.fn 44 [])] σ n (kc_psyntax_printer_query10 v1 a0 R)
theorem se_psyntax_printer_query (a0 a1 : AV) (σ : Hp) (n : Nat) (R : AEnd → Hp → Nat → Prop) : sh_psyntax_printer_query a0 a1 σ n R = swp Tryz.prog sc_psyntax_printer_query (retQ [] R) (entry [a0, a1]) σ n := by kernel_rfl
theorem by_psyntax_printer_query {a0 a1 : AV} {σ : Hp} {n : Nat} {R : AEnd → Hp → Nat → Prop} (h : sh_psyntax_printer_query a0 a1 σ n R) : ConH Tryz.prog 47 [a0, a1] σ n R := by
  rw [se_psyntax_printer_query] at h
  exact conH_of [] (fn := Tryz.f47) rfl [1, 15, 39, 0, 3] (by kernel_rfl) (by kernel_rfl) (by kernel_rfl) (by kernel_rfl) h
def kc_psyntax_printer_query_c11 (R : AEnd → Hp → Nat → Prop) (r : AEnd) (σ : Hp) (n : Nat) : Prop :=
 onEnd r (fun v6 =>
 bindP (semBin .add v6 (.s [32, 68, 69, 83, 67])) fun v8 =>
 R (.ret v8) σ n) (fun v7 => R (.pan v7) σ n)
def kc_psyntax_printer_query_c12 (R : AEnd → Hp → Nat → Prop) (r : AEnd) (σ : Hp) (n : Nat) : Prop :=
 onEnd r (fun v11 =>
 R (.ret v11) σ n) (fun v12 => R (.pan v12) σ n)
attribute [go_sem] kc_psyntax_printer_query_c11 kc_psyntax_printer_query_c12
noncomputable def sc_psyntax_printer_query_c1 : SCode := (Tryz.f76.body.bind (cmpC Tryz.prog Tryz.f76.ntmps [0, 4, 1, 2])).getD .skip
def sh_psyntax_printer_query_c1 (a0 : AV) (σ : Hp) (n : Nat) (R : AEnd → Hp → Nat → Prop) : Prop :=
 bindS (hBox n a0) σ n fun v1 σ n =>
 bindP (aFad 1 v1) fun v2 =>
 bindP (aLd σ none v2) fun v3 =>
 COND v3 (
 bindP (aFad 0 v1) fun v4 =>
 bindP (aLd σ none v4) fun v5 =>
 CALL Tryz.prog (.fn 77 []) [v5] σ n (kc_psyntax_printer_query_c11 R)) (
 bindP (aFad 0 v1) fun v9 =>
 bindP (aLd σ none v9) fun v10 =>
 CALL Tryz.prog (.fn 77 []) [v10] σ n (kc_psyntax_printer_query_c12 R))
theorem se_psyntax_printer_query_c1 (a0 : AV) (σ : Hp) (n : Nat) (R : AEnd → Hp → Nat → Prop) : sh_psyntax_printer_query_c1 a0 σ n R = swp Tryz.prog sc_psyntax_printer_query_c1 (retQ [(.t 2)] R) (entry [a0]) σ n := by kernel_rfl
theorem by_psyntax_printer_query_c1 {a0 : AV} {σ : Hp} {n : Nat} {R : AEnd → Hp → Nat → Prop} (h : sh_psyntax_printer_query_c1 a0 σ n R) : ConH Tryz.prog 76 [a0] σ n R := by
  rw [se_psyntax_printer_query_c1] at h
  exact conH_of [(.t 2)] (fn := Tryz.f76) rfl [0, 4, 1, 2] (by kernel_rfl) (by kernel_rfl) (by kernel_rfl) (by kernel_rfl) h
def kc_psyntax_printer_create1 (R : AEnd → Hp → Nat → Prop) (r : AEnd) (σ : Hp) (n : Nat) : Prop :=
 onEnd r (fun v14 =>
 R (.ret (.tp [])) σ n) (fun v15 => R (.pan v15) σ n)
def kc_psyntax_printer_create2 (v1 : AV) (a0 : AV) (R : AEnd → Hp → Nat → Prop) (r : AEnd) (σ : Hp) (n : Nat) : Prop :=
 onEnd r (fun v9 =>
 bindP (aFad 3 v1) fun v11 =>
 bindP (aLd σ none v11) fun v12 =>
 bindS (hBsl σ n 1 [(.string ⟨#[]⟩)] 3 [(0, (.s [44, 32, 80, 82, 73, 77, 65, 82, 89, 32, 75, 69, 89, 32, 40])), (1, v12), (2, (.s [41, 41]))]) σ n fun v13 σ n =>
 CALL Tryz.prog (.fn 40 []) [a0, v13] σ n (kc_psyntax_printer_create1 R)) (fun v10 => R (.pan v10) σ n)
def kc_psyntax_printer_create3 (v1 : AV) (a0 : AV) (R : AEnd → Hp → Nat → Prop) (r : AEnd) (σ : Hp) (n : Nat) : Prop :=
 onEnd r (fun v5 =>
 bindP (aFad 2 v1) fun v7 =>
 bindP (aLd σ none v7) fun v8 =>
 CALL Tryz.prog (.fn 70 []) [a0, (.s [32, 40]), v8, (.fn 71 [])] σ n (kc_psyntax_printer_create2 v1 a0 R)) (fun v6 => R (.pan v6) σ n)
attribute [go_sem] kc_psyntax_printer_create1 kc_psyntax_printer_create2 kc_psyntax_printer_create3
noncomputable def sc_psyntax_printer_create : SCode := (Tryz.f39.body.bind (cmpC Tryz.prog Tryz.f39.ntmps [1, 0, 3])).getD .skip
def sh_psyntax_printer_create (a0 a1 : AV) (σ : Hp) (n : Nat) (R : AEnd → Hp → Nat → Prop) : Prop :=
 bindS (hBox n a1) σ n fun v1 σ n =>
 bindP (aFad 1 v1) fun v2 =>
 bindP (aLd σ none v2) fun v3 =>
 bindS (hBsl σ n 1 [(.string ⟨#[]⟩)] 2 [(0, (.s [67, 82, 69, 65, 84, 69, 32, 84, 65, 66, 76, 69, 32])), (1, v3)]) σ n fun v4 σ n =>
 CALL Tryz.prog (.fn 40 []) [a0, v4] σ n (kc_psyntax_printer_create3 v1 a0 R)
theorem se_psyntax_printer_create (a0 a1 : AV) (σ : Hp) (n : Nat) (R : AEnd → Hp → Nat → Prop) : sh_psyntax_printer_create a0 a1 σ n R = swp Tryz.prog sc_psyntax_printer_create (retQ [] R) (entry [a0, a1]) σ n := by kernel_rfl
theorem by_psyntax_printer_create {a0 a1 : AV} {σ : Hp} {n : Nat} {R : AEnd → Hp → Nat → Prop} (h : sh_psyntax_printer_create a0 a1 σ n R) : ConH Tryz.prog 39 [a0, a1] σ n R := by
  rw [se_psyntax_printer_create] at h
  exact conH_of [] (fn := Tryz.f39) rfl [1, 0, 3] (by kernel_rfl) (by kernel_rfl) (by kernel_rfl) (by kernel_rfl) h
def jk_psyntax_printer_create_c11 (R : AEnd → Hp → Nat → Prop) (s11 : List AV) (σ : Hp) (n : Nat) : Prop :=
 R (.ret (s11.getD 1 .any)) σ n
attribute [go_sem] jk_psyntax_printer_create_c11
noncomputable def sc_psyntax_printer_create_c1 : SCode := (Tryz.f71.body.bind (cmpC Tryz.prog Tryz.f71.ntmps [0, 1, 13, 3, 2])).getD .skip
def sh_psyntax_printer_create_c1 (a0 : AV) (σ : Hp) (n : Nat) (R : AEnd → Hp → Nat → Prop) : Prop :=
 bindS (hBox n a0) σ n fun v1 σ n =>
 bindP (aFad 0 v1) fun v2 =>
 bindP (aLd σ none v2) fun v3 =>
 bindP (aBuild [(.string ⟨#[]⟩), (.string ⟨#[]⟩), (.string ⟨#[]⟩)] [(0, 1, (.s [32, 73, 78, 84])), (1, 1, (.s [32, 66, 79, 79, 76])), (2, 1, (.s [32, 84, 69, 88, 84]))]) fun v4 =>
 bindP (aFad 1 v1) fun v5 =>
 bindP (aLd σ none v5) fun v6 =>
 bindP (semBin .sub v6 (.sc (.int .i64 1))) fun v7 =>
 bindP (aIarr none 1 3 v4 v7) fun v8 =>
 bindP (semBin .add v3 v8) fun v9 =>
 Apt (names []) (rdA v2) (names []) (rdA v5) ∧
 ∀ n_, n + 16 * 9 ≤ n_ → (fun n => JOIN (jk_psyntax_printer_create_c11 R) fun K11 =>
 bindP (aFad 2 v1) fun v12 =>
 bindP (aLd σ none v12) fun v13 =>
 COND v13 (
 bindP (semBin .add v9 (.s [32, 78, 79, 84, 32, 78, 85, 76, 76])) fun v14 =>
 K11 [v13, v14] σ n) (
 K11 [v13, v9] σ n)) n_
theorem se_psyntax_printer_create_c1 (a0 : AV) (σ : Hp) (n : Nat) (R : AEnd → Hp → Nat → Prop) : sh_psyntax_printer_create_c1 a0 σ n R = swp Tryz.prog sc_psyntax_printer_create_c1 (retQ [(.t 2)] R) (entry [a0]) σ n := by kernel_rfl
theorem by_psyntax_printer_create_c1 {a0 : AV} {σ : Hp} {n : Nat} {R : AEnd → Hp → Nat → Prop} (h : sh_psyntax_printer_create_c1 a0 σ n R) : ConH Tryz.prog 71 [a0] σ n R := by
  rw [se_psyntax_printer_create_c1] at h
  exact conH_of [(.t 2)] (fn := Tryz.f71) rfl [0, 1, 13, 3, 2] (by kernel_rfl) (by kernel_rfl) (by kernel_rfl) (by kernel_rfl) h
def kc_syntax_Print1 (R : AEnd → Hp → Nat → Prop) (r : AEnd) (σ : Hp) (n : Nat) : Prop :=
 onEnd r (fun v11 =>
 R (.ret (.tp [v11, (.sc (.int .i64 0))])) σ n) (fun v12 => R (.pan v12) σ n)
def kc_syntax_Print2 (v6 : AV) (R : AEnd → Hp → Nat → Prop) (r : AEnd) (σ : Hp) (n : Nat) : Prop :=
 onEnd r (fun v8 =>
 bindP (aFad 0 v6) fun v10 =>
 CALL Tryz.prog (.fn 17 []) [v10] σ n (kc_syntax_Print1 R)) (fun v9 => R (.pan v9) σ n)
def kc_syntax_Print3 (R : AEnd → Hp → Nat → Prop) (v1 : AV) (r : AEnd) (σ : Hp) (n : Nat) : Prop :=
 onEnd r (fun v3 =>
 bindP (semBin .neq v3 (.sc (.int .i64 0))) fun v5 =>
 COND v5 (
 R (.ret (.tp [(.s []), v3])) σ n) (
 bindS (hAllt n 55 [(.pointer none), (.slice none 0 0)]) σ n fun v6 σ n =>
 bindP (aLd σ (some 14) v1) fun v7 =>
 CALL Tryz.prog (.fn 16 []) [v6, v7] σ n (kc_syntax_Print2 v6 R))) (fun v4 => R (.pan v4) σ n)
attribute [go_sem] kc_syntax_Print1 kc_syntax_Print2 kc_syntax_Print3
noncomputable def sc_syntax_Print : SCode := (Tryz.f5.body.bind (cmpC Tryz.prog Tryz.f5.ntmps [0, 9, 4, 1, 5, 2, 3])).getD .skip
def sh_syntax_Print (a0 : AV) (σ : Hp) (n : Nat) (R : AEnd → Hp → Nat → Prop) : Prop :=
 bindS (hBox n a0) σ n fun v1 σ n =>
 bindP (aLd σ (some 14) v1) fun v2 =>
 CALL Tryz.prog (.fn 8 []) [v2] σ n (kc_syntax_Print3 R v1)
theorem se_syntax_Print (a0 : AV) (σ : Hp) (n : Nat) (R : AEnd → Hp → Nat → Prop) : sh_syntax_Print a0 σ n R = swp Tryz.prog sc_syntax_Print (retQ [(.t 2), (.t 3)] R) (entry [a0]) σ n := by kernel_rfl
theorem by_syntax_Print {a0 : AV} {σ : Hp} {n : Nat} {R : AEnd → Hp → Nat → Prop} (h : sh_syntax_Print a0 σ n R) : ConH Tryz.prog 5 [a0] σ n R := by
  rw [se_syntax_Print] at h
  exact conH_of [(.t 2), (.t 3)] (fn := Tryz.f5) rfl [0, 9, 4, 1, 5, 2, 3] (by kernel_rfl) (by kernel_rfl) (by kernel_rfl) (by kernel_rfl) h
end Go.Proofs.YtodoejfkjimeaaaGreatDoor
