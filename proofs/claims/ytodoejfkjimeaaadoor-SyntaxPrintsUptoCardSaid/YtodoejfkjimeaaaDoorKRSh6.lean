/- Packed by a program of this repo: Sh6. -/
import Derived.Test.YtodoejfkjimeaaaDoorKRMs
import Derived.Test.YtodoejfkjimeaaaDoorProg
set_option linter.unusedVariables false
set_option maxRecDepth 8000
namespace Go.Proofs.YtodoejfkjimeaaaDoor
open Go Am
def kd_plain_SameStmt1 (v91 : AV) (v96 : AV) (v94 : AV) (v99 : AV) (n : Nat) (σ : Hp) (R : AEnd → Hp → Nat → Prop) (s86 : List AV) (K86 : List AV → Hp → Nat → Prop) (v90 : AV) (r : AEnd) (w101 : Wr) (d101 : List Nat) : Prop :=
 onEnd r (fun v101 =>
 bindP (aUn .not v101) fun v103 =>
 Apt (names []) (rdA v91) (names []) (rdA v96) ∧
 Apt (names []) (rdA v94) (names []) (rdA v96) ∧
 Apt (names []) (rdA v91) (names []) (rdA v99) ∧
 Apt (names []) (rdA v94) (names []) (rdA v99) ∧
 ∀ n_, n + 16 * 12 ≤ n_ → (fun n => (fun σ => COND v103 (
 R (.ret (.sc (.bool false))) σ n) (
 bindP (semBin .add (s86.getD 3 .any) (.sc (.int .i64 1))) fun v104 =>
 K86 [v90, v103, (s86.getD 2 .any), v104] σ n)) (applyW σ w101)) n_) (fun v102 => Apt (names []) (rdA v91) (names []) (rdA v96) ∧
 Apt (names []) (rdA v94) (names []) (rdA v96) ∧
 Apt (names []) (rdA v91) (names []) (rdA v99) ∧
 Apt (names []) (rdA v94) (names []) (rdA v99) ∧
 ∀ (fr_ : Regs) σ n, R (.pan v102) σ n)
def kd_plain_SameStmt2 (Kd : AV → Wr → List Nat → Prop) (v110 : AV) (v116 : AV) (v114 : AV) (v120 : AV) (v124 : AV) (v130 : AV) (v128 : AV) (v134 : AV) (σ : Hp) (n : Nat) (R : AEnd → Hp → Nat → Prop) (r : AEnd) (w137 : Wr) (d137 : List Nat) : Prop :=
 onEnd r (fun v137 =>
 Kd v137 w137 d137) (fun v138 => Apt (names []) (rdA v110) (names []) (rdA v116) ∧
 Apt (names []) (rdA v114) (names []) (rdA v116) ∧
 Apt (names []) (rdA v110) (names []) (rdA v120) ∧
 Apt (names []) (rdA v114) (names []) (rdA v120) ∧
 Apt (names []) (rdA v124) (names []) (rdA v130) ∧
 Apt (names []) (rdA v128) (names []) (rdA v130) ∧
 Apt (names []) (rdA v124) (names []) (rdA v134) ∧
 Apt (names []) (rdA v128) (names []) (rdA v134) ∧
 ∀ (fr_ : Regs) σ n, R (.pan v138) σ n)
def kc_plain_SameStmt3 (Kg : AV → Hp → Nat → Prop) (R : AEnd → Hp → Nat → Prop) (r : AEnd) (σ : Hp) (n : Nat) : Prop :=
 onEnd r (fun v170 =>
 Kg v170 σ n) (fun v171 => R (.pan v171) σ n)
def kc_plain_SameStmt4 (Kg : AV → Hp → Nat → Prop) (R : AEnd → Hp → Nat → Prop) (r : AEnd) (σ : Hp) (n : Nat) : Prop :=
 onEnd r (fun v178 =>
 Kg v178 σ n) (fun v179 => R (.pan v179) σ n)
def kc_plain_SameStmt5 (Kg : AV → Hp → Nat → Prop) (R : AEnd → Hp → Nat → Prop) (r : AEnd) (σ : Hp) (n : Nat) : Prop :=
 onEnd r (fun v186 =>
 Kg v186 σ n) (fun v187 => R (.pan v187) σ n)
def kc_plain_SameStmt6 (v1 : AV) (v2 : AV) (R : AEnd → Hp → Nat → Prop) (r : AEnd) (σ : Hp) (n : Nat) : Prop :=
 onEnd r (fun v163 =>
 guardP v163 true (aFad 9 v1) fun v165 =>
 guardP v163 true (aLd σ none v165) fun v166 =>
 guardP v163 true (aFad 9 v2) fun v167 =>
 guardP v163 true (aLd σ none v167) fun v168 =>
 guardK v163 true (fun Kg => CALL Tryd.prog (.fn 34 []) [v166, v168] σ n (kc_plain_SameStmt3 Kg R)) σ n fun v169 σ n =>
 bindP (aPick v163 v169 (.sc (.bool false))) fun v172 =>
 guardP v172 true (aFad 10 v1) fun v173 =>
 guardP v172 true (aLd σ none v173) fun v174 =>
 guardP v172 true (aFad 10 v2) fun v175 =>
 guardP v172 true (aLd σ none v175) fun v176 =>
 guardK v172 true (fun Kg => CALL Tryd.prog (.fn 34 []) [v174, v176] σ n (kc_plain_SameStmt4 Kg R)) σ n fun v177 σ n =>
 bindP (aPick v172 v177 (.sc (.bool false))) fun v180 =>
 guardP v180 true (aFad 11 v1) fun v181 =>
 guardP v180 true (aLd σ none v181) fun v182 =>
 guardP v180 true (aFad 11 v2) fun v183 =>
 guardP v180 true (aLd σ none v183) fun v184 =>
 guardK v180 true (fun Kg => CALL Tryd.prog (.fn 34 []) [v182, v184] σ n (kc_plain_SameStmt5 Kg R)) σ n fun v185 σ n =>
 bindP (aPick v180 v185 (.sc (.bool false))) fun v188 =>
 R (.ret v188) σ n) (fun v164 => R (.pan v164) σ n)
def lb_plain_SameStmt7 (v1 : AV) (v2 : AV) (R : AEnd → Hp → Nat → Prop) (K142 : List AV → Hp → Nat → Prop) (s142 : List AV) (σ : Hp) (n : Nat) : Prop :=
 bindP (aFad 12 v1) fun v143 =>
 bindP (aLd σ none v143) fun v144 =>
 bindP (aLen false v144) fun v145 => bnd σ v144 →
 bindP (semBin .lss (s142.getD 3 .any) v145) fun v146 =>
 COND v146 (
 bindP (aFad 12 v1) fun v147 =>
 bindP (aLd σ none v147) fun v148 =>
 bindP (aIad 2 v148 (s142.getD 3 .any)) fun v150 =>
 bindP (aLd σ (some 2) v150) fun v151 =>
 bindP (aFad 12 v2) fun v152 =>
 bindP (aLd σ none v152) fun v153 =>
 bindP (aIad 2 v153 (s142.getD 3 .any)) fun v155 =>
 bindP (aLd σ (some 2) v155) fun v156 =>
 bindP (aEqs [0, 1] true v151 v156) fun v157 =>
 Apt (names []) (rdA v147) (names []) (rdA v152) ∧
 Apt (names []) (rdA v150) (names []) (rdA v152) ∧
 Apt (names []) (rdA v147) (names []) (rdA v155) ∧
 Apt (names []) (rdA v150) (names []) (rdA v155) ∧
 ∀ n_, n + 16 * 11 ≤ n_ → (fun n => COND v157 (
 R (.ret (.sc (.bool false))) σ n) (
 bindP (semBin .add (s142.getD 3 .any) (.sc (.int .i64 1))) fun v158 =>
 K142 [v146, v157, (s142.getD 2 .any), v158] σ n)) n_) (
 bindP (aFad 7 v1) fun v159 =>
 bindP (aLd σ none v159) fun v160 =>
 bindP (aFad 7 v2) fun v161 =>
 bindP (aLd σ none v161) fun v162 =>
 CALL Tryd.prog (.fn 34 []) [v160, v162] σ n (kc_plain_SameStmt6 v1 v2 R))
def lb_plain_SameStmt8 (v1 : AV) (v2 : AV) (R : AEnd → Hp → Nat → Prop) (K105 : List AV → Hp → Nat → Prop) (s105 : List AV) (σ : Hp) (n : Nat) : Prop :=
 bindP (aFad 6 v1) fun v106 =>
 bindP (aLd σ none v106) fun v107 =>
 bindP (aLen false v107) fun v108 => bnd σ v107 →
 bindP (semBin .lss (s105.getD 3 .any) v108) fun v109 =>
 COND v109 (
 bindP (aFad 6 v1) fun v110 =>
 bindP (aLd σ none v110) fun v111 =>
 bindP (aIad 8 v111 (s105.getD 3 .any)) fun v113 =>
 bindP (aFad 0 v113) fun v114 =>
 bindP (aLd σ none v114) fun v115 =>
 bindP (aFad 6 v2) fun v116 =>
 bindP (aLd σ none v116) fun v117 =>
 bindP (aIad 8 v117 (s105.getD 3 .any)) fun v119 =>
 bindP (aFad 0 v119) fun v120 =>
 bindP (aLd σ none v120) fun v121 =>
 bindP (semBin .neq v115 v121) fun v122 =>
 guardP v122 false (aFad 6 v1) fun v124 =>
 guardP v122 false (aLd σ none v124) fun v125 =>
 guardP v122 false (some (s105.getD 3 .any)) fun v126 =>
 guardP v122 false (aIad 8 v125 v126) fun v127 =>
 guardP v122 false (aFad 1 v127) fun v128 =>
 guardP v122 false (aLd σ (some 7) v128) fun v129 =>
 guardP v122 false (aFad 6 v2) fun v130 =>
 guardP v122 false (aLd σ none v130) fun v131 =>
 guardP v122 false (some (s105.getD 3 .any)) fun v132 =>
 guardP v122 false (aIad 8 v131 v132) fun v133 =>
 guardP v122 false (aFad 1 v133) fun v134 =>
 guardP v122 false (aLd σ (some 7) v134) fun v135 =>
 guardD v122 false (fun Kd => callD Tryd.prog (.fn 16 []) [v129, v135] σ (n + 16 * 26) (kd_plain_SameStmt2 Kd v110 v116 v114 v120 v124 v130 v128 v134 σ n R)) fun v136 w136 d136 =>
 guardP v122 false (aUn .not v136) fun v139 =>
 bindP (aPick v122 (.sc (.bool true)) v139) fun v140 =>
 Apt (names []) (rdA v110) (names []) (rdA v116) ∧
 Apt (names []) (rdA v114) (names []) (rdA v116) ∧
 Apt (names []) (rdA v110) (names []) (rdA v120) ∧
 Apt (names []) (rdA v114) (names []) (rdA v120) ∧
 Apt (names []) (rdA v124) (names []) (rdA v130) ∧
 Apt (names []) (rdA v128) (names []) (rdA v130) ∧
 Apt (names []) (rdA v124) (names []) (rdA v134) ∧
 Apt (names []) (rdA v128) (names []) (rdA v134) ∧
 ∀ n_, n + 16 * 29 ≤ n_ → (fun n => (fun σ => COND v140 (
 R (.ret (.sc (.bool false))) σ n) (
 bindP (semBin .add (s105.getD 3 .any) (.sc (.int .i64 1))) fun v141 =>
 K105 [v109, v140, (s105.getD 2 .any), v141] σ n)) (applyW σ w136)) n_) (
 LOOP (lb_plain_SameStmt7 v1 v2 R) [(.tp []), (.tp []), (s105.getD 2 .any), (.sc (.int .i64 0))] σ n)
def lb_plain_SameStmt9 (v1 : AV) (v2 : AV) (R : AEnd → Hp → Nat → Prop) (K86 : List AV → Hp → Nat → Prop) (s86 : List AV) (σ : Hp) (n : Nat) : Prop :=
 bindP (aFad 5 v1) fun v87 =>
 bindP (aLd σ none v87) fun v88 =>
 bindP (aLen false v88) fun v89 => bnd σ v88 →
 bindP (semBin .lss (s86.getD 3 .any) v89) fun v90 =>
 COND v90 (
 bindP (aFad 5 v1) fun v91 =>
 bindP (aLd σ none v91) fun v92 =>
 bindP (aIad 1 v92 (s86.getD 3 .any)) fun v94 =>
 bindP (aLd σ none v94) fun v95 =>
 bindP (aFad 5 v2) fun v96 =>
 bindP (aLd σ none v96) fun v97 =>
 bindP (aIad 1 v97 (s86.getD 3 .any)) fun v99 =>
 bindP (aLd σ none v99) fun v100 =>
 callD Tryd.prog (.fn 34 []) [v95, v100] σ (n + 16 * 10) (kd_plain_SameStmt1 v91 v96 v94 v99 n σ R s86 K86 v90)) (
 LOOP (lb_plain_SameStmt8 v1 v2 R) [(.tp []), (.tp []), (s86.getD 2 .any), (.sc (.int .i64 0))] σ n)
def lb_plain_SameStmt10 (v1 : AV) (v2 : AV) (R : AEnd → Hp → Nat → Prop) (K69 : List AV → Hp → Nat → Prop) (s69 : List AV) (σ : Hp) (n : Nat) : Prop :=
 bindP (aFad 2 v1) fun v70 =>
 bindP (aLd σ none v70) fun v71 =>
 bindP (aLen false v71) fun v72 => bnd σ v71 →
 bindP (semBin .lss (s69.getD 3 .any) v72) fun v73 =>
 COND v73 (
 bindP (aFad 2 v1) fun v74 =>
 bindP (aLd σ none v74) fun v75 =>
 bindP (aIad 3 v75 (s69.getD 3 .any)) fun v77 =>
 bindP (aLd σ (some 3) v77) fun v78 =>
 bindP (aFad 2 v2) fun v79 =>
 bindP (aLd σ none v79) fun v80 =>
 bindP (aIad 3 v80 (s69.getD 3 .any)) fun v82 =>
 bindP (aLd σ (some 3) v82) fun v83 =>
 bindP (aEqs [2, 0, 1] true v78 v83) fun v84 =>
 Apt (names []) (rdA v74) (names []) (rdA v79) ∧
 Apt (names []) (rdA v77) (names []) (rdA v79) ∧
 Apt (names []) (rdA v74) (names []) (rdA v82) ∧
 Apt (names []) (rdA v77) (names []) (rdA v82) ∧
 ∀ n_, n + 16 * 11 ≤ n_ → (fun n => COND v84 (
 R (.ret (.sc (.bool false))) σ n) (
 bindP (semBin .add (s69.getD 3 .any) (.sc (.int .i64 1))) fun v85 =>
 K69 [v73, v84, (s69.getD 2 .any), v85] σ n)) n_) (
 LOOP (lb_plain_SameStmt9 v1 v2 R) [(.tp []), (.tp []), (s69.getD 2 .any), (.sc (.int .i64 0))] σ n)
attribute [go_sem] kd_plain_SameStmt1 kd_plain_SameStmt2 kc_plain_SameStmt3 kc_plain_SameStmt4 kc_plain_SameStmt5 kc_plain_SameStmt6 lb_plain_SameStmt7 lb_plain_SameStmt8 lb_plain_SameStmt9 lb_plain_SameStmt10
def sc_plain_SameStmt : SCode := (.seq (.reg [ ⟨some 2,none,.box (.t 0)⟩,⟨some 3,none,.box (.t 1)⟩,⟨some 4,none,.mv (.c (.sc (.bool false)))⟩]) (.seq (.seq (.reg [ ⟨some 9,none,.fad 0 (.t 2)⟩,⟨some 10,none,.ld none (.t 9)⟩,⟨some 11,none,.fad 0 (.t 3)⟩,⟨some 12,none,.ld none (.t 11)⟩,⟨some 13,none,.bin .neq (.t 10) (.t 12)⟩,⟨some 14,none,.mv (.t 13)⟩,⟨(some 15),(some (14,false)),(.fad 1 (.t 2))⟩,⟨(some 16),(some (14,false)),(.ld none (.t 15))⟩,⟨(some 17),(some (14,false)),(.fad 1 (.t 3))⟩,⟨(some 18),(some (14,false)),(.ld none (.t 17))⟩,⟨(some 19),(some (14,false)),(.bin .neq (.t 16) (.t 18))⟩,⟨some 20,none,.pick (.t 14) (.c (.sc (.bool true))) (.t 19)⟩,⟨some 21,none,.mv (.t 20)⟩,⟨(some 22),(some (21,false)),(.fad 3 (.t 2))⟩,⟨(some 23),(some (21,false)),(.ld none (.t 22))⟩,⟨(some 24),(some (21,false)),(.fad 3 (.t 3))⟩,⟨(some 25),(some (21,false)),(.ld none (.t 24))⟩,⟨(some 26),(some (21,false)),(.bin .neq (.t 23) (.t 25))⟩,⟨some 27,none,.pick (.t 21) (.c (.sc (.bool true))) (.t 26)⟩,⟨some 28,none,.mv (.t 27)⟩,⟨(some 29),(some (28,false)),(.fad 4 (.t 2))⟩,⟨(some 30),(some (28,false)),(.ld none (.t 29))⟩,⟨(some 31),(some (28,false)),(.fad 4 (.t 3))⟩,⟨(some 32),(some (28,false)),(.ld none (.t 31))⟩,⟨(some 33),(some (28,false)),(.bin .neq (.t 30) (.t 32))⟩,⟨some 34,none,.pick (.t 28) (.c (.sc (.bool true))) (.t 33)⟩,⟨some 35,none,.mv (.t 34)⟩,⟨(some 36),(some (35,false)),(.fad 8 (.t 2))⟩,⟨(some 37),(some (35,false)),(.ld none (.t 36))⟩,⟨(some 38),(some (35,false)),(.fad 8 (.t 3))⟩,⟨(some 39),(some (35,false)),(.ld none (.t 38))⟩,⟨(some 40),(some (35,false)),(.bin .neq (.t 37) (.t 39))⟩,⟨some 41,none,.pick (.t 35) (.c (.sc (.bool true))) (.t 40)⟩,⟨some 42,none,.mv (.t 41)⟩,⟨(some 43),(some (42,false)),(.fad 13 (.t 2))⟩,⟨(some 44),(some (42,false)),(.ld none (.t 43))⟩,⟨(some 45),(some (42,false)),(.fad 13 (.t 3))⟩,⟨(some 46),(some (42,false)),(.ld none (.t 45))⟩,⟨(some 47),(some (42,false)),(.bin .neq (.t 44) (.t 46))⟩,⟨some 48,none,.pick (.t 42) (.c (.sc (.bool true))) (.t 47)⟩]) (.cond (.t 48) (.seq (.reg [ ⟨some 4,none,.mv (.c (.sc (.bool false)))⟩]) .ret) .skip)) (.seq (.seq (.reg [ ⟨some 49,none,.fad 2 (.t 2)⟩,⟨some 50,none,.ld none (.t 49)⟩,⟨some 51,none,.len false (.t 50)⟩,⟨some 52,none,.fad 2 (.t 3)⟩,⟨some 53,none,.ld none (.t 52)⟩,⟨some 54,none,.len false (.t 53)⟩,⟨some 55,none,.bin .neq (.t 51) (.t 54)⟩,⟨some 56,none,.mv (.t 55)⟩,⟨(some 57),(some (56,false)),(.fad 5 (.t 2))⟩,⟨(some 58),(some (56,false)),(.ld none (.t 57))⟩,⟨(some 59),(some (56,false)),(.len false (.t 58))⟩,⟨(some 60),(some (56,false)),(.fad 5 (.t 3))⟩,⟨(some 61),(some (56,false)),(.ld none (.t 60))⟩,⟨(some 62),(some (56,false)),(.len false (.t 61))⟩,⟨(some 63),(some (56,false)),(.bin .neq (.t 59) (.t 62))⟩,⟨some 64,none,.pick (.t 56) (.c (.sc (.bool true))) (.t 63)⟩,⟨some 65,none,.mv (.t 64)⟩,⟨(some 66),(some (65,false)),(.fad 6 (.t 2))⟩,⟨(some 67),(some (65,false)),(.ld none (.t 66))⟩,⟨(some 68),(some (65,false)),(.len false (.t 67))⟩,⟨(some 69),(some (65,false)),(.fad 6 (.t 3))⟩,⟨(some 70),(some (65,false)),(.ld none (.t 69))⟩,⟨(some 71),(some (65,false)),(.len false (.t 70))⟩,⟨(some 72),(some (65,false)),(.bin .neq (.t 68) (.t 71))⟩,⟨some 73,none,.pick (.t 65) (.c (.sc (.bool true))) (.t 72)⟩,⟨some 74,none,.mv (.t 73)⟩,⟨(some 75),(some (74,false)),(.fad 12 (.t 2))⟩,⟨(some 76),(some (74,false)),(.ld none (.t 75))⟩,⟨(some 77),(some (74,false)),(.len false (.t 76))⟩,⟨(some 78),(some (74,false)),(.fad 12 (.t 3))⟩,⟨(some 79),(some (74,false)),(.ld none (.t 78))⟩,⟨(some 80),(some (74,false)),(.len false (.t 79))⟩,⟨(some 81),(some (74,false)),(.bin .neq (.t 77) (.t 80))⟩,⟨some 82,none,.pick (.t 74) (.c (.sc (.bool true))) (.t 81)⟩]) (.cond (.t 82) (.seq (.reg [ ⟨some 4,none,.mv (.c (.sc (.bool false)))⟩]) .ret) .skip)) (.seq (.seq (.reg [ ⟨some 5,none,.mv (.c (.sc (.int .i64 0)))⟩]) (.block 0 (.loop [87,100,4,5] [83,84,85,86,87,90,91,92,93,94,95,96,97,98,99,100,4,88,89,5] (.seq (.seq (.reg [ ⟨some 83,none,.mv (.t 5)⟩,⟨some 84,none,.fad 2 (.t 2)⟩,⟨some 85,none,.ld none (.t 84)⟩,⟨some 86,none,.len false (.t 85)⟩,⟨some 87,none,.bin .lss (.t 83) (.t 86)⟩]) (.cond (.t 87) .skip (.exit 0))) (.seq (.block 1 (.seq (.regD [(⟨some 90,none,.fad 2 (.t 2)⟩,[]),(⟨some 91,none,.ld none (.t 90)⟩,[0]),(⟨some 92,none,.mv (.t 5)⟩,[]),(⟨some 93,none,.iad 3 (.t 91) (.t 92)⟩,[1,0,2]),(⟨some 94,none,.ld (some 3) (.t 93)⟩,[3,1,0,2]),(⟨some 95,none,.fad 2 (.t 3)⟩,[]),(⟨some 96,none,.ld none (.t 95)⟩,[5]),(⟨some 97,none,.mv (.t 5)⟩,[]),(⟨some 98,none,.iad 3 (.t 96) (.t 97)⟩,[6,5,7]),(⟨some 99,none,.ld (some 3) (.t 98)⟩,[8,6,5,7]),(⟨some 100,none,.eqs [2,0,1] true (.t 94) (.t 99)⟩,[4,3,1,0,2,9,8,6,5,7])]) (.cond (.t 100) (.seq (.reg [ ⟨some 4,none,.mv (.c (.sc (.bool false)))⟩]) .ret) .skip))) (.reg [ ⟨some 88,none,.mv (.t 5)⟩,⟨some 89,none,.bin .add (.t 88) (.c (.sc (.int .i64 1)))⟩,⟨some 5,none,.mv (.t 89)⟩])))))) (.seq (.seq (.reg [ ⟨some 6,none,.mv (.c (.sc (.int .i64 0)))⟩]) (.block 2 (.loop [105,119,4,6] [101,102,103,104,105,108,109,110,111,112,113,114,115,116,117,118,119,4,106,107,6] (.seq (.seq (.reg [ ⟨some 101,none,.mv (.t 6)⟩,⟨some 102,none,.fad 5 (.t 2)⟩,⟨some 103,none,.ld none (.t 102)⟩,⟨some 104,none,.len false (.t 103)⟩,⟨some 105,none,.bin .lss (.t 101) (.t 104)⟩]) (.cond (.t 105) .skip (.exit 2))) (.seq (.block 3 (.seq (.regD [(⟨some 108,none,.fad 5 (.t 2)⟩,[]),(⟨some 109,none,.ld none (.t 108)⟩,[0]),(⟨some 110,none,.mv (.t 6)⟩,[]),(⟨some 111,none,.iad 1 (.t 109) (.t 110)⟩,[1,0,2]),(⟨some 112,none,.ld none (.t 111)⟩,[3,1,0,2]),(⟨some 113,none,.fad 5 (.t 3)⟩,[]),(⟨some 114,none,.ld none (.t 113)⟩,[5]),(⟨some 115,none,.mv (.t 6)⟩,[]),(⟨some 116,none,.iad 1 (.t 114) (.t 115)⟩,[6,5,7]),(⟨some 117,none,.ld none (.t 116)⟩,[8,6,5,7]),(⟨some 118,none,.call (.c (.fn 34 [])) [(.t 112),(.t 117)]⟩,[4,3,1,0,2,9,8,6,5,7]),(⟨some 119,none,.un .not (.t 118)⟩,[10,4,3,1,0,2,9,8,6,5,7])]) (.cond (.t 119) (.seq (.reg [ ⟨some 4,none,.mv (.c (.sc (.bool false)))⟩]) .ret) .skip))) (.reg [ ⟨some 106,none,.mv (.t 6)⟩,⟨some 107,none,.bin .add (.t 106) (.c (.sc (.int .i64 1)))⟩,⟨some 6,none,.mv (.t 107)⟩])))))) (.seq (.seq (.reg [ ⟨some 7,none,.mv (.c (.sc (.int .i64 0)))⟩]) (.block 4 (.loop [124,155,4,7] [120,121,122,123,124,127,128,129,130,131,132,133,134,135,136,137,138,139,140,141,142,143,144,145,146,147,148,149,150,151,152,153,154,155,4,125,126,7] (.seq (.seq (.reg [ ⟨some 120,none,.mv (.t 7)⟩,⟨some 121,none,.fad 6 (.t 2)⟩,⟨some 122,none,.ld none (.t 121)⟩,⟨some 123,none,.len false (.t 122)⟩,⟨some 124,none,.bin .lss (.t 120) (.t 123)⟩]) (.cond (.t 124) .skip (.exit 4))) (.seq (.block 5 (.seq (.regD [(⟨some 127,none,.fad 6 (.t 2)⟩,[]),(⟨some 128,none,.ld none (.t 127)⟩,[0]),(⟨some 129,none,.mv (.t 7)⟩,[]),(⟨some 130,none,.iad 8 (.t 128) (.t 129)⟩,[1,0,2]),(⟨some 131,none,.fad 0 (.t 130)⟩,[3,1,0,2]),(⟨some 132,none,.ld none (.t 131)⟩,[4,3,1,0,2]),(⟨some 133,none,.fad 6 (.t 3)⟩,[]),(⟨some 134,none,.ld none (.t 133)⟩,[6]),(⟨some 135,none,.mv (.t 7)⟩,[]),(⟨some 136,none,.iad 8 (.t 134) (.t 135)⟩,[7,6,8]),(⟨some 137,none,.fad 0 (.t 136)⟩,[9,7,6,8]),(⟨some 138,none,.ld none (.t 137)⟩,[10,9,7,6,8]),(⟨some 139,none,.bin .neq (.t 132) (.t 138)⟩,[5,4,3,1,0,2,11,10,9,7,6,8]),(⟨some 140,none,.mv (.t 139)⟩,[12,5,4,3,1,0,2,11,10,9,7,6,8]),(⟨(some 141),(some (140,false)),(.fad 6 (.t 2))⟩,[13,12,5,4,3,1,0,2,11,10,9,7,6,8]),(⟨(some 142),(some (140,false)),(.ld none (.t 141))⟩,[14,13,12,5,4,3,1,0,2,11,10,9,7,6,8]),(⟨(some 143),(some (140,false)),(.mv (.t 7))⟩,[13,12,5,4,3,1,0,2,11,10,9,7,6,8]),(⟨(some 144),(some (140,false)),(.iad 8 (.t 142) (.t 143))⟩,[15,14,13,12,5,4,3,1,0,2,11,10,9,7,6,8,16]),(⟨(some 145),(some (140,false)),(.fad 1 (.t 144))⟩,[17,15,14,13,12,5,4,3,1,0,2,11,10,9,7,6,8,16]),(⟨(some 146),(some (140,false)),(.ld (some 7) (.t 145))⟩,[18,17,15,14,13,12,5,4,3,1,0,2,11,10,9,7,6,8,16]),(⟨(some 147),(some (140,false)),(.fad 6 (.t 3))⟩,[13,12,5,4,3,1,0,2,11,10,9,7,6,8]),(⟨(some 148),(some (140,false)),(.ld none (.t 147))⟩,[20,13,12,5,4,3,1,0,2,11,10,9,7,6,8]),(⟨(some 149),(some (140,false)),(.mv (.t 7))⟩,[13,12,5,4,3,1,0,2,11,10,9,7,6,8]),(⟨(some 150),(some (140,false)),(.iad 8 (.t 148) (.t 149))⟩,[21,20,13,12,5,4,3,1,0,2,11,10,9,7,6,8,22]),(⟨(some 151),(some (140,false)),(.fad 1 (.t 150))⟩,[23,21,20,13,12,5,4,3,1,0,2,11,10,9,7,6,8,22]),(⟨(some 152),(some (140,false)),(.ld (some 7) (.t 151))⟩,[24,23,21,20,13,12,5,4,3,1,0,2,11,10,9,7,6,8,22]),(⟨(some 153),(some (140,false)),(.call (.c (.fn 16 [])) [(.t 146),(.t 152)])⟩,[19,18,17,15,14,13,12,5,4,3,1,0,2,11,10,9,7,6,8,16,25,24,23,21,20,22]),(⟨(some 154),(some (140,false)),(.un .not (.t 153))⟩,[26,19,18,17,15,14,13,12,5,4,3,1,0,2,11,10,9,7,6,8,16,25,24,23,21,20,22]),(⟨some 155,none,.pick (.t 140) (.c (.sc (.bool true))) (.t 154)⟩,[13,12,5,4,3,1,0,2,11,10,9,7,6,8,27,26,19,18,17,15,14,16,25,24,23,21,20,22])]) (.cond (.t 155) (.seq (.reg [ ⟨some 4,none,.mv (.c (.sc (.bool false)))⟩]) .ret) .skip))) (.reg [ ⟨some 125,none,.mv (.t 7)⟩,⟨some 126,none,.bin .add (.t 125) (.c (.sc (.int .i64 1)))⟩,⟨some 7,none,.mv (.t 126)⟩])))))) (.seq (.seq (.reg [ ⟨some 8,none,.mv (.c (.sc (.int .i64 0)))⟩]) (.block 6 (.loop [160,173,4,8] [156,157,158,159,160,163,164,165,166,167,168,169,170,171,172,173,4,161,162,8] (.seq (.seq (.reg [ ⟨some 156,none,.mv (.t 8)⟩,⟨some 157,none,.fad 12 (.t 2)⟩,⟨some 158,none,.ld none (.t 157)⟩,⟨some 159,none,.len false (.t 158)⟩,⟨some 160,none,.bin .lss (.t 156) (.t 159)⟩]) (.cond (.t 160) .skip (.exit 6))) (.seq (.block 7 (.seq (.regD [(⟨some 163,none,.fad 12 (.t 2)⟩,[]),(⟨some 164,none,.ld none (.t 163)⟩,[0]),(⟨some 165,none,.mv (.t 8)⟩,[]),(⟨some 166,none,.iad 2 (.t 164) (.t 165)⟩,[1,0,2]),(⟨some 167,none,.ld (some 2) (.t 166)⟩,[3,1,0,2]),(⟨some 168,none,.fad 12 (.t 3)⟩,[]),(⟨some 169,none,.ld none (.t 168)⟩,[5]),(⟨some 170,none,.mv (.t 8)⟩,[]),(⟨some 171,none,.iad 2 (.t 169) (.t 170)⟩,[6,5,7]),(⟨some 172,none,.ld (some 2) (.t 171)⟩,[8,6,5,7]),(⟨some 173,none,.eqs [0,1] true (.t 167) (.t 172)⟩,[4,3,1,0,2,9,8,6,5,7])]) (.cond (.t 173) (.seq (.reg [ ⟨some 4,none,.mv (.c (.sc (.bool false)))⟩]) .ret) .skip))) (.reg [ ⟨some 161,none,.mv (.t 8)⟩,⟨some 162,none,.bin .add (.t 161) (.c (.sc (.int .i64 1)))⟩,⟨some 8,none,.mv (.t 162)⟩])))))) (.seq (.reg [ ⟨some 174,none,.fad 7 (.t 2)⟩,⟨some 175,none,.ld none (.t 174)⟩,⟨some 176,none,.fad 7 (.t 3)⟩,⟨some 177,none,.ld none (.t 176)⟩,⟨some 178,none,.call (.c (.fn 34 [])) [(.t 175),(.t 177)]⟩,⟨some 179,none,.mv (.t 178)⟩,⟨(some 180),(some (179,true)),(.fad 9 (.t 2))⟩,⟨(some 181),(some (179,true)),(.ld none (.t 180))⟩,⟨(some 182),(some (179,true)),(.fad 9 (.t 3))⟩,⟨(some 183),(some (179,true)),(.ld none (.t 182))⟩,⟨(some 184),(some (179,true)),(.call (.c (.fn 34 [])) [(.t 181),(.t 183)])⟩,⟨some 185,none,.pick (.t 179) (.t 184) (.c (.sc (.bool false)))⟩,⟨some 186,none,.mv (.t 185)⟩,⟨(some 187),(some (186,true)),(.fad 10 (.t 2))⟩,⟨(some 188),(some (186,true)),(.ld none (.t 187))⟩,⟨(some 189),(some (186,true)),(.fad 10 (.t 3))⟩,⟨(some 190),(some (186,true)),(.ld none (.t 189))⟩,⟨(some 191),(some (186,true)),(.call (.c (.fn 34 [])) [(.t 188),(.t 190)])⟩,⟨some 192,none,.pick (.t 186) (.t 191) (.c (.sc (.bool false)))⟩,⟨some 193,none,.mv (.t 192)⟩,⟨(some 194),(some (193,true)),(.fad 11 (.t 2))⟩,⟨(some 195),(some (193,true)),(.ld none (.t 194))⟩,⟨(some 196),(some (193,true)),(.fad 11 (.t 3))⟩,⟨(some 197),(some (193,true)),(.ld none (.t 196))⟩,⟨(some 198),(some (193,true)),(.call (.c (.fn 34 [])) [(.t 195),(.t 197)])⟩,⟨some 199,none,.pick (.t 193) (.t 198) (.c (.sc (.bool false)))⟩,⟨some 4,none,.mv (.t 199)⟩]) .ret))))))))
def sh_plain_SameStmt (a0 a1 : AV) (σ : Hp) (n : Nat) (R : AEnd → Hp → Nat → Prop) : Prop :=
 bindS (hBox n a0) σ n fun v1 σ n =>
 bindS (hBox n a1) σ n fun v2 σ n =>
 bindP (aFad 0 v1) fun v3 =>
 bindP (aLd σ none v3) fun v4 =>
 bindP (aFad 0 v2) fun v5 =>
 bindP (aLd σ none v5) fun v6 =>
 bindP (semBin .neq v4 v6) fun v7 =>
 guardP v7 false (aFad 1 v1) fun v8 =>
 guardP v7 false (aLd σ none v8) fun v9 =>
 guardP v7 false (aFad 1 v2) fun v10 =>
 guardP v7 false (aLd σ none v10) fun v11 =>
 guardP v7 false (semBin .neq v9 v11) fun v12 =>
 bindP (aPick v7 (.sc (.bool true)) v12) fun v13 =>
 guardP v13 false (aFad 3 v1) fun v14 =>
 guardP v13 false (aLd σ none v14) fun v15 =>
 guardP v13 false (aFad 3 v2) fun v16 =>
 guardP v13 false (aLd σ none v16) fun v17 =>
 guardP v13 false (semBin .neq v15 v17) fun v18 =>
 bindP (aPick v13 (.sc (.bool true)) v18) fun v19 =>
 guardP v19 false (aFad 4 v1) fun v20 =>
 guardP v19 false (aLd σ none v20) fun v21 =>
 guardP v19 false (aFad 4 v2) fun v22 =>
 guardP v19 false (aLd σ none v22) fun v23 =>
 guardP v19 false (semBin .neq v21 v23) fun v24 =>
 bindP (aPick v19 (.sc (.bool true)) v24) fun v25 =>
 guardP v25 false (aFad 8 v1) fun v26 =>
 guardP v25 false (aLd σ none v26) fun v27 =>
 guardP v25 false (aFad 8 v2) fun v28 =>
 guardP v25 false (aLd σ none v28) fun v29 =>
 guardP v25 false (semBin .neq v27 v29) fun v30 =>
 bindP (aPick v25 (.sc (.bool true)) v30) fun v31 =>
 guardP v31 false (aFad 13 v1) fun v32 =>
 guardP v31 false (aLd σ none v32) fun v33 =>
 guardP v31 false (aFad 13 v2) fun v34 =>
 guardP v31 false (aLd σ none v34) fun v35 =>
 guardP v31 false (semBin .neq v33 v35) fun v36 =>
 bindP (aPick v31 (.sc (.bool true)) v36) fun v37 =>
 COND v37 (
 R (.ret (.sc (.bool false))) σ n) (
 bindP (aFad 2 v1) fun v38 =>
 bindP (aLd σ none v38) fun v39 =>
 bindP (aLen false v39) fun v40 => bnd σ v39 →
 bindP (aFad 2 v2) fun v41 =>
 bindP (aLd σ none v41) fun v42 =>
 bindP (aLen false v42) fun v43 => bnd σ v42 →
 bindP (semBin .neq v40 v43) fun v44 =>
 guardP v44 false (aFad 5 v1) fun v45 =>
 guardP v44 false (aLd σ none v45) fun v46 =>
 guardP v44 false (aLen false v46) fun v47 =>
 guardP v44 false (aFad 5 v2) fun v48 =>
 guardP v44 false (aLd σ none v48) fun v49 =>
 guardP v44 false (aLen false v49) fun v50 =>
 guardP v44 false (semBin .neq v47 v50) fun v51 =>
 bindP (aPick v44 (.sc (.bool true)) v51) fun v52 =>
 guardP v52 false (aFad 6 v1) fun v53 =>
 guardP v52 false (aLd σ none v53) fun v54 =>
 guardP v52 false (aLen false v54) fun v55 =>
 guardP v52 false (aFad 6 v2) fun v56 =>
 guardP v52 false (aLd σ none v56) fun v57 =>
 guardP v52 false (aLen false v57) fun v58 =>
 guardP v52 false (semBin .neq v55 v58) fun v59 =>
 bindP (aPick v52 (.sc (.bool true)) v59) fun v60 =>
 guardP v60 false (aFad 12 v1) fun v61 =>
 guardP v60 false (aLd σ none v61) fun v62 =>
 guardP v60 false (aLen false v62) fun v63 =>
 guardP v60 false (aFad 12 v2) fun v64 =>
 guardP v60 false (aLd σ none v64) fun v65 =>
 guardP v60 false (aLen false v65) fun v66 =>
 guardP v60 false (semBin .neq v63 v66) fun v67 =>
 bindP (aPick v60 (.sc (.bool true)) v67) fun v68 =>
 COND v68 (
 R (.ret (.sc (.bool false))) σ n) (
 LOOP (lb_plain_SameStmt10 v1 v2 R) [(.tp []), (.tp []), (.sc (.bool false)), (.sc (.int .i64 0))] σ n))
theorem se_plain_SameStmt (a0 a1 : AV) (σ : Hp) (n : Nat) (R : AEnd → Hp → Nat → Prop) : sh_plain_SameStmt a0 a1 σ n R = swp Tryd.prog sc_plain_SameStmt (retQ [(.t 4)] R) (entry [a0, a1]) σ n := by kernel_rfl
theorem by_plain_SameStmt {a0 a1 : AV} {σ : Hp} {n : Nat} {R : AEnd → Hp → Nat → Prop} (h : sh_plain_SameStmt a0 a1 σ n R) : ConH Tryd.prog 22 [a0, a1] σ n R := by
  rw [se_plain_SameStmt] at h
  exact conH_of [(.t 4)] (fn := Tryd.f22) rfl [0, 1, 48, 82, 87, 100, 5, 105, 119, 6, 124, 155, 7, 160, 173, 8, 2, 3, 4] (by kernel_rfl) (by kernel_rfl) (by kernel_rfl) (by kernel_rfl) h
def as_syntax_Check_1 : Code := (.region 6 #[⟨(some 3), (.alloc 26), 0, "syntax.go:167", #[], none⟩, ⟨none, (.store 26 (.tmp 3) (.tmp 17)), 0, "syntax.go:167", #[⟨0, .data⟩, ⟨0, .phase⟩], none⟩] false)
def bo_syntax_Check_1 : Code := (.block 1 (.seq (.region 7 #[⟨(some 18), (.load 26 (.tmp 3)), 26, "syntax.go:168", #[], none⟩, ⟨(some 19), (.call ⟨(.value (.func 14)), #[(.tmp 18)], #[26]⟩), 28, "syntax.go:168", #[⟨0, .data⟩], none⟩, ⟨(some 4), (.assign (.tmp 19)), 28, "syntax.go:168", #[⟨1, .data⟩, ⟨1, .chain⟩, ⟨0, .phase⟩, ⟨1, .phase⟩], none⟩] false) (.seq (.region 8 #[⟨(some 20), (.move (.tmp 4)), 28, "syntax.go:168", #[], none⟩, ⟨(some 21), (.binOp .neq 28 (.tmp 20) (.const (.int .i64 0)) 28), 4, "syntax.go:168", #[⟨0, .data⟩], none⟩] false) (.cond (.tmp 21) (.seq (.region 9 #[⟨(some 22), (.move (.tmp 4)), 28, "syntax.go:169", #[], none⟩, ⟨none, (.store 28 (.tmp 2) (.tmp 22)), 0, "syntax.go:169", #[⟨0, .data⟩, ⟨0, .phase⟩], none⟩] false) .ret) .skip))))
def rk_syntax_Check1 (v1 : AV) (v2 : AV) (q18 : Nat) (R : AEnd → Hp → Nat → Prop) (σ : Hp) (n : Nat) : Prop :=
 bindP (aFad 11 v1) fun v19 =>
 bindP (aLd σ none v19) fun v20 =>
 bindP (aLen false v20) fun v21 => bnd σ v20 →
 bindP (semBin .gtr v21 (.sc (.int .i64 0))) fun v22 =>
 guardP v22 true (aFad 11 v1) fun v23 =>
 guardP v22 true (aLd σ none v23) fun v24 =>
 guardP v22 true (aIad 7 v24 (.sc (.int .i64 0))) fun v25 =>
 guardP v22 true (aFad 0 v25) fun v26 =>
 guardP v22 true (aLd σ none v26) fun v27 =>
 guardP v22 true (semBin .neq v27 (.sc (.int .i64 1))) fun v28 =>
 bindP (aPick v22 v28 (.sc (.bool false))) fun v29 =>
 COND v29 (
 bindS (hSt σ 1 v2 (.sc (.int .i64 9))) σ n fun v30 σ n =>
 σ q18 = some (.df true true) ∧ (fun σ =>
 bindP (aLd σ none v2) fun v31 =>
 R (.ret v31) σ n) (upd σ q18 none)) (
 bindS (hSt σ 1 v2 (.sc (.int .i64 0))) σ n fun v32 σ n =>
 σ q18 = some (.df true true) ∧ (fun σ =>
 bindP (aLd σ none v2) fun v33 =>
 R (.ret v33) σ n) (upd σ q18 none))
def rr_syntax_Check2 (q18 : Nat) (v2 : AV) (R : AEnd → Hp → Nat → Prop) (σ : Hp) (n : Nat) : Prop :=
 σ q18 = some (.df true true) ∧ (fun σ =>
 bindP (aLd σ none v2) fun v34 =>
 R (.ret v34) σ n) (upd σ q18 none)
def kc_syntax_Check3 (v2 : AV) (R : AEnd → Hp → Nat → Prop) (v1 : AV) (r : AEnd) (σ : Hp) (n : Nat) : Prop :=
 onEnd r (fun v13 =>
 bindP (aUn .not v13) fun v15 =>
 COND v15 (
 bindS (hSt σ 1 v2 (.sc (.int .i64 9))) σ n fun v16 σ n =>
 bindP (aLd σ none v2) fun v17 =>
 R (.ret v17) σ n) (
 (fun q18 => ∀ fnid, RNG Tryd.prog (.fn 57 [v1]) ⟨fnid, #[17], as_syntax_Check_1, bo_syntax_Check_1, q18⟩ (keepR [16, 17, 3, 21, 4, 1, 34, 2] [(.fn 57 [v1]), (.tp []), (.tp []), (.tp []), (.tp []), v1, (.tp []), v2]) 35 σ q18 (rngS 0 (rk_syntax_Check1 v1 v2 q18 R) (rr_syntax_Check2 q18 v2 R))) n)) (fun v14 => R (.pan v14) σ n)
attribute [go_sem] rk_syntax_Check1 rr_syntax_Check2 kc_syntax_Check3
def sp_syntax_Check : Spn := (.st (.reg [⟨(some 1), none, (.box (.t 0))⟩, ⟨(some 2), none, (.alloc [(.int .i64 0)])⟩]) (.st (.seq (.reg [⟨(some 5), none, (.fad 0 (.t 1))⟩, ⟨(some 6), none, (.ld none (.t 5))⟩, ⟨(some 7), none, (.bin .lss (.t 6) (.c (.sc (.int .i64 1))))⟩, ⟨(some 8), none, (.mv (.t 7))⟩, ⟨(some 9), (some (8, false)), (.fad 0 (.t 1))⟩, ⟨(some 10), (some (8, false)), (.ld none (.t 9))⟩, ⟨(some 11), (some (8, false)), (.bin .gtr (.t 10) (.c (.sc (.int .i64 10))))⟩, ⟨(some 12), none, (.pick (.t 8) (.c (.sc (.bool true))) (.t 11))⟩]) (.cond (.t 12) (.seq (.reg [⟨none, none, (.st 1 (.t 2) (.c (.sc (.int .i64 22))))⟩]) .ret) .skip)) (.st (.seq (.reg [⟨(some 13), none, (.ld (some 14) (.t 1))⟩, ⟨(some 14), none, (.call (.c (.fn 56 [])) [(.t 13)])⟩, ⟨(some 15), none, (.un .not (.t 14))⟩]) (.cond (.t 15) (.seq (.reg [⟨none, none, (.st 1 (.t 2) (.c (.sc (.int .i64 9))))⟩]) .ret) .skip)) (.st (.reg [⟨(some 16), none, (.mkf 57 [(.t 1)])⟩]) (.rng 0 (.t 16) [16, 17, 3, 21, 4, 1, 34, 2] #[17] as_syntax_Check_1 bo_syntax_Check_1 (.fin (.seq (.seq (.reg [⟨(some 23), none, (.fad 11 (.t 1))⟩, ⟨(some 24), none, (.ld none (.t 23))⟩, ⟨(some 25), none, (.len false (.t 24))⟩, ⟨(some 26), none, (.bin .gtr (.t 25) (.c (.sc (.int .i64 0))))⟩, ⟨(some 27), none, (.mv (.t 26))⟩, ⟨(some 28), (some (27, true)), (.fad 11 (.t 1))⟩, ⟨(some 29), (some (27, true)), (.ld none (.t 28))⟩, ⟨(some 30), (some (27, true)), (.iad 7 (.t 29) (.c (.sc (.int .i64 0))))⟩, ⟨(some 31), (some (27, true)), (.fad 0 (.t 30))⟩, ⟨(some 32), (some (27, true)), (.ld none (.t 31))⟩, ⟨(some 33), (some (27, true)), (.bin .neq (.t 32) (.c (.sc (.int .i64 1))))⟩, ⟨(some 34), none, (.pick (.t 27) (.t 33) (.c (.sc (.bool false))))⟩]) (.cond (.t 34) (.seq (.reg [⟨none, none, (.st 1 (.t 2) (.c (.sc (.int .i64 9))))⟩]) .ret) .skip)) (.seq (.reg [⟨none, none, (.st 1 (.t 2) (.c (.sc (.int .i64 0))))⟩]) .ret))))))))
def sh_syntax_Check (a0 : AV) (σ : Hp) (n : Nat) (R : AEnd → Hp → Nat → Prop) : Prop :=
 bindS (hBox n a0) σ n fun v1 σ n =>
 bindS (hAlloc n [(.int .i64 0)]) σ n fun v2 σ n =>
 bindP (aFad 0 v1) fun v3 =>
 bindP (aLd σ none v3) fun v4 =>
 bindP (semBin .lss v4 (.sc (.int .i64 1))) fun v5 =>
 guardP v5 false (aFad 0 v1) fun v6 =>
 guardP v5 false (aLd σ none v6) fun v7 =>
 guardP v5 false (semBin .gtr v7 (.sc (.int .i64 10))) fun v8 =>
 bindP (aPick v5 (.sc (.bool true)) v8) fun v9 =>
 COND v9 (
 bindS (hSt σ 1 v2 (.sc (.int .i64 22))) σ n fun v10 σ n =>
 bindP (aLd σ none v2) fun v11 =>
 R (.ret v11) σ n) (
 bindP (aLd σ (some 14) v1) fun v12 =>
 CALL Tryd.prog (.fn 56 []) [v12] σ n (kc_syntax_Check3 v2 R v1))
theorem se_syntax_Check (a0 : AV) (σ : Hp) (n : Nat) (R : AEnd → Hp → Nat → Prop) : sh_syntax_Check a0 σ n R = swpR Tryd.prog 35 sp_syntax_Check (retQ [(.c 2 none)] R) (entry [a0]) σ n := by kernel_rfl
theorem by_syntax_Check {a0 : AV} {σ : Hp} {n : Nat} {R : AEnd → Hp → Nat → Prop} (h : sh_syntax_Check a0 σ n R) : ConH Tryd.prog 26 [a0] σ n R := by
  rw [se_syntax_Check] at h
  exact conH_ofR [(.c 2 none)] (fn := Tryd.f26) rfl [0, 12, 15, 16, 17, 3, 21, 4, 1, 34, 2] (sp := sp_syntax_Check) (by kernel_rfl) (by kernel_rfl) (by kernel_rfl) (by kernel_rfl) h
def kc_syntax_Check_11 (a8 : AV) (y : Nat) (L : Lp) (gr : Regs) (R : AEnd → Hp → Nat → Prop) (r : AEnd) (σ : Hp) (n : Nat) : Prop :=
 onEnd r (fun v4 =>
 bindP (semBin .neq v4 (.sc (.int .i64 0))) fun v6 =>
 COND v6 (
 bindS (hSt σ 1 a8 v4) σ n fun v7 σ n =>
 σ y = some (.lp L gr 35 .busy none true) ∧ R (.ret (bb false)) (upd σ y (some (.lp L gr 35 .done (some .ret) true))) n) (
 σ y = some (.lp L gr 35 .busy none true) ∧ R (.ret (bb true)) (upd σ y (some (.lp L gr 35 .ready none true))) n)) (fun v5 => False)
attribute [go_sem] kc_syntax_Check_11
def sa_syntax_Check_1 : SCode := (.reg [
   ⟨(some 3), none, (.alloc [(.int .i64 0), (.int .i64 0), (.int .i64 0), (.string ⟨#[]⟩), (.string ⟨#[]⟩), (.string ⟨#[]⟩), (.slice none 0 0)])⟩,
    ⟨none, none, (.st 7 (.t 3) (.t 17))⟩])
def sb_syntax_Check_1 : SCode := (.block 1 (.seq (.reg [
   ⟨(some 18), none, (.ld (some 7) (.t 3))⟩,
    ⟨(some 19), none, (.call (.c (.fn 14 [])) [(.t 18)])⟩,
    ⟨(some 4), none, (.mv (.t 19))⟩]) (.seq (.reg [
   ⟨(some 20), none, (.mv (.t 4))⟩,
    ⟨(some 21), none, (.bin .neq (.t 20) (.c (.sc (.int .i64 0))))⟩]) (.cond (.t 21) (.seq (.reg [
   ⟨(some 22), none, (.mv (.t 4))⟩,
    ⟨none, none, (.st 1 (.t 2) (.t 22))⟩]) .ret) .skip))))
def shr_syntax_Check_1 (a0 a1 a2 a3 a4 a5 a6 a7 a8 : AV) (gr : Regs) (L : Lp) (y : Nat) (σ : Hp) (n : Nat) (R : AEnd → Hp → Nat → Prop) : Prop :=
 bindS (hAlloc n [(.int .i64 0), (.int .i64 0), (.int .i64 0), (.string ⟨#[]⟩), (.string ⟨#[]⟩), (.string ⟨#[]⟩), (.slice none 0 0)]) σ n fun v1 σ n =>
 bindS (hSt σ 7 v1 a0) σ n fun v2 σ n =>
 σ y = some (.lp L gr 35 .ready none true) ∧ (fun σ =>
 bindP (aLd σ (some 7) v1) fun v3 =>
 CALL Tryd.prog (.fn 14 []) [v3] σ n (kc_syntax_Check_11 a8 y L gr R)) (upd σ y (some (.lp L gr 35 .busy none true)))
theorem ser_syntax_Check_1 (a0 a1 a2 a3 a4 a5 a6 a7 a8 : AV) (gr : Regs) (L : Lp) (y : Nat) (σ : Hp) (n : Nat) (R : AEnd → Hp → Nat → Prop) : shr_syntax_Check_1 a0 a1 a2 a3 a4 a5 a6 a7 a8 gr L y σ n R = swp Tryd.prog sa_syntax_Check_1 (rndA Tryd.prog y L gr 35 sb_syntax_Check_1 R) (keepR [17, 16, 17, 3, 21, 4, 1, 34, 2] [a0, a1, a2, a3, a4, a5, a6, a7, a8]) σ n := by kernel_rfl
theorem byr_syntax_Check_1 {a0 a1 a2 a3 a4 a5 a6 a7 a8 : AV} {fnid : FuncId} {d y : Nat} {σ : Hp} {n : Nat} {R : AEnd → Hp → Nat → Prop} (hy : σ y = some (.lp ⟨fnid, #[17], as_syntax_Check_1, bo_syntax_Check_1, d⟩ (keepR [16, 17, 3, 21, 4, 1, 34, 2] [a1, a2, a3, a4, a5, a6, a7, a8]) 35 .ready none true)) (h : shr_syntax_Check_1 a0 a1 a2 a3 a4 a5 a6 a7 a8 (keepR [16, 17, 3, 21, 4, 1, 34, 2] [a1, a2, a3, a4, a5, a6, a7, a8]) ⟨fnid, #[17], as_syntax_Check_1, bo_syntax_Check_1, d⟩ y σ n R) : YCon Tryd.prog y [a0] σ n R := by
  rw [ser_syntax_Check_1] at h
  exact ycon_at (X := [0, 12, 15, 16, 17, 3, 21, 4, 1, 34, 2]) hy rfl (by kernel_rfl) (by kernel_rfl) (by kernel_rfl) h
end Go.Proofs.YtodoejfkjimeaaaDoor
