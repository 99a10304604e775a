/- A part of the proof. -/
import Derived.Test.YtnhicpkhkaihoaaChecked
import Derived.Test.YtnhicpkhkaihoaaCkPZ3
import Derived.KernelRfl
namespace Go.Proofs.Ytnhicpkhkaihoaa.P
open Go Go.Proofs.Ytnhicpkhkaihoaa Go.Proofs.Ytnhicpkhkaihoaa.Eng
set_option linter.unusedVariables false
set_option maxRecDepth 100000
def FV.sg:Sg:=⟨[(1,[.t 8 0, .t 2 0, .t 1 0, .t 1 0])],[(1,[.t 8, .t 2, .t 1, .t 1]),(0,[.t 1])],[]⟩
def FV.txt (C:Ctx) (c0 c1 c2 c3:List T) (K:J2):Prop:=
 cl2 C 134 C7.sg [] [c0,c1,c2,c3] fun v1 d2=>
 prP (bnI .neq (iv (cnt 8 c0)) (.int .i64 8)) fun t18_3=>
 AU t18_3 (
 K [] [(nxc d2 0),(nxc d2 1),(nxc d2 2),(nxc d2 3),[]]) (
 cl2 C 194 EU.sg [] [c0,c1,c2,c3] fun v4 d5=>
 BD (fun r8 x6 k7=>
 prP (bnI .lss (nx x6 0) (iv (cnt 1 c2))) fun t27_10=>
 AU t27_10 (
 ixW (cnt 1 c2) (nx x6 0) fun t36_11=>
 ldc c2 [] ((AA t36_11)*1) fun t37_12=>
 cl2 C 91 BQ.sg [t37_12] [c0,c1,c2,c3] fun v13 d14=>
 cl2 C 195 FA.sg [(nx v13 0)] [c0,c1,c2,c3,(nxc k7 5),(nxc k7 6)] fun v16 d17=>
 prP (bnI .add (nx x6 0) (.int .i64 1)) fun t29_18=>
 r8 [t29_18] [(nxc k7 0),(nxc k7 1),(nxc k7 2),(nxc k7 3),(nxc k7 4),(nxc d17 0),(nxc d17 1)]) (
 BD (fun r21 x19 k20=>
 prP (bnI .lss (nx x19 0) (iv (cnt 1 c2))) fun t44_23=>
 AU t44_23 (
 ixW (cnt 1 c2) (nx x19 0) fun t53_24=>
 ldc c2 [] ((AA t53_24)*1) fun t54_25=>
 cl2 C 91 BQ.sg [t54_25] [c0,c1,c2,c3] fun v26 d27=>
 cl2 C 196 EY.sg [(nx v26 0)] [c0,c1,c2,c3,(nxc k20 5),(nxc k20 6)] fun v29 d30=>
 prP (bnI .add (nx x19 0) (.int .i64 1)) fun t46_31=>
 r21 [t46_31] [(nxc k20 0),(nxc k20 1),(nxc k20 2),(nxc k20 3),(nxc k20 4),(nxc d30 0),(nxc d30 1)]) (
 cl2 C 197 GV.sg [] [(nxc k20 5),(nxc k20 6)] fun v32 d33=>
 BD (fun r36 x34 k35=>
 prP (bnI .lss (nx x34 0) (iv (cnt 8 (nxc k35 2)))) fun t63_38=>
 AU t63_38 (
 BW (fun x40 k41=>
 prP (bnI .add (nx x40 0) (.int .i64 1)) fun t65_59=>
 r36 [t65_59] [(nxc k41 0),(nxc k41 1),(nxc k41 2),(nxc k41 3),(nxc k41 4),(nxc k41 5)]) fun j42=>
 ixW (cnt 8 (nxc k35 2)) (nx x34 0) fun t69_43=>
 stc (nxc k35 2) [] (((AA t69_43)*8)+7) (.bool false) fun k44=>
 cl2 C 190 FP.sg [(nx x34 0)] [(nxc k35 1)] fun v45 d46=>
 AU (nx v45 0) (
 ixW (cnt 8 c0) (nx x34 0) fun t79_48=>
 ldc c0 [] (((AA t79_48)*8)+1) fun t81_49=>
 cl2 C 79 EJ.sg [(nx x34 0),t81_49] [] fun v50 d51=>
 apW [T.c (nx v50 0)] true (cnt 1 (nxc k35 0)) (cnt 1 [T.c (nx v50 0)]) 8 (
 ixW (cnt 8 c0) (nx x34 0) fun t91_53=>
 ldc c0 [] (((AA t91_53)*8)+1) fun t93_54=>
 cl2 C 181 C5.sg [] [] fun v55 d56=>
 ixW (cnt 8 k44) (nx x34 0) fun t96_57=>
 stg k44 [] ((AA t96_57)*8) [T.c (.bool false),T.c t93_54,T.c (.int .i64 0),T.c (.int .i64 0),T.c (.int .i64 0),T.c (.int .i64 0),T.l 1 (nxc d56 0),T.c (.bool false)] fun k58=>
 j42 [(nx x34 0)] [((nxc k35 0)++[T.c (nx v50 0)]),(nxc k35 1),k58,(nxc k35 3),(nxc k35 4),(nxc k35 5)])) (
 j42 [(nx x34 0)] [(nxc k35 0),(nxc k35 1),k44,(nxc k35 3),(nxc k35 4),(nxc k35 5)])) (
 BD (fun r62 x60 k61=>
 prP (bnI .lss (nx x60 0) (iv (cnt 8 (nxc k61 1)))) fun t101_64=>
 AU t101_64 (
 BW (fun x66 k67=>
 prP (bnI .add (nx x66 0) (.int .i64 1)) fun t103_82=>
 r62 [t103_82] [(nxc k67 0),(nxc k67 1),(nxc k67 2),(nxc k67 3),(nxc k67 4)]) fun j68=>
 ixW (cnt 8 (nxc k61 1)) (nx x60 0) fun t107_69=>
 ldc (nxc k61 1) [] ((AA t107_69)*8) fun t109_70=>
 AU t109_70 (
 ixW (cnt 8 (nxc k61 1)) (nx x60 0) fun t116_71=>
 ldc (nxc k61 1) [] (((AA t116_71)*8)+3) fun t118_72=>
 ixW (cnt 8 (nxc k61 1)) (nx x60 0) fun t122_73=>
 ldc (nxc k61 1) [] (((AA t122_73)*8)+4) fun t124_74=>
 prP (bnI .add t118_72 t124_74) fun t125_75=>
 cl2 C 189 D7.sg [(nx x60 0)] [(nxc k61 1),(nxc k61 2),(nxc k61 3),(nxc k61 4)] fun v76 d77=>
 prP (bnI .add t125_75 (nx v76 0)) fun t129_79=>
 ixW (cnt 8 (nxc k61 1)) (nx x60 0) fun t130_80=>
 stc (nxc k61 1) [] (((AA t130_80)*8)+5) t129_79 fun k81=>
 j68 [(nx x60 0)] [(nxc k61 0),k81,(nxc k61 2),(nxc k61 3),(nxc k61 4)]) (
 j68 [(nx x60 0)] [(nxc k61 0),(nxc k61 1),(nxc k61 2),(nxc k61 3),(nxc k61 4)])) (
 K [] [(nxc k61 1),(nxc k61 2),[],(nxc k61 4),(nxc k61 0)])) [(.int .i64 0)] [(nxc k35 0),(nxc k35 2),(nxc k35 3),(nxc k35 4),(nxc k35 5)])) [(.int .i64 0)] [(nxc k20 0),(nxc d33 0),(nxc k20 1),(nxc k20 2),(nxc k20 3),(nxc k20 4)])) [(.int .i64 0)] [(nxc k7 0),(nxc k7 1),(nxc k7 2),(nxc k7 3),(nxc k7 4),(nxc k7 5),(nxc k7 6)])) [(.int .i64 0)] [[],(nxc d2 0),(nxc d2 1),(nxc d2 2),(nxc d2 3),(nxc d5 0),(nxc d5 1)])
theorem FV.cl2 {w0:World} {c0 c1 c2 c3:List T} {K:J2} (h:FV.txt ⟨Try.prog,w0⟩ c0 c1 c2 c3 K):Eng.cl2 ⟨Try.prog,w0⟩ 140 FV.sg [] [c0,c1,c2,c3] K:=
 AE (C:=⟨Try.prog,w0⟩) (f:=140) (fn:=Try.f140) [(134,C7.sg),(194,EU.sg),(91,BQ.sg),(195,FA.sg),(196,EY.sg),(197,GV.sg),(190,FP.sg),(79,EJ.sg),(181,C5.sg),(189,D7.sg)] [(9,[0,0,0,0,8,0,56,120,252,511,1023]),(13,[0,0,0,0,8,0,56,120,252,511,1023]),(21,[0,1,0,0,8,0,56,120,248,0,1016,2047,4095]),(26,[0,1,0,0,8,0,56,120,248,0,512,0,3584,7680,15872,32760,0,0,196608,524280,1048575,2097151,4194303])] [(16361,⟨[.p (.j 0) 0, .p (.j 1) 0, .p (.j 2) 0, .t (.j 3) 1, .t (.j 4) 1, .v],[],[.bx [.t (.f 0) 8, .t (.f 1) 2, .t (.f 2) 1, .t (.f 3) 1], .bx [.z, .z, .z, .z], .bx [.t (.j 5) 8, .t (.j 6) 2, .t (.j 7) 1, .t (.j 8) 1], .ls, .ls, .ls, .ls, .ls, .ls]⟩),(32745,⟨[.p (.j 0) 0, .p (.j 1) 0, .t (.j 2) 1, .v],[],[.bx [.z, .z, .z, .z], .bx [.t (.j 3) 8, .t (.j 4) 2, .t (.j 5) 1, .t (.j 6) 1], .ls, .ls, .ls, .ls, .ls]⟩),(8186,⟨[.p (.j 0) 0, .p (.j 1) 0, .t (.j 2) 1, .v],[],[.bx [.z, .z, .z, .z], .bx [.t (.j 3) 8, .t (.j 4) 2, .t (.j 5) 1, .t (.j 6) 1], .ls, .ls, .ls, .ls, .ls]⟩),(4090,⟨[.p (.j 0) 0, .p (.j 1) 0, .p (.j 2) 0, .t (.j 3) 1, .t (.j 4) 1, .v],[],[.bx [.t (.f 0) 8, .t (.f 1) 2, .t (.f 2) 1, .t (.f 3) 1], .bx [.z, .z, .z, .z], .bx [.t (.j 5) 8, .t (.j 6) 2, .t (.j 7) 1, .t (.j 8) 1], .ls, .ls, .ls, .ls, .ls, .ls]⟩),(1018,⟨[.p (.j 0) 0, .p (.j 1) 0, .p (.j 2) 0, .t (.j 3) 1, .p (.j 4) 0, .v],[],[.bx [.t (.f 0) 8, .t (.f 1) 2, .t (.f 2) 1, .t (.f 3) 1], .bx [.z, .z, .z, .z], .bx [.t (.j 5) 8, .t (.j 6) 2, .t (.j 7) 1, .t (.j 8) 1], .ls, .bx [.t (.j 9) 1, .t (.j 10) 1], .ls, .ls, .ls, .ls, .ls, .ls]⟩),(506,⟨[.p (.j 0) 0, .p (.j 1) 0, .p (.j 2) 0, .t (.j 3) 1, .p (.j 4) 0, .v],[],[.bx [.t (.f 0) 8, .t (.f 1) 2, .t (.f 2) 1, .t (.f 3) 1], .bx [.z, .z, .z, .z], .bx [.t (.j 5) 8, .t (.j 6) 2, .t (.j 7) 1, .t (.j 8) 1], .ls, .bx [.t (.j 9) 1, .t (.j 10) 1], .ls, .ls, .ls, .ls, .ls, .ls]⟩)] Try.func140 (by kernel_rfl) (by kernel_rfl) (by kernel_rfl) h
def HI.sg:Sg:=⟨[(1,[.t 8 0, .t 2 0, .t 1 0, .t 1 0]),(1,[.v, .v, .v, .v, .v])],[(1,[.t 8, .t 2, .t 1, .t 1]),(1,[.v, .v, .t 1])],[]⟩
def HI.txt (C:Ctx) (a0 a1 a2 a3 a4:Value) (c0 c1 c2 c3:List T) (K:J2):Prop:=
 cl2 C 134 C7.sg [] [c0,c1,c2,c3] fun v1 d2=>
 cl2 C 135 GU.sg [] [c0,c1,c2,c3] fun v3 d4=>
 prP (un .not (nx v3 0)) fun t13_6=>
 AU t13_6 (
 K [(.int .i64 2),(.int .i64 0)] [(nxc d2 0),(nxc d2 1),(nxc d2 2),(nxc d2 3),[]]) (
 prP (bnI .eql a0 (.int .i64 1)) fun t19_7=>
 AU t19_7 (
 cl2 C 136 FZ.sg [a0,a1,a2,a3,a4] [(nxc d2 0),(nxc d2 1),(nxc d2 2),(nxc d2 3)] fun v8 d9=>
 K [(nx v8 0),(nx v8 1)] [(nxc d9 0),(nxc d2 1),(nxc d2 2),(nxc d9 1),(nxc d9 2)]) (
 BW (fun x11 k12=>
 AU (nx x11 1) (
 cl2 C 137 GR.sg [(nx x11 2),(nx x11 3),(nx x11 4),(nx x11 5),(nx x11 6)] [(nxc k12 0),(nxc k12 1),(nxc k12 2),(nxc k12 3)] fun v18 d19=>
 K [(nx v18 0),(nx v18 1)] [(nxc d19 0),(nxc d19 1),(nxc d19 2),(nxc d19 3),(nxc d19 4)]) (
 prP (bnI .eql (nx x11 0) (.int .i64 4)) fun t36_20=>
 AU t36_20 (
 cl2 C 138 F5.sg [(nx x11 2),(nx x11 3),(nx x11 4),(nx x11 5),(nx x11 6)] [(nxc k12 0),(nxc k12 1),(nxc k12 2),(nxc k12 3)] fun v21 d22=>
 K [(nx v21 0),(nx v21 1)] [(nxc d22 0),(nxc d22 1),(nxc d22 2),(nxc d22 3),(nxc d22 4)]) (
 BW (fun x24 k25=>
 AU (nx x24 1) (
 cl2 C 139 GY.sg [(nx x24 2),(nx x24 3),(nx x24 4),(nx x24 5),(nx x24 6)] [(nxc k25 0),(nxc k25 1),(nxc k25 2),(nxc k25 3)] fun v30 d31=>
 K [(nx v30 0),(nx v30 1)] [(nxc k25 0),(nxc d31 0),(nxc k25 2),(nxc k25 3),(nxc d31 1)]) (
 prP (bnI .eql (nx x24 0) (.int .i64 10)) fun t52_32=>
 AU t52_32 (
 cl2 C 140 FV.sg [] [(nxc k25 0),(nxc k25 1),(nxc k25 2),(nxc k25 3)] fun v33 d34=>
 K [(.int .i64 0),(.int .i64 0)] [(nxc d34 0),(nxc d34 1),(nxc d34 2),(nxc d34 3),(nxc d34 4)]) (
 K [(.int .i64 2),(.int .i64 0)] [(nxc k25 0),(nxc k25 1),(nxc k25 2),(nxc k25 3),[]]))) fun j26=>
 prP (bnI .eql (nx x11 0) (.int .i64 7)) fun t43_27=>
 AU t43_27 (
 j26 [(nx x11 0),t43_27,(nx x11 2),(nx x11 3),(nx x11 4),(nx x11 5),(nx x11 6),(nx x11 7),(nx x11 8)] [(nxc k12 0),(nxc k12 1),(nxc k12 2),(nxc k12 3)]) (
 prP (bnI .eql (nx x11 0) (.int .i64 8)) fun t44_28=>
 AU t44_28 (
 j26 [(nx x11 0),t44_28,(nx x11 2),(nx x11 3),(nx x11 4),(nx x11 5),(nx x11 6),(nx x11 7),(nx x11 8)] [(nxc k12 0),(nxc k12 1),(nxc k12 2),(nxc k12 3)]) (
 prP (bnI .eql (nx x11 0) (.int .i64 9)) fun t45_29=>
 j26 [(nx x11 0),t45_29,(nx x11 2),(nx x11 3),(nx x11 4),(nx x11 5),(nx x11 6),(nx x11 7),(nx x11 8)] [(nxc k12 0),(nxc k12 1),(nxc k12 2),(nxc k12 3)]))))) fun j13=>
 prP (bnI .eql a0 (.int .i64 2)) fun t26_14=>
 AU t26_14 (
 j13 [a0,t26_14,a0,a1,a2,a3,a4,(.int .i64 0),(.int .i64 0)] [(nxc d2 0),(nxc d2 1),(nxc d2 2),(nxc d2 3)]) (
 prP (bnI .eql a0 (.int .i64 3)) fun t27_15=>
 AU t27_15 (
 j13 [a0,t27_15,a0,a1,a2,a3,a4,(.int .i64 0),(.int .i64 0)] [(nxc d2 0),(nxc d2 1),(nxc d2 2),(nxc d2 3)]) (
 prP (bnI .eql a0 (.int .i64 5)) fun t28_16=>
 AU t28_16 (
 j13 [a0,t28_16,a0,a1,a2,a3,a4,(.int .i64 0),(.int .i64 0)] [(nxc d2 0),(nxc d2 1),(nxc d2 2),(nxc d2 3)]) (
 prP (bnI .eql a0 (.int .i64 6)) fun t29_17=>
 j13 [a0,t29_17,a0,a1,a2,a3,a4,(.int .i64 0),(.int .i64 0)] [(nxc d2 0),(nxc d2 1),(nxc d2 2),(nxc d2 3)])))))
theorem HI.cl2 {w0:World} {a0 a1 a2 a3 a4:Value} {c0 c1 c2 c3:List T} {K:J2} (h:HI.txt ⟨Try.prog,w0⟩ a0 a1 a2 a3 a4 c0 c1 c2 c3 K):Eng.cl2 ⟨Try.prog,w0⟩ 62 HI.sg [a0,a1,a2,a3,a4] [c0,c1,c2,c3] K:=
 AE (C:=⟨Try.prog,w0⟩) (f:=62) (fn:=Try.f62) [(134,C7.sg),(135,GU.sg),(136,FZ.sg),(137,GR.sg),(138,F5.sg),(139,GY.sg),(140,FV.sg)] [] [(491,⟨[.p (.j 0) 0, .p (.j 1) 0, .p (.j 2) 0, .p (.j 3) 0, .v, .v],[],[.bx [.v, .v, .v, .v, .v], .bx [.z, .z, .z, .z], .bx [.v, .v, .z], .bx [.t (.j 4) 8, .t (.j 5) 2, .t (.j 6) 1, .t (.j 7) 1], .ls, .ls, .ls, .ls]⟩),(7871,⟨[.p (.j 0) 0, .p (.j 1) 0, .p (.j 2) 0, .p (.j 3) 0, .v, .v],[],[.bx [.v, .v, .v, .v, .v], .bx [.z, .z, .z, .z], .bx [.v, .v, .z], .bx [.t (.j 4) 8, .t (.j 5) 2, .t (.j 6) 1, .t (.j 7) 1], .ls, .ls, .ls, .ls]⟩)] Try.func62 (by kernel_rfl) (by kernel_rfl) (by kernel_rfl) h
def CE.sg:Sg:=⟨[(0,[.t 1 0])],[(0,[.t 1])],[]⟩
def CE.txt (C:Ctx) (c0:List T) (K:J2):Prop:=
 apW c0 true 0 (cnt 1 c0) 8 (
 K [] [([]++c0)])
theorem CE.cl2 {w0:World} {c0:List T} {K:J2} (h:CE.txt ⟨Try.prog,w0⟩ c0 K):Eng.cl2 ⟨Try.prog,w0⟩ 145 CE.sg [] [c0] K:=
 AE (C:=⟨Try.prog,w0⟩) (f:=145) (fn:=Try.f145) [] [] [] Try.func145 (by kernel_rfl) (by kernel_rfl) (by kernel_rfl) h
def FD.sg:Sg:=⟨[(1,[.t 8 0, .t 2 0, .t 1 0, .t 1 0])],[(1,[.t 8, .t 2, .t 1, .t 1])],[]⟩
def FD.txt (C:Ctx) (c0 c1 c2 c3:List T) (K:J2):Prop:=
 apW c1 true 0 (cnt 2 c1) 16 (
 cl2 C 145 CE.sg [] [c2] fun v1 d2=>
 cl2 C 144 D9.sg [] [c3] fun v3 d4=>
 BD (fun r7 x5 k6=>
 prP (bnI .lss (nx x5 1) (nx x5 0)) fun t20_16=>
 AU t20_16 (
 ixW (cnt 8 c0) (nx x5 1) fun t21_17=>
 ldg c0 [] ((AA t21_17)*8) [.c, .c, .c, .c, .c, .c, .l 1, .c] fun ts18=>
 cl2 C 145 CE.sg [] [(FI c0 [(((AA t21_17)*8)+6)])] fun v19 d20=>
 apW [T.c (tv (nxT ts18 0)),T.c (tv (nxT ts18 1)),T.c (tv (nxT ts18 2)),T.c (tv (nxT ts18 3)),T.c (tv (nxT ts18 4)),T.c (tv (nxT ts18 5)),T.l 1 (nxc d20 0),T.c (tv (nxT ts18 7))] false (cnt 8 (nxc k6 0)) (cnt 8 [T.c (tv (nxT ts18 0)),T.c (tv (nxT ts18 1)),T.c (tv (nxT ts18 2)),T.c (tv (nxT ts18 3)),T.c (tv (nxT ts18 4)),T.c (tv (nxT ts18 5)),T.l 1 (nxc d20 0),T.c (tv (nxT ts18 7))]) 80 (
 prP (bnI .add (nx x5 1) (.int .i64 1)) fun t33_21=>
 r7 [(nx x5 0),t33_21] [((nxc k6 0)++[T.c (tv (nxT ts18 0)),T.c (tv (nxT ts18 1)),T.c (tv (nxT ts18 2)),T.c (tv (nxT ts18 3)),T.c (tv (nxT ts18 4)),T.c (tv (nxT ts18 5)),T.l 1 (nxc d20 0),T.c (tv (nxT ts18 7))]),(nxc k6 1),(nxc k6 2),(nxc k6 3)])) (
 K [] [(nxc k6 0),(nxc k6 1),(nxc k6 2),(nxc k6 3)])) [(iv (cnt 8 c0)),(.int .i64 0)] [[],([]++c1),(nxc d2 0),(nxc d4 0)])
theorem FD.cl2 {w0:World} {c0 c1 c2 c3:List T} {K:J2} (h:FD.txt ⟨Try.prog,w0⟩ c0 c1 c2 c3 K):Eng.cl2 ⟨Try.prog,w0⟩ 141 FD.sg [] [c0,c1,c2,c3] K:=
 AE (C:=⟨Try.prog,w0⟩) (f:=141) (fn:=Try.f141) [(145,CE.sg),(144,D9.sg)] [(1,[0,1,3,0,8,31,0,64,255,511,0,2047])] [(58,⟨[.p (.j 0) 0, .p (.j 1) 0, .t (.f 0) 8, .v, .v],[],[.bx [.z, .z, .z, .z], .bx [.t (.j 2) 8, .t (.j 3) 2, .t (.j 4) 1, .t (.j 5) 1], .ls, .ls, .ls, .ls]⟩)] Try.func141 (by kernel_rfl) (by kernel_rfl) (by kernel_rfl) h
def FT.sg:Sg:=⟨[(1,[.t 8 0, .t 2 0, .t 1 0, .t 1 0]),(0,[.v])],[(0,[.v])],[]⟩
def FT.txt (C:Ctx) (a0:Value) (c0 c1 c2 c3:List T) (K:J2):Prop:=
 prP (bnI .sub (iv (cnt 8 c0)) (.int .i64 1)) fun t15_1=>
 cl2 C 157 FK.sg [a0,(.int .i64 0),t15_1] [] fun v2 d3=>
 prP (un .not (nx v2 0)) fun t17_5=>
 gE t17_5 (
 gE t17_5 (
 gE t17_5 (
 gP t17_5 false (ixW (cnt 8 c0) a0) fun t22_6=>
 gE t17_5 (
 gP t17_5 false (ldc c0 [] ((AA t22_6)*8)) fun t24_7=>
 gP t17_5 false (prP (un .not t24_7)) fun t25_8=>
 prP (pk t17_5 (.bool true) t25_8) fun t26_9=>
 AU t26_9 (
 K [(.int .i64 0)] []) (
 ixW (cnt 8 c0) a0 fun t31_10=>
 ldc c0 [] (((AA t31_10)*8)+1) fun t33_11=>
 cl2 C 84 GD.sg [a0,t33_11] [] fun v12 d13=>
 BD (fun r17 x15 k16=>
 prP (bnI .lss (nx x15 3) (nx x15 2)) fun t39_19=>
 AU t39_19 (
 ixW (cnt 8 c0) (nx x15 3) fun t40_20=>
 ldg c0 [] ((AA t40_20)*8) [.c, .c, .c, .c, .c, .c, .l 1, .c] fun ts21=>
 BD (fun r24 x22 k23=>
 prP (bnI .lss (nx x22 6) (nx x22 5)) fun t46_26=>
 AU t46_26 (
 BW (fun x28 k29=>
 prP (bnI .add (nx x28 6) (.int .i64 1)) fun t58_36=>
 r24 [(nx x28 0),(nx x28 1),(nx x28 2),(nx x28 3),(iv (AA (nx x28 4))),(nx x28 5),t58_36,(nx x28 7),(nx x28 8),(nx x28 9),(nx x28 10),(nx x28 11),(nx x28 12),(iv (AA (nx x28 13))),(nx x28 14)] []) fun j30=>
 ixW (cnt 1 (FI c0 [(AA (nx x22 4))])) (nx x22 6) fun t47_31=>
 ldc c0 [(AA (nx x22 4))] ((AA t47_31)*1) fun t48_32=>
 gE (nx x22 7) (
 gE (nx x22 7) (
 gP (nx x22 7) true (prP (bnI .eql t48_32 (nx x22 0))) fun t54_33=>
 prP (pk (nx x22 7) t54_33 (.bool false)) fun t55_34=>
 AU t55_34 (
 prP (bnI .add (nx x22 1) (.int .i64 1)) fun t57_35=>
 j30 [(nx x22 0),t57_35,(nx x22 2),(nx x22 3),(iv (AA (nx x22 4))),(nx x22 5),(nx x22 6),(nx x22 7),(nx x22 8),(nx x22 9),(nx x22 10),(nx x22 11),(nx x22 12),(iv (AA (nx x22 13))),(nx x22 14)] []) (
 j30 [(nx x22 0),(nx x22 1),(nx x22 2),(nx x22 3),(iv (AA (nx x22 4))),(nx x22 5),(nx x22 6),(nx x22 7),(nx x22 8),(nx x22 9),(nx x22 10),(nx x22 11),(nx x22 12),(iv (AA (nx x22 13))),(nx x22 14)] [])))) (
 prP (bnI .add (nx x22 3) (.int .i64 1)) fun t59_37=>
 r17 [(nx x22 0),(nx x22 1),(nx x22 2),t59_37] [])) [(nx x15 0),(nx x15 1),(nx x15 2),(nx x15 3),(iv (((AA t40_20)*8)+6)),(iv (cnt 1 (FI c0 [(((AA t40_20)*8)+6)]))),(.int .i64 0),(tv (nxT ts21 0)),(tv (nxT ts21 1)),(tv (nxT ts21 2)),(tv (nxT ts21 3)),(tv (nxT ts21 4)),(tv (nxT ts21 5)),(iv (((AA t40_20)*8)+6)),(tv (nxT ts21 7))] []) (
 K [(nx x15 1)] [])) [(nx v12 0),(.int .i64 0),(iv (cnt 8 c0)),(.int .i64 0)] [])))))
theorem FT.cl2 {w0:World} {a0:Value} {c0 c1 c2 c3:List T} {K:J2} (h:FT.txt ⟨Try.prog,w0⟩ a0 c0 c1 c2 c3 K):Eng.cl2 ⟨Try.prog,w0⟩ 223 FT.sg [a0] [c0,c1,c2,c3] K:=
 AE (C:=⟨Try.prog,w0⟩) (f:=223) (fn:=Try.f223) [(157,FK.sg),(84,GD.sg)] [] [(512819,⟨[.v, .v, .p (.j 0) 0, .t (.f 0) 8, .v, .v, .n (.f 0) 1 1, .v, .v],[],[.bx [.v, .v, .v, .v, .v, .v, .n (.f 0) 1 1, .v]]⟩),(64102,⟨[.v, .v, .p (.j 0) 0, .t (.f 0) 8, .v, .v, .n (.f 0) 1 1, .v, .v],[],[.bx [.v, .v, .v, .v, .v, .v, .n (.f 0) 1 1, .v]]⟩),(250,⟨[.v, .v, .t (.f 0) 8, .v, .v],[],[]⟩)] Try.func223 (by kernel_rfl) (by kernel_rfl) (by kernel_rfl) h
def BS.sg:Sg:=⟨[(0,[.v])],[(1,[.v, .v, .t 1])],[]⟩
def BS.txt (C:Ctx) (a0:Value) (K:J2):Prop:=
 K [a0,(.int .i64 0)] [[]]
theorem BS.cl2 {w0:World} {a0:Value} {K:J2} (h:BS.txt ⟨Try.prog,w0⟩ a0 K):Eng.cl2 ⟨Try.prog,w0⟩ 143 BS.sg [a0] [] K:=
 AE (C:=⟨Try.prog,w0⟩) (f:=143) (fn:=Try.f143) [] [] [] Try.func143 (by kernel_rfl) (by kernel_rfl) (by kernel_rfl) h
def EW.sg:Sg:=⟨[(1,[.t 8 0, .t 2 0, .t 1 0, .t 1 0])],[(0,[.v])],[]⟩
def EW.txt (C:Ctx) (c0 c1 c2 c3:List T) (K:J2):Prop:=
 BD (fun r3 x1 k2=>
 prP (bnI .lss (nx x1 1) (nx x1 0)) fun t9_5=>
 AU t9_5 (
 ixW (cnt 8 c0) (nx x1 1) fun t11_6=>
 ldg c0 [] ((AA t11_6)*8) [.c, .c, .c, .c, .c, .c, .l 1, .c] fun ts7=>
 prP (bnI .lss (nx x1 1) (.int .i64 8)) fun t14_8=>
 gE t14_8 (
 gE t14_8 (
 gP t14_8 true (prP (un .not (tv (nxT ts7 0)))) fun t18_9=>
 prP (pk t14_8 t18_9 (.bool false)) fun t19_10=>
 gE t19_10 (
 gE t19_10 (
 gP t19_10 true (prP (bnI .lss (tv (nxT ts7 1)) (.int .i64 999))) fun t23_11=>
 prP (pk t19_10 t23_11 (.bool false)) fun t24_12=>
 AU t24_12 (
 K [(nx x1 1)] []) (
 prP (bnI .add (nx x1 1) (.int .i64 1)) fun t26_13=>
 r3 [(nx x1 0),t26_13] [])))))) (
 K [(.int .i64 (-1))] [])) [(iv (cnt 8 c0)),(.int .i64 0)] []
theorem EW.cl2 {w0:World} {c0 c1 c2 c3:List T} {K:J2} (h:EW.txt ⟨Try.prog,w0⟩ c0 c1 c2 c3 K):Eng.cl2 ⟨Try.prog,w0⟩ 215 EW.sg [] [c0,c1,c2,c3] K:=
 AE (C:=⟨Try.prog,w0⟩) (f:=215) (fn:=Try.f215) [] [] [(26,⟨[.t (.f 0) 8, .v, .v],[],[]⟩)] Try.func215 (by kernel_rfl) (by kernel_rfl) (by kernel_rfl) h
def DR.sg:Sg:=⟨[(2,[.t 8 2, .t 2 0, .t 1 0, .t 1 2]),(0,[.v])],[(1,[.v, .v, .t 1])],[[.t 8, .a 1, .a 2, .t 1]]⟩
def DR.txt (C:Ctx) (a0:Value) (c0 c1 c2 c3:List T) (K:J2):Prop:=
 cl2 C 215 EW.sg [] [c0,c1,c2,c3] fun v1 d2=>
 cl2 C 115 GO.sg [a0] [c3] fun v4 d5=>
 BW (fun x8 k9=>
 ixW (cnt 8 (nxc k9 0)) (nx x8 0) fun t63_27=>
 ldc (nxc k9 0) [] (((AA t63_27)*8)+1) fun t65_28=>
 prP (bnI .add t65_28 (.int .i64 1)) fun t66_29=>
 ixW (cnt 8 (nxc k9 0)) (nx x8 0) fun t76_30=>
 stg (nxc k9 0) [] ((AA t76_30)*8) [T.c (.bool true),T.c t66_29,T.c (nx x8 1),T.c (.int .i64 1),T.c (.int .i64 0),T.c (.int .i64 1),T.l 1 [T.c (.int .i64 (-1)),T.c (.int .i64 (-1)),T.c (.int .i64 (-1))],T.c (.bool false)] fun k31=>
 cl2 C 84 GD.sg [(nx x8 0),t66_29] [] fun v32 d33=>
 K [(.int .i64 0),(nx v32 0)] [[],k31,(nxc k9 1)]) fun j10=>
 prP (lnS a0) fun t20_11=>
 cl2 C 157 FK.sg [t20_11,(.int .i64 1),(.int .i64 8)] [] fun v12 d13=>
 prP (un .not (nx v12 0)) fun t22_15=>
 AU t22_15 (
 cl2 C 143 BS.sg [(.int .i64 2)] [] fun v16 d17=>
 K [(nx v16 0),(nx v16 1)] [(nxc d17 0),c0,c3]) (
 prP (bnI .lss (nx v1 0) (.int .i64 0)) fun t26_18=>
 AU t26_18 (
 cl2 C 143 BS.sg [(.int .i64 3)] [] fun v19 d20=>
 K [(nx v19 0),(nx v19 1)] [(nxc d20 0),c0,c3]) (
 prP (bnI .lss (nx v4 0) (.int .i64 0)) fun t30_21=>
 gE t30_21 (
 gE t30_21 (
 gE t30_21 (
 gE t30_21 (
 gE t30_21 (
 gP t30_21 true (prP (bnI .geq (iv (cnt 1 c3)) (.int .i64 6))) fun t37_22=>
 prP (pk t30_21 t37_22 (.bool false)) fun t38_23=>
 AU t38_23 (
 cl2 C 143 BS.sg [(.int .i64 6)] [] fun v24 d25=>
 K [(nx v24 0),(nx v24 1)] [(nxc d25 0),c0,c3]) (
 prP (bnI .lss (nx v4 0) (.int .i64 0)) fun t42_26=>
 AU t42_26 (
 apW [T.c a0] true (cnt 1 c3) (cnt 1 [T.c a0]) 16 (
 j10 [(nx v1 0),(iv (cnt 1 c3)),(.int .i64 0),(.int .i64 0)] [c0,(c3++[T.c a0])])) (
 j10 [(nx v1 0),(nx v4 0),(.int .i64 0),(.int .i64 0)] [c0,c3])))))))))
theorem DR.cl2 {w0:World} {a0:Value} {c0 c1 c2 c3:List T} {K:J2} (h:DR.txt ⟨Try.prog,w0⟩ a0 c0 c1 c2 c3 K):Eng.cl2 ⟨Try.prog,w0⟩ 183 DR.sg [a0] [c0,c1,c2,c3] K:=
 AE (C:=⟨Try.prog,w0⟩) (f:=183) (fn:=Try.f183) [(215,EW.sg),(115,GO.sg),(157,FK.sg),(143,BS.sg),(84,GD.sg)] [] [(15,⟨[.p (.j 0) 0, .p (.j 1) 0, .v, .v],[.p (.j 0) 0, .w, .t (.f 0) 2, .t (.f 1) 1, .w],[.bx [.t (.j 2) 8, .t (.f 0) 2, .t (.f 1) 1, .t (.j 3) 1], .bx [.v, .v, .z], .ls, .ls]⟩)] Try.func183 (by kernel_rfl) (by kernel_rfl) (by kernel_rfl) h
def C2.sg:Sg:=⟨[(2,[.t 8 2, .t 2 0, .t 1 0, .t 1 0]),(0,[.v])],[],[[.t 8, .a 1, .a 2, .a 3]]⟩
def C2.txt (C:Ctx) (a0:Value) (c0 c1 c2 c3:List T) (K:J2):Prop:=
 cl2 C 92 BV.sg [a0] [c0,c1,c2,c3] fun v1 d2=>
 prP (bnI .geq (nx v1 0) (.int .i64 0)) fun t11_4=>
 AU t11_4 (
 ixW (cnt 8 c0) (nx v1 0) fun t17_5=>
 ldc c0 [] (((AA t17_5)*8)+5) fun t19_6=>
 prP (bnI .add t19_6 (.int .i64 1)) fun t20_7=>
 ixW (cnt 8 c0) (nx v1 0) fun t21_8=>
 stc c0 [] (((AA t21_8)*8)+5) t20_7 fun k9=>
 K [] [k9]) (
 K [] [c0])
theorem C2.cl2 {w0:World} {a0:Value} {c0 c1 c2 c3:List T} {K:J2} (h:C2.txt ⟨Try.prog,w0⟩ a0 c0 c1 c2 c3 K):Eng.cl2 ⟨Try.prog,w0⟩ 216 C2.sg [a0] [c0,c1,c2,c3] K:=
 AE (C:=⟨Try.prog,w0⟩) (f:=216) (fn:=Try.f216) [(92,BV.sg)] [] [] Try.func216 (by kernel_rfl) (by kernel_rfl) (by kernel_rfl) h
def F4.sg:Sg:=⟨[(0,[.t 1 0]),(0,[.v])],[(0,[.t 1])],[]⟩
def F4.txt (C:Ctx) (a0:Value) (c0:List T) (K:J2):Prop:=
 BD (fun r3 x1 k2=>
 prP (bnI .lss (nx x1 2) (nx x1 1)) fun t11_15=>
 AU t11_15 (
 BW (fun x17 k18=>
 prP (bnI .add (nx x17 2) (.int .i64 1)) fun t21_23=>
 r3 [(nx x17 0),(nx x17 1),t21_23] [(nxc k18 0)]) fun j19=>
 ixW (cnt 1 c0) (nx x1 2) fun t12_20=>
 ldc c0 [] ((AA t12_20)*1) fun t13_21=>
 prP (bnI .neq t13_21 (nx x1 0)) fun t16_22=>
 AU t16_22 (
 apW [T.c t13_21] true (cnt 1 (nxc k2 0)) (cnt 1 [T.c t13_21]) 8 (
 j19 [(nx x1 0),(nx x1 1),(nx x1 2)] [((nxc k2 0)++[T.c t13_21])])) (
 j19 [(nx x1 0),(nx x1 1),(nx x1 2)] [(nxc k2 0)])) (
 K [] [(nxc k2 0)])) [a0,(iv (cnt 1 c0)),(.int .i64 0)] [[]]
theorem F4.cl2 {w0:World} {a0:Value} {c0:List T} {K:J2} (h:F4.txt ⟨Try.prog,w0⟩ a0 c0 K):Eng.cl2 ⟨Try.prog,w0⟩ 232 F4.sg [a0] [c0] K:=
 AE (C:=⟨Try.prog,w0⟩) (f:=232) (fn:=Try.f232) [] [] [(467,⟨[.v, .t (.j 0) 1, .t (.f 0) 1, .v, .v],[],[.ls]⟩),(58,⟨[.v, .t (.j 0) 1, .t (.f 0) 1, .v, .v],[],[.ls]⟩)] Try.func232 (by kernel_rfl) (by kernel_rfl) (by kernel_rfl) h
def GM.sg:Sg:=⟨[(0,[.v])],[(1,[.v, .v, .v, .v, .v, .v, .t 1, .v])],[]⟩
def GM.txt (C:Ctx) (a0:Value) (K:J2):Prop:=
 K [(.bool false),a0,(.int .i64 0),(.int .i64 0),(.int .i64 0),(.int .i64 0),(.bool false)] [[T.c (.int .i64 (-1)),T.c (.int .i64 (-1)),T.c (.int .i64 (-1))]]
theorem GM.cl2 {w0:World} {a0:Value} {K:J2} (h:GM.txt ⟨Try.prog,w0⟩ a0 K):Eng.cl2 ⟨Try.prog,w0⟩ 182 GM.sg [a0] [] K:=
 AE (C:=⟨Try.prog,w0⟩) (f:=182) (fn:=Try.f182) [] [] [] Try.func182 (by kernel_rfl) (by kernel_rfl) (by kernel_rfl) h
def C3.sg:Sg:=⟨[(2,[.t 8 2, .t 2 0, .t 1 2, .t 1 0]),(0,[.t 1 0])],[(0,[.t 1])],[[.t 8, .a 1, .t 1, .a 3]]⟩
def C3.txt (C:Ctx) (c0 c1 c2 c3 c4:List T) (K:J2):Prop:=
 cl2 C 145 CE.sg [] [c4] fun v1 d2=>
 BD (fun r5 x3 k4=>
 prP (bnI .gtr (iv (AA (nx x3 0))) (.int .i64 0)) fun t16_51=>
 gE t16_51 (
 gE t16_51 (
 gP t16_51 true (prP (bnI .leq (iv (cnt 1 (nxc k4 0))) (.int .i64 8))) fun t20_52=>
 prP (pk t16_51 t20_52 (.bool false)) fun t21_53=>
 AU t21_53 (
 ixW (AA (nx x3 0)) (.int .i64 0) fun t23_54=>
 ldc (nxc k4 1) [] ((AA (nx x3 1))+((AA t23_54)*1)) fun t24_55=>
 scW (AA (nx x3 0)) (some (.int .i64 1)) none fun l56 m57=>
 cl2 C 92 BV.sg [t24_55] [(nxc k4 2),c1,(nxc k4 3),c3] fun v58 d59=>
 prP (bnI .lss (nx v58 0) (.int .i64 0)) fun t33_61=>
 AU t33_61 (
 r5 [(iv (AA m57)),(iv ((AA (nx x3 1))+((AA l56)*1)))] [(nxc k4 0),(nxc k4 1),(nxc k4 2),(nxc k4 3)]) (
 ixW (cnt 8 (nxc k4 2)) (nx v58 0) fun t39_62=>
 ldc (nxc k4 2) [] (((AA t39_62)*8)+5) fun t43_63=>
 prP (bnI .sub t43_63 (.int .i64 1)) fun t44_64=>
 stc (nxc k4 2) [] (((AA t39_62)*8)+5) t44_64 fun k65=>
 ldc k65 [] (((AA t39_62)*8)+5) fun t51_66=>
 prP (bnI .gtr t51_66 (.int .i64 0)) fun t52_67=>
 gE t52_67 (
 gE t52_67 (
 gE t52_67 (
 gP t52_67 true (ldc k65 [] (((AA t39_62)*8)+7)) fun t57_68=>
 gP t52_67 true (prP (un .not t57_68)) fun t58_69=>
 prP (pk t52_67 t58_69 (.bool false)) fun t59_70=>
 AU t59_70 (
 stc k65 [] (((AA t39_62)*8)+7) (.bool true) fun k71=>
 apW [T.c t24_55] true (cnt 1 (nxc k4 3)) (cnt 1 [T.c t24_55]) 8 (
 r5 [(iv (AA m57)),(iv ((AA (nx x3 1))+((AA l56)*1)))] [(nxc k4 0),(nxc k4 1),k71,((nxc k4 3)++[T.c t24_55])])) (
 ldc k65 [] (((AA t39_62)*8)+5) fun t77_72=>
 prP (bnI .leq t77_72 (.int .i64 0)) fun t78_73=>
 AU t78_73 (
 apW [T.c t24_55] true (cnt 1 (nxc k4 0)) (cnt 1 [T.c t24_55]) 8 (
 ldl k65 [] (((AA t39_62)*8)+6) 1 fun t86_74=>
 BD (fun r77 x75 k76=>
 prP (bnI .lss (nx x75 6) (nx x75 5)) fun t89_79=>
 AU t89_79 (
 BW (fun x81 k82=>
 prP (bnI .add (nx x81 6) (.int .i64 1)) fun t98_87=>
 r77 [(iv (AA (nx x81 0))),(iv (AA (nx x81 1))),(nx x81 2),(iv (AA (nx x81 3))),(iv (AA (nx x81 4))),(nx x81 5),t98_87] [(nxc k82 0),(nxc k82 1),(nxc k82 2),(nxc k82 3)]) fun j83=>
 ixW (cnt 1 (FI (nxc k76 2) [(AA (nx x75 4))])) (nx x75 6) fun t90_84=>
 ldc (nxc k76 2) [(AA (nx x75 4))] ((AA t90_84)*1) fun t91_85=>
 prP (bnI .geq t91_85 (.int .i64 0)) fun t93_86=>
 AU t93_86 (
 apW [T.c t91_85] true (AA (nx x75 0)) (cnt 1 [T.c t91_85]) 8 (
 j83 [(iv (cnt 1 ((IT (nxc k76 1) [] (AA (nx x75 1)) ((AA (nx x75 0))*1))++[T.c t91_85]))),(iv 0),(nx x75 2),(iv (AA (nx x75 3))),(iv (AA (nx x75 4))),(nx x75 5),(nx x75 6)] [(nxc k76 0),((IT (nxc k76 1) [] (AA (nx x75 1)) ((AA (nx x75 0))*1))++[T.c t91_85]),(nxc k76 2),(nxc k76 3)])) (
 j83 [(iv (AA (nx x75 0))),(iv (AA (nx x75 1))),(nx x75 2),(iv (AA (nx x75 3))),(iv (AA (nx x75 4))),(nx x75 5),(nx x75 6)] [(nxc k76 0),(nxc k76 1),(nxc k76 2),(nxc k76 3)])) (
 cl2 C 232 F4.sg [(nx x75 2)] [(nxc k76 3)] fun v88 d89=>
 ldc (nxc k76 2) [] ((AA (nx x75 3))+1) fun t112_90=>
 cl2 C 182 GM.sg [t112_90] [] fun v91 d92=>
 stg (nxc k76 2) [] (AA (nx x75 3)) [T.c (nx v91 0),T.c (nx v91 1),T.c (nx v91 2),T.c (nx v91 3),T.c (nx v91 4),T.c (nx v91 5),T.l 1 (nxc d92 0),T.c (nx v91 6)] fun k93=>
 r5 [(iv (AA (nx x75 0))),(iv (AA (nx x75 1)))] [(nxc k76 0),(nxc k76 1),k93,(nxc d89 0)])) [(iv (AA m57)),(iv ((AA (nx x3 1))+((AA l56)*1))),t24_55,(iv ((AA t39_62)*8)),(iv (((AA t39_62)*8)+6)),(iv (cnt 1 (FI k65 [(((AA t39_62)*8)+6)]))),(.int .i64 0)] [((nxc k4 0)++[T.c t24_55]),(nxc k4 1),k65,(nxc k4 3)])) (
 r5 [(iv (AA m57)),(iv ((AA (nx x3 1))+((AA l56)*1)))] [(nxc k4 0),(nxc k4 1),k65,(nxc k4 3)]))))))) (
 K [] [(nxc k4 0),(nxc k4 2),(nxc k4 3)])))) [(iv (cnt 1 (nxc d2 0))),(iv 0)] [[],(nxc d2 0),c0,c2]
theorem C3.cl2 {w0:World} {c0 c1 c2 c3 c4:List T} {K:J2} (h:C3.txt ⟨Try.prog,w0⟩ c0 c1 c2 c3 c4 K):Eng.cl2 ⟨Try.prog,w0⟩ 217 C3.sg [] [c0,c1,c2,c3,c4] K:=
 AE (C:=⟨Try.prog,w0⟩) (f:=217) (fn:=Try.f217) [(145,CE.sg),(92,BV.sg),(232,F4.sg),(182,GM.sg)] [] [(126613331,⟨[.p (.j 0) 0, .t (.j 1) 1, .s (.j 2) 0 1, .v, .e (.j 3) 0, .n (.j 3) 1 1, .v, .v],[.p (.j 0) 0, .w, .t (.f 0) 2, .w, .t (.f 1) 1, .t (.f 2) 1],[.bx [.t (.j 3) 8, .t (.f 0) 2, .t (.j 4) 1, .t (.f 1) 1], .ls, .ls, .ls, .ls]⟩),(15826666,⟨[.p (.j 0) 0, .t (.j 1) 1, .s (.j 2) 0 1, .v, .e (.j 3) 0, .n (.j 3) 1 1, .v, .v],[.p (.j 0) 0, .w, .t (.f 0) 2, .w, .t (.f 1) 1, .t (.f 2) 1],[.bx [.t (.j 3) 8, .t (.f 0) 2, .t (.j 4) 1, .t (.f 1) 1], .ls, .ls, .ls, .ls]⟩),(60,⟨[.p (.j 0) 0, .t (.j 1) 1, .s (.j 2) 0 1],[.p (.j 0) 0, .w, .t (.f 0) 2, .w, .t (.f 1) 1, .t (.f 2) 1],[.bx [.t (.j 3) 8, .t (.f 0) 2, .t (.j 4) 1, .t (.f 1) 1], .ls, .ls, .ls, .ls]⟩)] Try.func217 (by kernel_rfl) (by kernel_rfl) (by kernel_rfl) h
def C0.sg:Sg:=⟨[(2,[.t 8 2, .t 2 0, .t 1 2, .t 1 0]),(0,[.v]),(0,[.v])],[(1,[.v, .v, .t 1])],[[.t 8, .a 1, .t 1, .a 3]]⟩
def C0.txt (C:Ctx) (a0 a1:Value) (c0 c1 c2 c3:List T) (K:J2):Prop:=
 cl2 C 92 BV.sg [a1] [c0,c1,c2,c3] fun v1 d2=>
 prP (bnI .lss (nx v1 0) (.int .i64 0)) fun t15_4=>
 AU t15_4 (
 cl2 C 143 BS.sg [(.int .i64 1)] [] fun v5 d6=>
 K [(nx v5 0),(nx v5 1)] [(nxc d6 0),c0,c2]) (
 ixW (cnt 8 c0) (nx v1 0) fun t22_7=>
 BW (fun x9 k10=>
 prP (bnI .eql (nx x9 0) (.int .i64 2)) fun t38_16=>
 gE t38_16 (
 gP t38_16 false (prP (bnI .eql (nx x9 0) (.int .i64 5))) fun t41_17=>
 prP (pk t38_16 (.bool true) t41_17) fun t42_18=>
 AU t42_18 (
 ldc (nxc k10 0) [] (AA (nx x9 2)) fun t45_19=>
 prP (bnI .eql t45_19 (.int .i64 20)) fun t46_20=>
 AU t46_20 (
 cl2 C 143 BS.sg [(.int .i64 4)] [] fun v21 d22=>
 K [(nx v21 0),(nx v21 1)] [(nxc d22 0),(nxc k10 0),(nxc k10 1)]) (
 ldc (nxc k10 0) [] (AA (nx x9 2)) fun t50_23=>
 prP (bnI .add t50_23 (.int .i64 1)) fun t51_24=>
 stc (nxc k10 0) [] (AA (nx x9 2)) t51_24 fun k25=>
 cl2 C 216 C2.sg [(nx x9 1)] [k25,c1,(nxc k10 1),c3] fun v26 d27=>
 K [(.int .i64 0),(.int .i64 0)] [[],(nxc d27 0),(nxc k10 1)])) (
 ldc (nxc k10 0) [] (AA (nx x9 2)) fun t59_28=>
 prP (bnI .eql t59_28 (.int .i64 0)) fun t60_29=>
 AU t60_29 (
 cl2 C 143 BS.sg [(.int .i64 5)] [] fun v30 d31=>
 K [(nx v30 0),(nx v30 1)] [(nxc d31 0),(nxc k10 0),(nxc k10 1)]) (
 ldc (nxc k10 0) [] (AA (nx x9 2)) fun t64_32=>
 prP (bnI .sub t64_32 (.int .i64 1)) fun t65_33=>
 stc (nxc k10 0) [] (AA (nx x9 2)) t65_33 fun k34=>
 cl2 C 217 C3.sg [] [k34,c1,(nxc k10 1),c3,[T.c (nx x9 1)]] fun v35 d36=>
 K [(.int .i64 0),(.int .i64 0)] [(nxc d36 0),(nxc d36 1),(nxc d36 2)])))) fun j11=>
 prP (bnI .eql a0 (.int .i64 5)) fun t25_12=>
 gE t25_12 (
 gP t25_12 false (prP (bnI .eql a0 (.int .i64 6))) fun t28_13=>
 prP (pk t25_12 (.bool true) t28_13) fun t29_14=>
 AU t29_14 (
 ixW (cnt 8 c0) (nx v1 0) fun t35_15=>
 j11 [a0,a1,(iv (((AA t35_15)*8)+4)),(.int .i64 0),(.int .i64 0)] [c0,c2]) (
 j11 [a0,a1,(iv (((AA t22_7)*8)+3)),(.int .i64 0),(.int .i64 0)] [c0,c2])))
theorem C0.cl2 {w0:World} {a0 a1:Value} {c0 c1 c2 c3:List T} {K:J2} (h:C0.txt ⟨Try.prog,w0⟩ a0 a1 c0 c1 c2 c3 K):Eng.cl2 ⟨Try.prog,w0⟩ 184 C0.sg [a0,a1] [c0,c1,c2,c3] K:=
 AE (C:=⟨Try.prog,w0⟩) (f:=184) (fn:=Try.f184) [(92,BV.sg),(143,BS.sg),(216,C2.sg),(217,C3.sg)] [] [(31,⟨[.p (.j 0) 0, .v, .v, .p (.j 1) 0, .e (.j 2) 0],[.p (.j 0) 0, .w, .t (.f 0) 2, .w, .t (.f 1) 1],[.bx [.t (.j 2) 8, .t (.f 0) 2, .t (.j 3) 1, .t (.f 1) 1], .bx [.v, .v, .z], .ls, .ls]⟩)] Try.func184 (by kernel_rfl) (by kernel_rfl) (by kernel_rfl) h
def DQ.sg:Sg:=⟨[(2,[.t 8 2, .t 2 0, .t 1 2, .t 1 0]),(1,[.v, .v, .v, .v, .v])],[(1,[.v, .v, .t 1])],[[.t 8, .a 1, .t 1, .a 3]]⟩
def DQ.txt (C:Ctx) (a0 a1 a2 a3 a4:Value) (c0 c1 c2 c3:List T) (K:J2):Prop:=
 cl2 C 92 BV.sg [a1] [c0,c1,c2,c3] fun v1 d2=>
 prP (bnI .lss (nx v1 0) (.int .i64 0)) fun t15_4=>
 gE t15_4 (
 gE t15_4 (
 gP t15_4 false (prP (bnI .neq a3 (.int .i64 (-1)))) fun t19_5=>
 gE t15_4 (
 gE (DK t15_4 false t19_5) (
 gE (DK t15_4 false t19_5) (
 gE (DK t15_4 false t19_5) (
 gE (DK t15_4 false t19_5) (
 gE (DK t15_4 false t19_5) (
 gP (DK t15_4 false t19_5) true ((fun K=>cl2 C 92 BV.sg [a3] [c0,c1,c2,c3] fun v6 d7=>K (nx v6 0))) fun t26_8=>
 gP (DK t15_4 false t19_5) true (prP (bnI .lss t26_8 (.int .i64 0))) fun t27_9=>
 gP t15_4 false (prP (pk t19_5 t27_9 (.bool false))) fun t28_10=>
 prP (pk t15_4 (.bool true) t28_10) fun t29_11=>
 AU t29_11 (
 cl2 C 143 BS.sg [(.int .i64 1)] [] fun v12 d13=>
 K [(nx v12 0),(nx v12 1)] [(nxc d13 0),c0,c2]) (
 cl2 C 157 FK.sg [a2,(.int .i64 0),(.int .i64 2)] [] fun v14 d15=>
 prP (un .not (nx v14 0)) fun t35_17=>
 AU t35_17 (
 cl2 C 143 BS.sg [(.int .i64 2)] [] fun v18 d19=>
 K [(nx v18 0),(nx v18 1)] [(nxc d19 0),c0,c2]) (
 cl2 C 216 C2.sg [a3] [c0,c1,c2,c3] fun v20 d21=>
 ixW (cnt 8 (nxc d21 0)) (nx v1 0) fun t46_22=>
 ldl (nxc d21 0) [] (((AA t46_22)*8)+6) 1 fun t48_23=>
 ixW (cnt 1 (FI (nxc d21 0) [(((AA t46_22)*8)+6)])) a2 fun t51_24=>
 ldc (nxc d21 0) [(((AA t46_22)*8)+6)] ((AA t51_24)*1) fun t52_25=>
 ixW (cnt 8 (nxc d21 0)) (nx v1 0) fun t58_26=>
 ldl (nxc d21 0) [] (((AA t58_26)*8)+6) 1 fun t60_27=>
 ixW (cnt 1 (FI (nxc d21 0) [(((AA t58_26)*8)+6)])) a2 fun t65_28=>
 stc (nxc d21 0) [(((AA t58_26)*8)+6)] ((AA t65_28)*1) a3 fun k29=>
 prP (bnI .eql t52_25 (.int .i64 (-1))) fun t67_30=>
 AU t67_30 (
 K [(.int .i64 0),(.int .i64 0)] [[],k29,c2]) (
 cl2 C 217 C3.sg [] [k29,c1,c2,c3,[T.c t52_25]] fun v31 d32=>
 K [(.int .i64 0),(.int .i64 0)] [(nxc d32 0),(nxc d32 1),(nxc d32 2)])))))))))))
theorem DQ.cl2 {w0:World} {a0 a1 a2 a3 a4:Value} {c0 c1 c2 c3:List T} {K:J2} (h:DQ.txt ⟨Try.prog,w0⟩ a0 a1 a2 a3 a4 c0 c1 c2 c3 K):Eng.cl2 ⟨Try.prog,w0⟩ 185 DQ.sg [a0,a1,a2,a3,a4] [c0,c1,c2,c3] K:=
 AE (C:=⟨Try.prog,w0⟩) (f:=185) (fn:=Try.f185) [(92,BV.sg),(143,BS.sg),(157,FK.sg),(216,C2.sg),(217,C3.sg)] [(1,[0,1,3,0,8,31,63]),(2,[0,1,3,7,15,31,63,127,255,511,127,1151,4095,8191,16383,32767,65535]),(7,[0,1,3,7,0,31,63,127,0,256,1023,2047,4095]),(8,[0,1,3,7,0,31,63,127,0,256,0,1024,4095,8191])] [] Try.func185 (by kernel_rfl) (by kernel_rfl) (by kernel_rfl) h
def EO.sg:Sg:=⟨[(0,[.t 2 0])],[(0,[.v])],[]⟩
def EO.txt (C:Ctx) (c0:List T) (K:J2):Prop:=
 BD (fun r3 x1 k2=>
 prP (bnI .lss (nx x1 1) (nx x1 0)) fun t8_5=>
 AU t8_5 (
 ixW (cnt 2 c0) (nx x1 1) fun t10_6=>
 ldg c0 [] ((AA t10_6)*2) [.c, .c] fun ts7=>
 prP (un .not (tv (nxT ts7 0))) fun t14_8=>
 AU t14_8 (
 K [(nx x1 1)] []) (
 prP (bnI .add (nx x1 1) (.int .i64 1)) fun t16_9=>
 r3 [(nx x1 0),t16_9] [])) (
 K [(.int .i64 (-1))] [])) [(iv (cnt 2 c0)),(.int .i64 0)] []
theorem EO.cl2 {w0:World} {c0:List T} {K:J2} (h:EO.txt ⟨Try.prog,w0⟩ c0 K):Eng.cl2 ⟨Try.prog,w0⟩ 218 EO.sg [] [c0] K:=
 AE (C:=⟨Try.prog,w0⟩) (f:=218) (fn:=Try.f218) [] [] [(26,⟨[.t (.f 0) 2, .v, .v],[],[]⟩)] Try.func218 (by kernel_rfl) (by kernel_rfl) (by kernel_rfl) h
def EA.sg:Sg:=⟨[(2,[.t 8 0, .t 2 2, .t 1 0, .t 1 0]),(0,[.v])],[(1,[.v, .v, .t 1])],[[.a 0, .t 2, .a 2, .a 3]]⟩
def EA.txt (C:Ctx) (a0:Value) (c0 c1 c2 c3:List T) (K:J2):Prop:=
 cl2 C 218 EO.sg [] [c1] fun v1 d2=>
 cl2 C 92 BV.sg [a0] [c0,c1,c2,c3] fun v4 d5=>
 prP (bnI .lss (nx v4 0) (.int .i64 0)) fun t17_7=>
 AU t17_7 (
 cl2 C 143 BS.sg [(.int .i64 1)] [] fun v8 d9=>
 K [(nx v8 0),(nx v8 1)] [(nxc d9 0),c1]) (
 prP (bnI .lss (nx v1 0) (.int .i64 0)) fun t21_10=>
 AU t21_10 (
 cl2 C 143 BS.sg [(.int .i64 3)] [] fun v11 d12=>
 K [(nx v11 0),(nx v11 1)] [(nxc d12 0),c1]) (
 ixW (cnt 2 c1) (nx v1 0) fun t30_13=>
 stg c1 [] ((AA t30_13)*2) [T.c (.bool true),T.c a0] fun k14=>
 K [(.int .i64 0),(nx v1 0)] [[],k14]))
theorem EA.cl2 {w0:World} {a0:Value} {c0 c1 c2 c3:List T} {K:J2} (h:EA.txt ⟨Try.prog,w0⟩ a0 c0 c1 c2 c3 K):Eng.cl2 ⟨Try.prog,w0⟩ 186 EA.sg [a0] [c0,c1,c2,c3] K:=
 AE (C:=⟨Try.prog,w0⟩) (f:=186) (fn:=Try.f186) [(218,EO.sg),(92,BV.sg),(143,BS.sg)] [] [] Try.func186 (by kernel_rfl) (by kernel_rfl) (by kernel_rfl) h
def DD.sg:Sg:=⟨[(2,[.t 8 0, .t 2 2, .t 1 0, .t 1 0]),(0,[.v]),(0,[.v])],[(1,[.v, .v, .t 1])],[[.a 0, .t 2, .a 2, .a 3]]⟩
def DD.txt (C:Ctx) (a0 a1:Value) (c0 c1 c2 c3:List T) (K:J2):Prop:=
 prP (bnI .sub (iv (cnt 2 c1)) (.int .i64 1)) fun t13_1=>
 cl2 C 157 FK.sg [a1,(.int .i64 0),t13_1] [] fun v2 d3=>
 prP (un .not (nx v2 0)) fun t15_5=>
 gE t15_5 (
 gE t15_5 (
 gE t15_5 (
 gE t15_5 (
 gE t15_5 (
 gP t15_5 false (ixW (cnt 2 c1) a1) fun t22_6=>
 gE t15_5 (
 gP t15_5 false (ldc c1 [] ((AA t22_6)*2)) fun t24_7=>
 gP t15_5 false (prP (un .not t24_7)) fun t25_8=>
 prP (pk t15_5 (.bool true) t25_8) fun t26_9=>
 AU t26_9 (
 cl2 C 143 BS.sg [(.int .i64 2)] [] fun v10 d11=>
 K [(nx v10 0),(nx v10 1)] [(nxc d11 0),c1]) (
 prP (bnI .eql a0 (.int .i64 9)) fun t29_12=>
 AU t29_12 (
 ixW (cnt 2 c1) a1 fun t36_13=>
 stg c1 [] ((AA t36_13)*2) [T.c (.bool false),T.c (.int .i64 0)] fun k14=>
 K [(.int .i64 0),(.int .i64 0)] [[],k14]) (
 ixW (cnt 2 c1) a1 fun t46_15=>
 ldc c1 [] (((AA t46_15)*2)+1) fun t48_16=>
 cl2 C 92 BV.sg [t48_16] [c0,c1,c2,c3] fun v17 d18=>
 prP (bnI .lss (nx v17 0) (.int .i64 0)) fun t50_20=>
 AU t50_20 (
 K [(.int .i64 0),(.int .i64 (-1))] [[],c1]) (
 ixW (cnt 2 c1) a1 fun t57_21=>
 ldc c1 [] (((AA t57_21)*2)+1) fun t59_22=>
 K [(.int .i64 0),t59_22] [[],c1])))))))))
theorem DD.cl2 {w0:World} {a0 a1:Value} {c0 c1 c2 c3:List T} {K:J2} (h:DD.txt ⟨Try.prog,w0⟩ a0 a1 c0 c1 c2 c3 K):Eng.cl2 ⟨Try.prog,w0⟩ 187 DD.sg [a0,a1] [c0,c1,c2,c3] K:=
 AE (C:=⟨Try.prog,w0⟩) (f:=187) (fn:=Try.f187) [(157,FK.sg),(143,BS.sg),(92,BV.sg)] [(6,[0,1,3,0,8,24,56,0,248,504,1016,2047,4095])] [] Try.func187 (by kernel_rfl) (by kernel_rfl) (by kernel_rfl) h
def EP.sg:Sg:=⟨[(1,[.t 8 0, .t 2 0, .t 1 0, .t 1 0])],[(1,[.t 1, .t 1])],[]⟩
def EP.txt (C:Ctx) (c0 c1 c2 c3:List T) (K:J2):Prop:=
 BD (fun r3 x1 k2=>
 prP (bnI .lss (nx x1 1) (nx x1 0)) fun t10_15=>
 AU t10_15 (
 BW (fun x17 k18=>
 prP (bnI .add (nx x17 1) (.int .i64 1)) fun t28_23=>
 r3 [(nx x17 0),t28_23] [(nxc k18 0),(nxc k18 1)]) fun j19=>
 ixW (cnt 8 c0) (nx x1 1) fun t12_20=>
 ldg c0 [] ((AA t12_20)*8) [.c, .c, .c, .c, .c, .c, .l 1, .c] fun ts21=>
 prP (bnI .lss (nx x1 1) (.int .i64 8)) fun t15_22=>
 AU t15_22 (
 apW [T.c (tv (nxT ts21 5))] true (cnt 1 (nxc k2 0)) (cnt 1 [T.c (tv (nxT ts21 5))]) 8 (
 apW [T.c (.int .i64 0)] true (cnt 1 (nxc k2 1)) (cnt 1 [T.c (.int .i64 0)]) 8 (
 j19 [(nx x1 0),(nx x1 1)] [((nxc k2 0)++[T.c (tv (nxT ts21 5))]),((nxc k2 1)++[T.c (.int .i64 0)])]))) (
 j19 [(nx x1 0),(nx x1 1)] [(nxc k2 0),(nxc k2 1)])) (
 K [] [(nxc k2 0),(nxc k2 1)])) [(iv (cnt 8 c0)),(.int .i64 0)] [[],[]]
theorem EP.cl2 {w0:World} {c0 c1 c2 c3:List T} {K:J2} (h:EP.txt ⟨Try.prog,w0⟩ c0 c1 c2 c3 K):Eng.cl2 ⟨Try.prog,w0⟩ 219 EP.sg [] [c0,c1,c2,c3] K:=
 AE (C:=⟨Try.prog,w0⟩) (f:=219) (fn:=Try.f219) [] [] [(467,⟨[.p (.j 0) 0, .p (.j 1) 0, .t (.f 0) 8, .v, .v],[],[.bx [.z, .z], .bx [.t (.j 2) 1, .t (.j 3) 1], .ls, .ls]⟩),(58,⟨[.p (.j 0) 0, .p (.j 1) 0, .t (.f 0) 8, .v, .v],[],[.bx [.z, .z], .bx [.t (.j 2) 1, .t (.j 3) 1], .ls, .ls]⟩)] Try.func219 (by kernel_rfl) (by kernel_rfl) (by kernel_rfl) h
def C6.sg:Sg:=⟨[(1,[.t 1 0, .t 1 0])],[(1,[.t 1, .t 1])],[]⟩
def C6.txt (C:Ctx) (c0 c1:List T) (K:J2):Prop:=
 cl2 C 145 CE.sg [] [c0] fun v1 d2=>
 cl2 C 145 CE.sg [] [c1] fun v3 d4=>
 K [] [(nxc d2 0),(nxc d4 0)]
theorem C6.cl2 {w0:World} {c0 c1:List T} {K:J2} (h:C6.txt ⟨Try.prog,w0⟩ c0 c1 K):Eng.cl2 ⟨Try.prog,w0⟩ 233 C6.sg [] [c0,c1] K:=
 AE (C:=⟨Try.prog,w0⟩) (f:=233) (fn:=Try.f233) [(145,CE.sg)] [(1,[0,1,3,0,8,31,63,127])] [] Try.func233 (by kernel_rfl) (by kernel_rfl) (by kernel_rfl) h
def FH.sg:Sg:=⟨[(1,[.t 8 0, .t 2 0, .t 1 0, .t 1 0]),(1,[.t 1 0, .t 1 0]),(0,[.v])],[(0,[.v])],[]⟩
def FH.txt (C:Ctx) (a0:Value) (c0 c1 c2 c3 c4 c5:List T) (K:J2):Prop:=
 prP (bnI .eql (iv (cnt 8 c0)) (.int .i64 8)) fun t10_1=>
 gE t10_1 (
 gE t10_1 (
 gE t10_1 (
 gP t10_1 true (prP (bnI .eql (iv (cnt 1 c4)) (.int .i64 8))) fun t15_2=>
 prP (pk t10_1 t15_2 (.bool false)) fun t16_3=>
 gE t16_3 (
 gE t16_3 (
 gE t16_3 (
 gP t16_3 true (prP (bnI .eql (iv (cnt 1 c5)) (.int .i64 8))) fun t21_4=>
 prP (pk t16_3 t21_4 (.bool false)) fun t22_5=>
 gE t22_5 (
 gP t22_5 true ((fun K=>cl2 C 157 FK.sg [a0,(.int .i64 0),(.int .i64 7)] [] fun v6 d7=>K (nx v6 0))) fun t25_8=>
 prP (pk t22_5 t25_8 (.bool false)) fun t26_9=>
 gE t26_9 (
 gE t26_9 (
 gE t26_9 (
 gP t26_9 true (ixW (cnt 8 c0) a0) fun t31_10=>
 gE t26_9 (
 gP t26_9 true (ldc c0 [] ((AA t31_10)*8)) fun t33_11=>
 prP (pk t26_9 t33_11 (.bool false)) fun t34_12=>
 K [t34_12] [])))))))))))
theorem FH.cl2 {w0:World} {a0:Value} {c0 c1 c2 c3 c4 c5:List T} {K:J2} (h:FH.txt ⟨Try.prog,w0⟩ a0 c0 c1 c2 c3 c4 c5 K):Eng.cl2 ⟨Try.prog,w0⟩ 234 FH.sg [a0] [c0,c1,c2,c3,c4,c5] K:=
 AE (C:=⟨Try.prog,w0⟩) (f:=234) (fn:=Try.f234) [(157,FK.sg)] [] [] Try.func234 (by kernel_rfl) (by kernel_rfl) (by kernel_rfl) h
def D6.sg:Sg:=⟨[(1,[.t 8 0, .t 2 0, .t 1 0, .t 1 0]),(0,[.v])],[(0,[.t 1])],[]⟩
def D6.txt (C:Ctx) (a0:Value) (c0 c1 c2 c3:List T) (K:J2):Prop:=
 ixW (cnt 8 c0) a0 fun t12_1=>
 ldl c0 [] (((AA t12_1)*8)+6) 1 fun t14_2=>
 BD (fun r5 x3 k4=>
 prP (bnI .lss (nx x3 2) (nx x3 1)) fun t17_20=>
 AU t17_20 (
 BW (fun x22 k23=>
 prP (bnI .add (nx x22 2) (.int .i64 1)) fun t29_31=>
 r5 [(iv (AA (nx x22 0))),(nx x22 1),t29_31] [(nxc k23 0)]) fun j24=>
 ixW (cnt 1 (FI c0 [(AA (nx x3 0))])) (nx x3 2) fun t18_25=>
 ldc c0 [(AA (nx x3 0))] ((AA t18_25)*1) fun t19_26=>
 cl2 C 92 BV.sg [t19_26] [c0,c1,c2,c3] fun v27 d28=>
 prP (bnI .geq (nx v27 0) (.int .i64 0)) fun t24_30=>
 AU t24_30 (
 apW [T.c (nx v27 0)] true (cnt 1 (nxc k4 0)) (cnt 1 [T.c (nx v27 0)]) 8 (
 j24 [(iv (AA (nx x3 0))),(nx x3 1),(nx x3 2)] [((nxc k4 0)++[T.c (nx v27 0)])])) (
 j24 [(iv (AA (nx x3 0))),(nx x3 1),(nx x3 2)] [(nxc k4 0)])) (
 K [] [(nxc k4 0)])) [(iv (((AA t12_1)*8)+6)),(iv (cnt 1 (FI c0 [(((AA t12_1)*8)+6)]))),(.int .i64 0)] [[]]
theorem D6.cl2 {w0:World} {a0:Value} {c0 c1 c2 c3:List T} {K:J2} (h:D6.txt ⟨Try.prog,w0⟩ a0 c0 c1 c2 c3 K):Eng.cl2 ⟨Try.prog,w0⟩ 237 D6.sg [a0] [c0,c1,c2,c3] K:=
 AE (C:=⟨Try.prog,w0⟩) (f:=237) (fn:=Try.f237) [(92,BV.sg)] [] [(467,⟨[.p (.j 0) 0, .t (.j 1) 1, .n (.f 0) 1 1, .v, .v],[],[.bx [.t (.f 0) 8, .t (.f 1) 2, .t (.f 2) 1, .t (.f 3) 1], .ls]⟩),(58,⟨[.p (.j 0) 0, .t (.j 1) 1, .n (.f 0) 1 1, .v, .v],[],[.bx [.t (.f 0) 8, .t (.f 1) 2, .t (.f 2) 1, .t (.f 3) 1], .ls]⟩)] Try.func237 (by kernel_rfl) (by kernel_rfl) (by kernel_rfl) h
def BX.sg:Sg:=⟨[(2,[.t 1 2, .t 1 2]),(1,[.t 8 0, .t 2 0, .t 1 0, .t 1 0]),(0,[.v]),(0,[.v]),(0,[.v])],[],[[.t 1, .t 1]]⟩
def BX.txt (C:Ctx) (a0 a1 a2:Value) (c0 c1 c2 c3 c4 c5:List T) (K:J2):Prop:=
 ixW (cnt 1 c1) a0 fun t17_1=>
 ldc c1 [] ((AA t17_1)*1) fun t18_2=>
 prP (bnI .eql t18_2 a1) fun t20_3=>
 AU t20_3 (
 K [] [c0,c1]) (
 ixW (cnt 1 c1) a0 fun t27_4=>
 stc c1 [] ((AA t27_4)*1) a1 fun k5=>
 cl2 C 237 D6.sg [a0] [c2,c3,c4,c5] fun v6 d7=>
 BD (fun r10 x8 k9=>
 prP (bnI .lss (nx x8 3) (nx x8 2)) fun t33_12=>
 AU t33_12 (
 ixW (cnt 1 (nxc k9 0)) (nx x8 3) fun t34_13=>
 ldc (nxc k9 0) [] ((AA t34_13)*1) fun t35_14=>
 ixW (cnt 1 (nxc k9 1)) t35_14 fun t41_15=>
 ldc (nxc k9 1) [] ((AA t41_15)*1) fun t42_16=>
 prP (bnI .add t42_16 (nx x8 1)) fun t44_17=>
 ixW (cnt 1 (nxc k9 1)) t35_14 fun t45_18=>
 stc (nxc k9 1) [] ((AA t45_18)*1) t44_17 fun k19=>
 cl2 C 235 BX.sg [t35_14,(nx x8 0),(nx x8 1)] [k19,(nxc k9 2),c2,c3,c4,c5] fun v20 d21=>
 prP (bnI .add (nx x8 3) (.int .i64 1)) fun t52_22=>
 r10 [(nx x8 0),(nx x8 1),(nx x8 2),t52_22] [(nxc k9 0),(nxc d21 0),(nxc d21 1)]) (
 K [] [(nxc k9 1),(nxc k9 2)])) [a1,a2,(iv (cnt 1 (nxc d7 0))),(.int .i64 0)] [(nxc d7 0),c0,k5])
theorem BX.cl2 {w0:World} {a0 a1 a2:Value} {c0 c1 c2 c3 c4 c5:List T} {K:J2} (h:BX.txt ⟨Try.prog,w0⟩ a0 a1 a2 c0 c1 c2 c3 c4 c5 K):Eng.cl2 ⟨Try.prog,w0⟩ 235 BX.sg [a0,a1,a2] [c0,c1,c2,c3,c4,c5] K:=
 AE (C:=⟨Try.prog,w0⟩) (f:=235) (fn:=Try.f235) [(237,D6.sg),(235,BX.sg)] [] [(62,⟨[.p (.j 0) 0, .v, .v, .p (.j 1) 0, .t (.j 2) 1, .v, .v],[.p (.j 0) 0],[.bx [.t (.j 3) 1, .t (.j 4) 1], .bx [.t (.f 0) 8, .t (.f 1) 2, .t (.f 2) 1, .t (.f 3) 1], .ls, .ls, .ls]⟩)] Try.func235 (by kernel_rfl) (by kernel_rfl) (by kernel_rfl) h
def FC.sg:Sg:=⟨[(1,[.t 8 0, .t 2 0, .t 1 0, .t 1 0]),(1,[.t 1 0, .t 1 0]),(0,[.v])],[(1,[.t 1, .t 1])],[]⟩
def FC.txt (C:Ctx) (a0:Value) (c0 c1 c2 c3 c4 c5:List T) (K:J2):Prop:=
 cl2 C 233 C6.sg [] [c4,c5] fun v1 d2=>
 BW (fun x4 k5=>
 K [] [(nxc k5 0),(nxc k5 1)]) fun j6=>
 cl2 C 234 FH.sg [a0] [c0,c1,c2,c3,c4,c5] fun v7 d8=>
 AU (nx v7 0) (
 cl2 C 235 BX.sg [a0,(.int .i64 1),(.int .i64 (-1))] [(nxc d2 0),(nxc d2 1),c0,c1,c2,c3] fun v10 d11=>
 j6 [] [(nxc d11 0),(nxc d11 1)]) (
 j6 [] [(nxc d2 0),(nxc d2 1)])
theorem FC.cl2 {w0:World} {a0:Value} {c0 c1 c2 c3 c4 c5:List T} {K:J2} (h:FC.txt ⟨Try.prog,w0⟩ a0 c0 c1 c2 c3 c4 c5 K):Eng.cl2 ⟨Try.prog,w0⟩ 220 FC.sg [a0] [c0,c1,c2,c3,c4,c5] K:=
 AE (C:=⟨Try.prog,w0⟩) (f:=220) (fn:=Try.f220) [(233,C6.sg),(234,FH.sg),(235,BX.sg)] [] [(7,⟨[.p (.j 0) 0, .p (.j 1) 0],[],[.bx [.z, .z], .bx [.t (.j 2) 1, .t (.j 3) 1], .ls, .ls]⟩)] Try.func220 (by kernel_rfl) (by kernel_rfl) (by kernel_rfl) h
end Go.Proofs.Ytnhicpkhkaihoaa.P
