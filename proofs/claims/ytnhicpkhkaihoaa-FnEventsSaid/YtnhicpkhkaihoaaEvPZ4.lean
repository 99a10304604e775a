/- A part of the proof. -/
import Derived.Test.YtnhicpkhkaihoaaChecked
import Derived.Test.YtnhicpkhkaihoaaEvPZ3
import Derived.KernelRfl
namespace Go.Proofs.Ytnhicpkhkaihoaa.P
open Go Go.Proofs.Ytnhicpkhkaihoaa Go.Proofs.Ytnhicpkhkaihoaa.Eng
set_option linter.unusedVariables false
set_option maxRecDepth 100000
def FE.sg:Sg:=⟨[(1,[.t 8 0, .t 2 0, .t 1 0, .t 1 0])],[(1,[.t 8, .t 2, .t 1, .t 1]),(0,[.t 1])],[]⟩
def FE.txt (C:Ctx) (c0 c1 c2 c3:List T) (K:J2):Prop:=
 cl2 C 134 CZ.sg [] [c0,c1,c2,c3] fun v1 d2=>
 prP (bnI .neq (iv (cnt 8 c0)) (.int .i64 8)) fun t18_3=>
 AI t18_3 (
 K [] [(nxc d2 0),(nxc d2 1),(nxc d2 2),(nxc d2 3),[]]) (
 cl2 C 194 EG.sg [] [c0,c1,c2,c3] fun v4 d5=>
 BG (fun r8 x6 k7=>
 prP (bnI .lss (nx x6 0) (iv (cnt 1 c2))) fun t27_10=>
 AI t27_10 (
 ixW (cnt 1 c2) (nx x6 0) fun t36_11=>
 ldc c2 [] ((AA t36_11)*1) fun t37_12=>
 cl2 C 91 BM.sg [t37_12] [c0,c1,c2,c3] fun v13 d14=>
 cl2 C 195 ED.sg [(nx v13 0)] [c0,c1,c2,c3,(nxc k7 5),(nxc k7 6)] fun v16 d17=>
 prP (bnI .add (nx x6 0) (.int .i64 1)) fun t29_18=>
 r8 [t29_18] [(nxc k7 0),(nxc k7 1),(nxc k7 2),(nxc k7 3),(nxc k7 4),(nxc d17 0),(nxc d17 1)]) (
 BG (fun r21 x19 k20=>
 prP (bnI .lss (nx x19 0) (iv (cnt 1 c2))) fun t44_23=>
 AI t44_23 (
 ixW (cnt 1 c2) (nx x19 0) fun t53_24=>
 ldc c2 [] ((AA t53_24)*1) fun t54_25=>
 cl2 C 91 BM.sg [t54_25] [c0,c1,c2,c3] fun v26 d27=>
 cl2 C 196 EF.sg [(nx v26 0)] [c0,c1,c2,c3,(nxc k20 5),(nxc k20 6)] fun v29 d30=>
 prP (bnI .add (nx x19 0) (.int .i64 1)) fun t46_31=>
 r21 [t46_31] [(nxc k20 0),(nxc k20 1),(nxc k20 2),(nxc k20 3),(nxc k20 4),(nxc d30 0),(nxc d30 1)]) (
 cl2 C 197 GI.sg [] [(nxc k20 5),(nxc k20 6)] fun v32 d33=>
 BG (fun r36 x34 k35=>
 prP (bnI .lss (nx x34 0) (iv (cnt 8 (nxc k35 2)))) fun t63_38=>
 AI t63_38 (
 BZ (fun x40 k41=>
 prP (bnI .add (nx x40 0) (.int .i64 1)) fun t65_59=>
 r36 [t65_59] [(nxc k41 0),(nxc k41 1),(nxc k41 2),(nxc k41 3),(nxc k41 4),(nxc k41 5)]) fun j42=>
 ixW (cnt 8 (nxc k35 2)) (nx x34 0) fun t69_43=>
 stc (nxc k35 2) [] (((AA t69_43)*8)+7) (.bool false) fun k44=>
 cl2 C 190 EW.sg [(nx x34 0)] [(nxc k35 1)] fun v45 d46=>
 AI (nx v45 0) (
 ixW (cnt 8 c0) (nx x34 0) fun t79_48=>
 ldc c0 [] (((AA t79_48)*8)+1) fun t81_49=>
 cl2 C 79 DN.sg [(nx x34 0),t81_49] [] fun v50 d51=>
 apW [T.c (nx v50 0)] true (cnt 1 (nxc k35 0)) (cnt 1 [T.c (nx v50 0)]) 8 (
 ixW (cnt 8 c0) (nx x34 0) fun t91_53=>
 ldc c0 [] (((AA t91_53)*8)+1) fun t93_54=>
 cl2 C 181 CX.sg [] [] fun v55 d56=>
 ixW (cnt 8 k44) (nx x34 0) fun t96_57=>
 stg k44 [] ((AA t96_57)*8) [T.c (.bool false),T.c t93_54,T.c (.int .i64 0),T.c (.int .i64 0),T.c (.int .i64 0),T.c (.int .i64 0),T.l 1 (nxc d56 0),T.c (.bool false)] fun k58=>
 j42 [(nx x34 0)] [((nxc k35 0)++[T.c (nx v50 0)]),(nxc k35 1),k58,(nxc k35 3),(nxc k35 4),(nxc k35 5)])) (
 j42 [(nx x34 0)] [(nxc k35 0),(nxc k35 1),k44,(nxc k35 3),(nxc k35 4),(nxc k35 5)])) (
 BG (fun r62 x60 k61=>
 prP (bnI .lss (nx x60 0) (iv (cnt 8 (nxc k61 1)))) fun t101_64=>
 AI t101_64 (
 BZ (fun x66 k67=>
 prP (bnI .add (nx x66 0) (.int .i64 1)) fun t103_82=>
 r62 [t103_82] [(nxc k67 0),(nxc k67 1),(nxc k67 2),(nxc k67 3),(nxc k67 4)]) fun j68=>
 ixW (cnt 8 (nxc k61 1)) (nx x60 0) fun t107_69=>
 ldc (nxc k61 1) [] ((AA t107_69)*8) fun t109_70=>
 AI t109_70 (
 ixW (cnt 8 (nxc k61 1)) (nx x60 0) fun t116_71=>
 ldc (nxc k61 1) [] (((AA t116_71)*8)+3) fun t118_72=>
 ixW (cnt 8 (nxc k61 1)) (nx x60 0) fun t122_73=>
 ldc (nxc k61 1) [] (((AA t122_73)*8)+4) fun t124_74=>
 prP (bnI .add t118_72 t124_74) fun t125_75=>
 cl2 C 189 D4.sg [(nx x60 0)] [(nxc k61 1),(nxc k61 2),(nxc k61 3),(nxc k61 4)] fun v76 d77=>
 prP (bnI .add t125_75 (nx v76 0)) fun t129_79=>
 ixW (cnt 8 (nxc k61 1)) (nx x60 0) fun t130_80=>
 stc (nxc k61 1) [] (((AA t130_80)*8)+5) t129_79 fun k81=>
 j68 [(nx x60 0)] [(nxc k61 0),k81,(nxc k61 2),(nxc k61 3),(nxc k61 4)]) (
 j68 [(nx x60 0)] [(nxc k61 0),(nxc k61 1),(nxc k61 2),(nxc k61 3),(nxc k61 4)])) (
 K [] [(nxc k61 1),(nxc k61 2),[],(nxc k61 4),(nxc k61 0)])) [(.int .i64 0)] [(nxc k35 0),(nxc k35 2),(nxc k35 3),(nxc k35 4),(nxc k35 5)])) [(.int .i64 0)] [(nxc k20 0),(nxc d33 0),(nxc k20 1),(nxc k20 2),(nxc k20 3),(nxc k20 4)])) [(.int .i64 0)] [(nxc k7 0),(nxc k7 1),(nxc k7 2),(nxc k7 3),(nxc k7 4),(nxc k7 5),(nxc k7 6)])) [(.int .i64 0)] [[],(nxc d2 0),(nxc d2 1),(nxc d2 2),(nxc d2 3),(nxc d5 0),(nxc d5 1)])
theorem FE.cl2 {w0:World} {c0 c1 c2 c3:List T} {K:J2} (h:FE.txt ⟨Try.prog,w0⟩ c0 c1 c2 c3 K):Eng.cl2 ⟨Try.prog,w0⟩ 140 FE.sg [] [c0,c1,c2,c3] K:=
 AD (C:=⟨Try.prog,w0⟩) (f:=140) (fn:=Try.f140) [(134,CZ.sg),(194,EG.sg),(91,BM.sg),(195,ED.sg),(196,EF.sg),(197,GI.sg),(190,EW.sg),(79,DN.sg),(181,CX.sg),(189,D4.sg)] [(9,[0,0,0,0,8,0,56,120,252,511,1023]),(13,[0,0,0,0,8,0,56,120,252,511,1023]),(21,[0,1,0,0,8,0,56,120,248,0,1016,2047,4095]),(26,[0,1,0,0,8,0,56,120,248,0,512,0,3584,7680,15872,32760,0,0,196608,524280,1048575,2097151,4194303])] [(16361,⟨[.p (.j 0) 0, .p (.j 1) 0, .p (.j 2) 0, .t (.j 3) 1, .t (.j 4) 1, .v],[],[.bx [.t (.f 0) 8, .t (.f 1) 2, .t (.f 2) 1, .t (.f 3) 1], .bx [.z, .z, .z, .z], .bx [.t (.j 5) 8, .t (.j 6) 2, .t (.j 7) 1, .t (.j 8) 1], .ls, .ls, .ls, .ls, .ls, .ls]⟩),(32745,⟨[.p (.j 0) 0, .p (.j 1) 0, .t (.j 2) 1, .v],[],[.bx [.z, .z, .z, .z], .bx [.t (.j 3) 8, .t (.j 4) 2, .t (.j 5) 1, .t (.j 6) 1], .ls, .ls, .ls, .ls, .ls]⟩),(8186,⟨[.p (.j 0) 0, .p (.j 1) 0, .t (.j 2) 1, .v],[],[.bx [.z, .z, .z, .z], .bx [.t (.j 3) 8, .t (.j 4) 2, .t (.j 5) 1, .t (.j 6) 1], .ls, .ls, .ls, .ls, .ls]⟩),(4090,⟨[.p (.j 0) 0, .p (.j 1) 0, .p (.j 2) 0, .t (.j 3) 1, .t (.j 4) 1, .v],[],[.bx [.t (.f 0) 8, .t (.f 1) 2, .t (.f 2) 1, .t (.f 3) 1], .bx [.z, .z, .z, .z], .bx [.t (.j 5) 8, .t (.j 6) 2, .t (.j 7) 1, .t (.j 8) 1], .ls, .ls, .ls, .ls, .ls, .ls]⟩),(1018,⟨[.p (.j 0) 0, .p (.j 1) 0, .p (.j 2) 0, .t (.j 3) 1, .p (.j 4) 0, .v],[],[.bx [.t (.f 0) 8, .t (.f 1) 2, .t (.f 2) 1, .t (.f 3) 1], .bx [.z, .z, .z, .z], .bx [.t (.j 5) 8, .t (.j 6) 2, .t (.j 7) 1, .t (.j 8) 1], .ls, .bx [.t (.j 9) 1, .t (.j 10) 1], .ls, .ls, .ls, .ls, .ls, .ls]⟩),(506,⟨[.p (.j 0) 0, .p (.j 1) 0, .p (.j 2) 0, .t (.j 3) 1, .p (.j 4) 0, .v],[],[.bx [.t (.f 0) 8, .t (.f 1) 2, .t (.f 2) 1, .t (.f 3) 1], .bx [.z, .z, .z, .z], .bx [.t (.j 5) 8, .t (.j 6) 2, .t (.j 7) 1, .t (.j 8) 1], .ls, .bx [.t (.j 9) 1, .t (.j 10) 1], .ls, .ls, .ls, .ls, .ls, .ls]⟩)] Try.func140 (by kernel_rfl) (by kernel_rfl) (by kernel_rfl) h
def EB.sg:Sg:=⟨[(1,[.t 8 0, .t 2 0, .t 1 0, .t 1 0]),(1,[.v, .v, .v, .v, .v])],[(1,[.t 8, .t 2, .t 1, .t 1]),(1,[.v, .v, .t 1])],[]⟩
def EB.txt (C:Ctx) (a0 a1 a2 a3 a4:Value) (c0 c1 c2 c3:List T) (K:J2):Prop:=
 cl2 C 134 CZ.sg [] [c0,c1,c2,c3] fun v1 d2=>
 cl2 C 135 GC.sg [] [c0,c1,c2,c3] fun v3 d4=>
 prP (un .not (nx v3 0)) fun t13_6=>
 AI t13_6 (
 K [(.int .i64 2),(.int .i64 0)] [(nxc d2 0),(nxc d2 1),(nxc d2 2),(nxc d2 3),[]]) (
 prP (bnI .eql a0 (.int .i64 1)) fun t19_7=>
 AI t19_7 (
 cl2 C 136 FN.sg [a0,a1,a2,a3,a4] [(nxc d2 0),(nxc d2 1),(nxc d2 2),(nxc d2 3)] fun v8 d9=>
 K [(nx v8 0),(nx v8 1)] [(nxc d9 0),(nxc d2 1),(nxc d2 2),(nxc d9 1),(nxc d9 2)]) (
 BZ (fun x11 k12=>
 AI (nx x11 1) (
 cl2 C 137 GH.sg [(nx x11 2),(nx x11 3),(nx x11 4),(nx x11 5),(nx x11 6)] [(nxc k12 0),(nxc k12 1),(nxc k12 2),(nxc k12 3)] fun v18 d19=>
 K [(nx v18 0),(nx v18 1)] [(nxc d19 0),(nxc d19 1),(nxc d19 2),(nxc d19 3),(nxc d19 4)]) (
 prP (bnI .eql (nx x11 0) (.int .i64 4)) fun t36_20=>
 AI t36_20 (
 cl2 C 138 FL.sg [(nx x11 2),(nx x11 3),(nx x11 4),(nx x11 5),(nx x11 6)] [(nxc k12 0),(nxc k12 1),(nxc k12 2),(nxc k12 3)] fun v21 d22=>
 K [(nx v21 0),(nx v21 1)] [(nxc d22 0),(nxc d22 1),(nxc d22 2),(nxc d22 3),(nxc d22 4)]) (
 BZ (fun x24 k25=>
 AI (nx x24 1) (
 cl2 C 139 GG.sg [(nx x24 2),(nx x24 3),(nx x24 4),(nx x24 5),(nx x24 6)] [(nxc k25 0),(nxc k25 1),(nxc k25 2),(nxc k25 3)] fun v30 d31=>
 K [(nx v30 0),(nx v30 1)] [(nxc k25 0),(nxc d31 0),(nxc k25 2),(nxc k25 3),(nxc d31 1)]) (
 prP (bnI .eql (nx x24 0) (.int .i64 10)) fun t52_32=>
 AI t52_32 (
 cl2 C 140 FE.sg [] [(nxc k25 0),(nxc k25 1),(nxc k25 2),(nxc k25 3)] fun v33 d34=>
 K [(.int .i64 0),(.int .i64 0)] [(nxc d34 0),(nxc d34 1),(nxc d34 2),(nxc d34 3),(nxc d34 4)]) (
 K [(.int .i64 2),(.int .i64 0)] [(nxc k25 0),(nxc k25 1),(nxc k25 2),(nxc k25 3),[]]))) fun j26=>
 prP (bnI .eql (nx x11 0) (.int .i64 7)) fun t43_27=>
 AI t43_27 (
 j26 [(nx x11 0),t43_27,(nx x11 2),(nx x11 3),(nx x11 4),(nx x11 5),(nx x11 6),(nx x11 7),(nx x11 8)] [(nxc k12 0),(nxc k12 1),(nxc k12 2),(nxc k12 3)]) (
 prP (bnI .eql (nx x11 0) (.int .i64 8)) fun t44_28=>
 AI t44_28 (
 j26 [(nx x11 0),t44_28,(nx x11 2),(nx x11 3),(nx x11 4),(nx x11 5),(nx x11 6),(nx x11 7),(nx x11 8)] [(nxc k12 0),(nxc k12 1),(nxc k12 2),(nxc k12 3)]) (
 prP (bnI .eql (nx x11 0) (.int .i64 9)) fun t45_29=>
 j26 [(nx x11 0),t45_29,(nx x11 2),(nx x11 3),(nx x11 4),(nx x11 5),(nx x11 6),(nx x11 7),(nx x11 8)] [(nxc k12 0),(nxc k12 1),(nxc k12 2),(nxc k12 3)]))))) fun j13=>
 prP (bnI .eql a0 (.int .i64 2)) fun t26_14=>
 AI t26_14 (
 j13 [a0,t26_14,a0,a1,a2,a3,a4,(.int .i64 0),(.int .i64 0)] [(nxc d2 0),(nxc d2 1),(nxc d2 2),(nxc d2 3)]) (
 prP (bnI .eql a0 (.int .i64 3)) fun t27_15=>
 AI t27_15 (
 j13 [a0,t27_15,a0,a1,a2,a3,a4,(.int .i64 0),(.int .i64 0)] [(nxc d2 0),(nxc d2 1),(nxc d2 2),(nxc d2 3)]) (
 prP (bnI .eql a0 (.int .i64 5)) fun t28_16=>
 AI t28_16 (
 j13 [a0,t28_16,a0,a1,a2,a3,a4,(.int .i64 0),(.int .i64 0)] [(nxc d2 0),(nxc d2 1),(nxc d2 2),(nxc d2 3)]) (
 prP (bnI .eql a0 (.int .i64 6)) fun t29_17=>
 j13 [a0,t29_17,a0,a1,a2,a3,a4,(.int .i64 0),(.int .i64 0)] [(nxc d2 0),(nxc d2 1),(nxc d2 2),(nxc d2 3)])))))
theorem EB.cl2 {w0:World} {a0 a1 a2 a3 a4:Value} {c0 c1 c2 c3:List T} {K:J2} (h:EB.txt ⟨Try.prog,w0⟩ a0 a1 a2 a3 a4 c0 c1 c2 c3 K):Eng.cl2 ⟨Try.prog,w0⟩ 62 EB.sg [a0,a1,a2,a3,a4] [c0,c1,c2,c3] K:=
 AD (C:=⟨Try.prog,w0⟩) (f:=62) (fn:=Try.f62) [(134,CZ.sg),(135,GC.sg),(136,FN.sg),(137,GH.sg),(138,FL.sg),(139,GG.sg),(140,FE.sg)] [] [(491,⟨[.p (.j 0) 0, .p (.j 1) 0, .p (.j 2) 0, .p (.j 3) 0, .v, .v],[],[.bx [.v, .v, .v, .v, .v], .bx [.z, .z, .z, .z], .bx [.v, .v, .z], .bx [.t (.j 4) 8, .t (.j 5) 2, .t (.j 6) 1, .t (.j 7) 1], .ls, .ls, .ls, .ls]⟩),(7871,⟨[.p (.j 0) 0, .p (.j 1) 0, .p (.j 2) 0, .p (.j 3) 0, .v, .v],[],[.bx [.v, .v, .v, .v, .v], .bx [.z, .z, .z, .z], .bx [.v, .v, .z], .bx [.t (.j 4) 8, .t (.j 5) 2, .t (.j 6) 1, .t (.j 7) 1], .ls, .ls, .ls, .ls]⟩)] Try.func62 (by kernel_rfl) (by kernel_rfl) (by kernel_rfl) h
end Go.Proofs.Ytnhicpkhkaihoaa.P
