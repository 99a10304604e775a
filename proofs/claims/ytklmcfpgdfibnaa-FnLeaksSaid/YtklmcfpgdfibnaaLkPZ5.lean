/- A part of the proof. -/
import Derived.Test.YtklmcfpgdfibnaaChecked
import Derived.Test.YtklmcfpgdfibnaaLkPZ4
import Derived.KernelRfl
namespace Go.Proofs.Ytklmcfpgdfibnaa.P
open Go Go.Proofs.Ytklmcfpgdfibnaa Go.Proofs.Ytklmcfpgdfibnaa.Eng
set_option linter.unusedVariables false
set_option maxRecDepth 100000
def DY.sg:Sg:=⟨[(1,[.t 8 0, .t 2 0, .t 1 0, .t 1 0]),(0,[.v]),(0,[.v])],[(0,[.v])],[]⟩
def DY.txt (C:Ctx) (a0 a1:Value) (c0 c1 c2 c3:List T) (K:J2):Prop:=
 cl2 C 81 C1.sg [a0] [c0,c1,c2,c3] fun v1 d2=>
 cl2 C 81 C1.sg [a1] [c0,c1,c2,c3] fun v4 d5=>
 prP (bnI .lss (nx v1 0) (.int .i64 0)) fun t19_7=>
 gE t19_7 (
 gP t19_7 false (prP (bnI .lss (nx v4 0) (.int .i64 0))) fun t22_8=>
 prP (pk t19_7 (.bool true) t22_8) fun t23_9=>
 A6 t23_9 (
 K [(.bool false)] []) (
 cl2 C 118 D4.sg [(nx v1 0)] [c0,c1,c2,c3] fun v10 d11=>
 BD (fun r14 x12 k13=>
 prP (bnI .lss (nx x12 2) (nx x12 1)) fun t29_31=>
 A6 t29_31 (
 ixW (cnt 1 (nxc k13 1)) (nx x12 2) fun t30_32=>
 ldc (nxc k13 1) [] ((AD t30_32)*1) fun t31_33=>
 ixW (cnt 8 c0) t31_33 fun t37_34=>
 ldc c0 [] (((AD t37_34)*8)+1) fun t39_35=>
 cl2 C 98 EM.sg [t31_33,t39_35] [] fun v36 d37=>
 apW [T.c (nx v36 0)] true (cnt 1 (nxc k13 0)) (cnt 1 [T.c (nx v36 0)]) 8 (
 prP (bnI .add (nx x12 2) (.int .i64 1)) fun t43_39=>
 r14 [(nx x12 0),(nx x12 1),t43_39] [((nxc k13 0)++[T.c (nx v36 0)]),(nxc k13 1)])) (
 cl2 C 102 FC.sg [(.int .i64 (-1))] [c0,c1,c2,c3,(nxc k13 0)] fun v40 d41=>
 cl2 C 91 CO.sg [(nx x12 0)] [(nxc d41 0)] fun v42 d43=>
 K [(nx v42 0)] [])) [(nx v4 0),(iv (cnt 1 (nxc d11 0))),(.int .i64 0)] [[],(nxc d11 0)]))
theorem DY.cl2 {w0:World} {a0 a1:Value} {c0 c1 c2 c3:List T} {K:J2} (h:DY.txt ⟨Try.prog,w0⟩ a0 a1 c0 c1 c2 c3 K):Eng.cl2 ⟨Try.prog,w0⟩ 64 DY.sg [a0,a1] [c0,c1,c2,c3] K:=
 AV (C:=⟨Try.prog,w0⟩) (f:=64) (fn:=Try.f64) [(81,C1.sg),(118,D4.sg),(98,EM.sg),(102,FC.sg),(91,CO.sg)] [(1,[0,0,3,0,0,31,63,127])] [(250,⟨[.p (.j 0) 0, .v, .t (.j 1) 1, .t (.j 2) 1, .v, .v],[],[.bx [.t (.f 0) 8, .t (.f 1) 2, .t (.f 2) 1, .t (.f 3) 1], .ls, .ls]⟩)] Try.func64 (by kernel_rfl) (by kernel_rfl) (by kernel_rfl) h
def GJ.sg:Sg:=⟨[(1,[.t 8 0, .t 2 0, .t 1 0, .t 1 0])],[(0,[.t 1])],[]⟩
def GJ.txt (C:Ctx) (c0 c1 c2 c3:List T) (K:J2):Prop:=
 prP (bnI .neq (iv (cnt 8 c0)) (.int .i64 8)) fun t14_1=>
 A6 t14_1 (
 K [] [[]]) (
 cl2 C 40 EA.sg [] [c0,c1,c2,c3] fun v2 d3=>
 BD (fun r6 x4 k5=>
 prP (bnI .lss (nx x4 1) (nx x4 0)) fun t20_42=>
 A6 t20_42 (
 BP (fun x44 k45=>
 prP (bnI .add (nx x44 1) (.int .i64 1)) fun t64_74=>
 r6 [(nx x44 0),t64_74] [(nxc k45 0),(nxc k45 1),(nxc k45 2)]) fun j46=>
 ixW (cnt 1 (nxc k5 2)) (nx x4 1) fun t22_47=>
 ldc (nxc k5 2) [] ((AD t22_47)*1) fun t23_48=>
 cl2 C 91 CO.sg [t23_48] [(nxc k5 1)] fun v49 d50=>
 A6 (nx v49 0) (
 j46 [(nx x4 0),(nx x4 1)] [(nxc k5 0),(nxc k5 1),(nxc k5 2)]) (
 prP (bnI .add (nx x4 1) (.int .i64 1)) fun t32_52=>
 scW (cnt 1 (nxc k5 2)) (some t32_52) none fun l53 m54=>
 BD (fun r57 x55 k56=>
 prP (bnI .lss (nx x55 6) (nx x55 5)) fun t36_59=>
 A6 t36_59 (
 BP (fun x61 k62=>
 prP (bnI .add (nx x61 6) (.int .i64 1)) fun t55_73=>
 r57 [(nx x61 0),(nx x61 1),(nx x61 2),(iv (AD (nx x61 3))),(iv (AD (nx x61 4))),(nx x61 5),t55_73] [(nxc k62 0),(nxc k62 1),(nxc k62 2),(nxc k62 3)]) fun j63=>
 ixW (AD (nx x55 3)) (nx x55 6) fun t37_64=>
 ldc (nxc k56 2) [] ((AD (nx x55 4))+((AD t37_64)*1)) fun t38_65=>
 cl2 C 64 DY.sg [(nx x55 0),t38_65] [c0,c1,c2,c3] fun v66 d67=>
 gE (nx v66 0) (
 gE (nx v66 0) (
 gE (nx v66 0) (
 gP (nx v66 0) true ((fun K=>cl2 C 64 DY.sg [t38_65,(nx x55 0)] [c0,c1,c2,c3] fun v69 d70=>K (nx v69 0))) fun t47_71=>
 prP (pk (nx v66 0) t47_71 (.bool false)) fun t48_72=>
 A6 t48_72 (
 apW [T.c t38_65] true (cnt 1 (nxc k56 3)) (cnt 1 [T.c t38_65]) 8 (
 j63 [(nx x55 0),(nx x55 1),(nx x55 2),(iv (AD (nx x55 3))),(iv (AD (nx x55 4))),(nx x55 5),(nx x55 6)] [(nxc k56 0),(nxc k56 1),(nxc k56 2),((nxc k56 3)++[T.c t38_65])])) (
 j63 [(nx x55 0),(nx x55 1),(nx x55 2),(iv (AD (nx x55 3))),(iv (AD (nx x55 4))),(nx x55 5),(nx x55 6)] [(nxc k56 0),(nxc k56 1),(nxc k56 2),(nxc k56 3)]))))) (
 apW (nxc k56 3) true (cnt 1 (nxc k56 1)) (cnt 1 (nxc k56 3)) 8 (
 apW [T.l 1 (nxc k56 3)] false (cnt 1 (nxc k56 0)) (cnt 1 [T.l 1 (nxc k56 3)]) 24 (
 j46 [(nx x55 1),(nx x55 2)] [((nxc k56 0)++[T.l 1 (nxc k56 3)]),((nxc k56 1)++(nxc k56 3)),(nxc k56 2)])))) [t23_48,(nx x4 0),(nx x4 1),(iv (AD m54)),(iv ((AD l53)*1)),(iv (AD m54)),(.int .i64 0)] [(nxc k5 0),(nxc k5 1),(nxc k5 2),[T.c t23_48]])) (
 K [] [(nxc k5 0)])) [(iv (cnt 1 (nxc d3 0))),(.int .i64 0)] [[],[],(nxc d3 0)])
theorem GJ.cl2 {w0:World} {c0 c1 c2 c3:List T} {K:J2} (h:GJ.txt ⟨Try.prog,w0⟩ c0 c1 c2 c3 K):Eng.cl2 ⟨Try.prog,w0⟩ 63 GJ.sg [] [c0,c1,c2,c3] K:=
 AV (C:=⟨Try.prog,w0⟩) (f:=63) (fn:=Try.f63) [(40,EA.sg),(91,CO.sg),(64,DY.sg)] [] [(8296915,⟨[.p (.j 0) 0, .t (.j 1) 1, .t (.j 2) 1, .t (.j 3) 1, .v, .p (.j 4) 0, .t (.j 3) 1, .v, .v, .s (.j 3) 0 1, .v, .v],[],[.bx [.t (.f 0) 8, .t (.f 1) 2, .t (.f 2) 1, .t (.f 3) 1], .ls, .ls, .ls, .bx [.t (.j 5) 1], .ls]⟩),(1037114,⟨[.p (.j 0) 0, .t (.j 1) 1, .t (.j 2) 1, .t (.j 3) 1, .v, .p (.j 4) 0, .t (.j 3) 1, .v, .v, .s (.j 3) 0 1, .v, .v],[],[.bx [.t (.f 0) 8, .t (.f 1) 2, .t (.f 2) 1, .t (.f 3) 1], .ls, .ls, .ls, .bx [.t (.j 5) 1], .ls]⟩),(4051,⟨[.p (.j 0) 0, .t (.j 1) 1, .t (.j 2) 1, .t (.j 3) 1, .t (.j 3) 1, .v, .v],[],[.bx [.t (.f 0) 8, .t (.f 1) 2, .t (.f 2) 1, .t (.f 3) 1], .ls, .ls, .ls]⟩),(506,⟨[.p (.j 0) 0, .t (.j 1) 1, .t (.j 2) 1, .t (.j 3) 1, .t (.j 3) 1, .v, .v],[],[.bx [.t (.f 0) 8, .t (.f 1) 2, .t (.f 2) 1, .t (.f 3) 1], .ls, .ls, .ls]⟩)] Try.func63 (by kernel_rfl) (by kernel_rfl) (by kernel_rfl) h
def HA.sg:Sg:=⟨[(1,[.t 8 0, .t 2 0, .t 1 0, .t 1 0])],[(0,[.t 1])],[]⟩
def HA.txt (C:Ctx) (c0 c1 c2 c3:List T) (K:J2):Prop:=
 cl2 C 63 GJ.sg [] [c0,c1,c2,c3] fun v1 d2=>
 BD (fun r5 x3 k4=>
 prP (bnI .lss (nx x3 1) (nx x3 0)) fun t10_27=>
 A6 t10_27 (
 BP (fun x29 k30=>
 prP (bnI .add (nx x29 1) (.int .i64 1)) fun t33_45=>
 r5 [(nx x29 0),t33_45] [(nxc k30 0),(nxc k30 1)]) fun j31=>
 ixW (cnt 1 (nxc k4 1)) (nx x3 1) fun t11_32=>
 ldg (nxc k4 1) [] ((AD t11_32)*1) [.l 1] fun ts33=>
 prP (bnI .gtr (iv (cnt 1 (EK (nxc k4 1) [((AD t11_32)*1)]))) (.int .i64 1)) fun t16_34=>
 gE t16_34 (
 gE t16_34 (
 gE t16_34 (
 gP t16_34 false (ixW (cnt 1 (EK (nxc k4 1) [((AD t11_32)*1)])) (.int .i64 0)) fun t21_35=>
 gP t16_34 false (ldc (nxc k4 1) [((AD t11_32)*1)] ((AD t21_35)*1)) fun t22_36=>
 gE t16_34 (
 gE t16_34 (
 gP t16_34 false (ixW (cnt 1 (EK (nxc k4 1) [((AD t11_32)*1)])) (.int .i64 0)) fun t25_37=>
 gP t16_34 false (ldc (nxc k4 1) [((AD t11_32)*1)] ((AD t25_37)*1)) fun t26_38=>
 gP t16_34 false ((fun K=>cl2 C 64 DY.sg [t22_36,t26_38] [c0,c1,c2,c3] fun v39 d40=>K (nx v39 0))) fun t27_41=>
 prP (pk t16_34 (.bool true) t27_41) fun t28_42=>
 A6 t28_42 (
 mvW (nxc k4 1) [] ((AD t11_32)*1) 1 fun d43 k44=>
 apW [T.l 1 d43] false (cnt 1 (nxc k4 0)) (cnt 1 [T.l 1 d43]) 24 (
 j31 [(nx x3 0),(nx x3 1)] [((nxc k4 0)++[T.l 1 d43]),k44])) (
 j31 [(nx x3 0),(nx x3 1)] [(nxc k4 0),(nxc k4 1)]))))))) (
 K [] [(nxc k4 0)])) [(iv (cnt 1 (nxc d2 0))),(.int .i64 0)] [[],(nxc d2 0)]
theorem HA.cl2 {w0:World} {c0 c1 c2 c3:List T} {K:J2} (h:HA.txt ⟨Try.prog,w0⟩ c0 c1 c2 c3 K):Eng.cl2 ⟨Try.prog,w0⟩ 65 HA.sg [] [c0,c1,c2,c3] K:=
 AV (C:=⟨Try.prog,w0⟩) (f:=65) (fn:=Try.f65) [(63,GJ.sg),(64,DY.sg)] [(5,[0,1,3,7,15,31,31,95,223,479,31,1055,3103,7199,16383,32767])] [(467,⟨[.p (.j 0) 0, .t (.j 1) 1, .t (.j 2) 1, .v, .v],[],[.bx [.t (.f 0) 8, .t (.f 1) 2, .t (.f 2) 1, .t (.f 3) 1], .ls, .ls]⟩),(58,⟨[.p (.j 0) 0, .t (.j 1) 1, .t (.j 2) 1, .v, .v],[],[.bx [.t (.f 0) 8, .t (.f 1) 2, .t (.f 2) 1, .t (.f 3) 1], .ls, .ls]⟩)] Try.func65 (by kernel_rfl) (by kernel_rfl) (by kernel_rfl) h
end Go.Proofs.Ytklmcfpgdfibnaa.P
