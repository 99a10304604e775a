/- A part of the proof. -/
import Derived.Test.YtklmcfpgdfibnaaChecked
import Derived.Test.YtklmcfpgdfibnaaRiPZ4
import Derived.KernelRfl
namespace Go.Proofs.Ytklmcfpgdfibnaa.P
open Go Go.Proofs.Ytklmcfpgdfibnaa Go.Proofs.Ytklmcfpgdfibnaa.Eng
set_option linter.unusedVariables false
set_option maxRecDepth 100000
def DT.sg:Sg:=⟨[(1,[.t 8 0, .t 2 0, .t 1 0, .t 1 0]),(0,[.v]),(0,[.v])],[(0,[.v])],[]⟩
def DT.txt (C:Ctx) (a0 a1:Value) (c0 c1 c2 c3:List T) (K:J2):Prop:=
 cl2 C 81 BD.sg [a0] [c0,c1,c2,c3] fun v1 d2=>
 cl2 C 81 BD.sg [a1] [c0,c1,c2,c3] fun v4 d5=>
 prP (bnI .lss (nx v1 0) (.int .i64 0)) fun t19_7=>
 gE t19_7 (
 gP t19_7 false (prP (bnI .lss (nx v4 0) (.int .i64 0))) fun t22_8=>
 prP (pk t19_7 (.bool true) t22_8) fun t23_9=>
 AW t23_9 (
 K [(.bool false)] []) (
 cl2 C 118 CN.sg [(nx v1 0)] [c0,c1,c2,c3] fun v10 d11=>
 AZ (fun r14 x12 k13=>
 prP (bnI .lss (nx x12 2) (nx x12 1)) fun t29_31=>
 AW t29_31 (
 ixW (cnt 1 (nxc k13 1)) (nx x12 2) fun t30_32=>
 ldc (nxc k13 1) [] ((AD t30_32)*1) fun t31_33=>
 ixW (cnt 8 c0) t31_33 fun t37_34=>
 ldc c0 [] (((AD t37_34)*8)+1) fun t39_35=>
 cl2 C 98 CJ.sg [t31_33,t39_35] [] fun v36 d37=>
 apW [T.c (nx v36 0)] true (cnt 1 (nxc k13 0)) (cnt 1 [T.c (nx v36 0)]) 8 (
 prP (bnI .add (nx x12 2) (.int .i64 1)) fun t43_39=>
 r14 [(nx x12 0),(nx x12 1),t43_39] [((nxc k13 0)++[T.c (nx v36 0)]),(nxc k13 1)])) (
 cl2 C 102 EG.sg [(.int .i64 (-1))] [c0,c1,c2,c3,(nxc k13 0)] fun v40 d41=>
 cl2 C 91 B8.sg [(nx x12 0)] [(nxc d41 0)] fun v42 d43=>
 K [(nx v42 0)] [])) [(nx v4 0),(iv (cnt 1 (nxc d11 0))),(.int .i64 0)] [[],(nxc d11 0)]))
theorem DT.cl2 {w0:World} {a0 a1:Value} {c0 c1 c2 c3:List T} {K:J2} (h:DT.txt ⟨Try.prog,w0⟩ a0 a1 c0 c1 c2 c3 K):Eng.cl2 ⟨Try.prog,w0⟩ 64 DT.sg [a0,a1] [c0,c1,c2,c3] K:=
 AV (C:=⟨Try.prog,w0⟩) (f:=64) (fn:=Try.f64) [(81,BD.sg),(118,CN.sg),(98,CJ.sg),(102,EG.sg),(91,B8.sg)] [(1,[0,0,3,0,0,31,63,127])] [(250,⟨[.p (.j 0) 0, .v, .t (.j 1) 1, .t (.j 2) 1, .v, .v],[],[.bx [.t (.f 0) 8, .t (.f 1) 2, .t (.f 2) 1, .t (.f 3) 1], .ls, .ls]⟩)] Try.func64 (by kernel_rfl) (by kernel_rfl) (by kernel_rfl) h
def FL.sg:Sg:=⟨[(1,[.t 8 0, .t 2 0, .t 1 0, .t 1 0])],[(0,[.t 1])],[]⟩
def FL.txt (C:Ctx) (c0 c1 c2 c3:List T) (K:J2):Prop:=
 prP (bnI .neq (iv (cnt 8 c0)) (.int .i64 8)) fun t14_1=>
 AW t14_1 (
 K [] [[]]) (
 cl2 C 40 CY.sg [] [c0,c1,c2,c3] fun v2 d3=>
 AZ (fun r6 x4 k5=>
 prP (bnI .lss (nx x4 1) (nx x4 0)) fun t20_42=>
 AW t20_42 (
 BJ (fun x44 k45=>
 prP (bnI .add (nx x44 1) (.int .i64 1)) fun t64_74=>
 r6 [(nx x44 0),t64_74] [(nxc k45 0),(nxc k45 1),(nxc k45 2)]) fun j46=>
 ixW (cnt 1 (nxc k5 2)) (nx x4 1) fun t22_47=>
 ldc (nxc k5 2) [] ((AD t22_47)*1) fun t23_48=>
 cl2 C 91 B8.sg [t23_48] [(nxc k5 1)] fun v49 d50=>
 AW (nx v49 0) (
 j46 [(nx x4 0),(nx x4 1)] [(nxc k5 0),(nxc k5 1),(nxc k5 2)]) (
 prP (bnI .add (nx x4 1) (.int .i64 1)) fun t32_52=>
 scW (cnt 1 (nxc k5 2)) (some t32_52) none fun l53 m54=>
 AZ (fun r57 x55 k56=>
 prP (bnI .lss (nx x55 6) (nx x55 5)) fun t36_59=>
 AW t36_59 (
 BJ (fun x61 k62=>
 prP (bnI .add (nx x61 6) (.int .i64 1)) fun t55_73=>
 r57 [(nx x61 0),(nx x61 1),(nx x61 2),(iv (AD (nx x61 3))),(iv (AD (nx x61 4))),(nx x61 5),t55_73] [(nxc k62 0),(nxc k62 1),(nxc k62 2),(nxc k62 3)]) fun j63=>
 ixW (AD (nx x55 3)) (nx x55 6) fun t37_64=>
 ldc (nxc k56 2) [] ((AD (nx x55 4))+((AD t37_64)*1)) fun t38_65=>
 cl2 C 64 DT.sg [(nx x55 0),t38_65] [c0,c1,c2,c3] fun v66 d67=>
 gE (nx v66 0) (
 gE (nx v66 0) (
 gE (nx v66 0) (
 gP (nx v66 0) true ((fun K=>cl2 C 64 DT.sg [t38_65,(nx x55 0)] [c0,c1,c2,c3] fun v69 d70=>K (nx v69 0))) fun t47_71=>
 prP (pk (nx v66 0) t47_71 (.bool false)) fun t48_72=>
 AW t48_72 (
 apW [T.c t38_65] true (cnt 1 (nxc k56 3)) (cnt 1 [T.c t38_65]) 8 (
 j63 [(nx x55 0),(nx x55 1),(nx x55 2),(iv (AD (nx x55 3))),(iv (AD (nx x55 4))),(nx x55 5),(nx x55 6)] [(nxc k56 0),(nxc k56 1),(nxc k56 2),((nxc k56 3)++[T.c t38_65])])) (
 j63 [(nx x55 0),(nx x55 1),(nx x55 2),(iv (AD (nx x55 3))),(iv (AD (nx x55 4))),(nx x55 5),(nx x55 6)] [(nxc k56 0),(nxc k56 1),(nxc k56 2),(nxc k56 3)]))))) (
 apW (nxc k56 3) true (cnt 1 (nxc k56 1)) (cnt 1 (nxc k56 3)) 8 (
 apW [T.l 1 (nxc k56 3)] false (cnt 1 (nxc k56 0)) (cnt 1 [T.l 1 (nxc k56 3)]) 24 (
 j46 [(nx x55 1),(nx x55 2)] [((nxc k56 0)++[T.l 1 (nxc k56 3)]),((nxc k56 1)++(nxc k56 3)),(nxc k56 2)])))) [t23_48,(nx x4 0),(nx x4 1),(iv (AD m54)),(iv ((AD l53)*1)),(iv (AD m54)),(.int .i64 0)] [(nxc k5 0),(nxc k5 1),(nxc k5 2),[T.c t23_48]])) (
 K [] [(nxc k5 0)])) [(iv (cnt 1 (nxc d3 0))),(.int .i64 0)] [[],[],(nxc d3 0)])
theorem FL.cl2 {w0:World} {c0 c1 c2 c3:List T} {K:J2} (h:FL.txt ⟨Try.prog,w0⟩ c0 c1 c2 c3 K):Eng.cl2 ⟨Try.prog,w0⟩ 63 FL.sg [] [c0,c1,c2,c3] K:=
 AV (C:=⟨Try.prog,w0⟩) (f:=63) (fn:=Try.f63) [(40,CY.sg),(91,B8.sg),(64,DT.sg)] [] [(8296915,⟨[.p (.j 0) 0, .t (.j 1) 1, .t (.j 2) 1, .t (.j 3) 1, .v, .p (.j 4) 0, .t (.j 3) 1, .v, .v, .s (.j 3) 0 1, .v, .v],[],[.bx [.t (.f 0) 8, .t (.f 1) 2, .t (.f 2) 1, .t (.f 3) 1], .ls, .ls, .ls, .bx [.t (.j 5) 1], .ls]⟩),(1037114,⟨[.p (.j 0) 0, .t (.j 1) 1, .t (.j 2) 1, .t (.j 3) 1, .v, .p (.j 4) 0, .t (.j 3) 1, .v, .v, .s (.j 3) 0 1, .v, .v],[],[.bx [.t (.f 0) 8, .t (.f 1) 2, .t (.f 2) 1, .t (.f 3) 1], .ls, .ls, .ls, .bx [.t (.j 5) 1], .ls]⟩),(4051,⟨[.p (.j 0) 0, .t (.j 1) 1, .t (.j 2) 1, .t (.j 3) 1, .t (.j 3) 1, .v, .v],[],[.bx [.t (.f 0) 8, .t (.f 1) 2, .t (.f 2) 1, .t (.f 3) 1], .ls, .ls, .ls]⟩),(506,⟨[.p (.j 0) 0, .t (.j 1) 1, .t (.j 2) 1, .t (.j 3) 1, .t (.j 3) 1, .v, .v],[],[.bx [.t (.f 0) 8, .t (.f 1) 2, .t (.f 2) 1, .t (.f 3) 1], .ls, .ls, .ls]⟩)] Try.func63 (by kernel_rfl) (by kernel_rfl) (by kernel_rfl) h
def GR.sg:Sg:=⟨[(1,[.t 8 0, .t 2 0, .t 1 0, .t 1 0])],[(0,[.t 1])],[]⟩
def GR.txt (C:Ctx) (c0 c1 c2 c3:List T) (K:J2):Prop:=
 cl2 C 63 FL.sg [] [c0,c1,c2,c3] fun v1 d2=>
 AZ (fun r5 x3 k4=>
 prP (bnI .lss (nx x3 1) (nx x3 0)) fun t10_27=>
 AW t10_27 (
 BJ (fun x29 k30=>
 prP (bnI .add (nx x29 1) (.int .i64 1)) fun t33_45=>
 r5 [(nx x29 0),t33_45] [(nxc k30 0),(nxc k30 1)]) fun j31=>
 ixW (cnt 1 (nxc k4 1)) (nx x3 1) fun t11_32=>
 ldg (nxc k4 1) [] ((AD t11_32)*1) [.l 1] fun ts33=>
 prP (bnI .gtr (iv (cnt 1 (HX (nxc k4 1) [((AD t11_32)*1)]))) (.int .i64 1)) fun t16_34=>
 gE t16_34 (
 gE t16_34 (
 gE t16_34 (
 gP t16_34 false (ixW (cnt 1 (HX (nxc k4 1) [((AD t11_32)*1)])) (.int .i64 0)) fun t21_35=>
 gP t16_34 false (ldc (nxc k4 1) [((AD t11_32)*1)] ((AD t21_35)*1)) fun t22_36=>
 gE t16_34 (
 gE t16_34 (
 gP t16_34 false (ixW (cnt 1 (HX (nxc k4 1) [((AD t11_32)*1)])) (.int .i64 0)) fun t25_37=>
 gP t16_34 false (ldc (nxc k4 1) [((AD t11_32)*1)] ((AD t25_37)*1)) fun t26_38=>
 gP t16_34 false ((fun K=>cl2 C 64 DT.sg [t22_36,t26_38] [c0,c1,c2,c3] fun v39 d40=>K (nx v39 0))) fun t27_41=>
 prP (pk t16_34 (.bool true) t27_41) fun t28_42=>
 AW t28_42 (
 mvW (nxc k4 1) [] ((AD t11_32)*1) 1 fun d43 k44=>
 apW [T.l 1 d43] false (cnt 1 (nxc k4 0)) (cnt 1 [T.l 1 d43]) 24 (
 j31 [(nx x3 0),(nx x3 1)] [((nxc k4 0)++[T.l 1 d43]),k44])) (
 j31 [(nx x3 0),(nx x3 1)] [(nxc k4 0),(nxc k4 1)]))))))) (
 K [] [(nxc k4 0)])) [(iv (cnt 1 (nxc d2 0))),(.int .i64 0)] [[],(nxc d2 0)]
theorem GR.cl2 {w0:World} {c0 c1 c2 c3:List T} {K:J2} (h:GR.txt ⟨Try.prog,w0⟩ c0 c1 c2 c3 K):Eng.cl2 ⟨Try.prog,w0⟩ 65 GR.sg [] [c0,c1,c2,c3] K:=
 AV (C:=⟨Try.prog,w0⟩) (f:=65) (fn:=Try.f65) [(63,FL.sg),(64,DT.sg)] [(5,[0,1,3,7,15,31,31,95,223,479,31,1055,3103,7199,16383,32767])] [(467,⟨[.p (.j 0) 0, .t (.j 1) 1, .t (.j 2) 1, .v, .v],[],[.bx [.t (.f 0) 8, .t (.f 1) 2, .t (.f 2) 1, .t (.f 3) 1], .ls, .ls]⟩),(58,⟨[.p (.j 0) 0, .t (.j 1) 1, .t (.j 2) 1, .v, .v],[],[.bx [.t (.f 0) 8, .t (.f 1) 2, .t (.f 2) 1, .t (.f 3) 1], .ls, .ls]⟩)] Try.func65 (by kernel_rfl) (by kernel_rfl) (by kernel_rfl) h
end Go.Proofs.Ytklmcfpgdfibnaa.P
