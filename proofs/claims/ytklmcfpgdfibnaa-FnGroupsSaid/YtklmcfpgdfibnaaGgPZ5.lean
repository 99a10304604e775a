/- A part of the proof. -/
import Derived.Test.YtklmcfpgdfibnaaChecked
import Derived.Test.YtklmcfpgdfibnaaGgPZ4
import Derived.KernelRfl
namespace Go.Proofs.Ytklmcfpgdfibnaa.P
open Go Go.Proofs.Ytklmcfpgdfibnaa Go.Proofs.Ytklmcfpgdfibnaa.Eng
set_option linter.unusedVariables false
set_option maxRecDepth 100000
def IQ.sg:Sg:=⟨[(0,[.t 1 0])],[(0,[.t 1])],[]⟩
def IQ.txt (C:Ctx) (c0:List T) (K:J2):Prop:=
 apW c0 true (cnt 1 []) (cnt 1 c0) 8 (
 BC (fun r3 x1 k2=>
 prP (bnI .lss (nx x1 0) (iv (cnt 1 (nxc k2 0)))) fun t13_5=>
 AV t13_5 (
 BC (fun r8 x6 k7=>
 prP (bnI .gtr (nx x6 1) (.int .i64 0)) fun t18_10=>
 gE t18_10 (
 gE t18_10 (
 gP t18_10 true (ixW (cnt 1 (nxc k7 0)) (nx x6 1)) fun t22_11=>
 gP t18_10 true (ldc (nxc k7 0) [] ((AB t22_11)*1)) fun t23_12=>
 gE t18_10 (
 gE t18_10 (
 gP t18_10 true (prP (bnI .sub (nx x6 1) (.int .i64 1))) fun t26_13=>
 gP t18_10 true (ixW (cnt 1 (nxc k7 0)) t26_13) fun t27_14=>
 gP t18_10 true (ldc (nxc k7 0) [] ((AB t27_14)*1)) fun t28_15=>
 gP t18_10 true (prP (bnI .lss t23_12 t28_15)) fun t29_16=>
 prP (pk t18_10 t29_16 (.bool false)) fun t30_17=>
 AV t30_17 (
 ixW (cnt 1 (nxc k7 0)) (nx x6 1) fun t35_18=>
 ldc (nxc k7 0) [] ((AB t35_18)*1) fun t36_19=>
 prP (bnI .sub (nx x6 1) (.int .i64 1)) fun t41_20=>
 ixW (cnt 1 (nxc k7 0)) t41_20 fun t42_21=>
 ldc (nxc k7 0) [] ((AB t42_21)*1) fun t43_22=>
 ixW (cnt 1 (nxc k7 0)) (nx x6 1) fun t44_23=>
 stc (nxc k7 0) [] ((AB t44_23)*1) t43_22 fun k24=>
 prP (bnI .sub (nx x6 1) (.int .i64 1)) fun t47_25=>
 ixW (cnt 1 k24) t47_25 fun t49_26=>
 stc k24 [] ((AB t49_26)*1) t36_19 fun k27=>
 prP (bnI .sub (nx x6 1) (.int .i64 1)) fun t32_28=>
 r8 [(nx x6 0),t32_28] [k27]) (
 prP (bnI .add (nx x6 0) (.int .i64 1)) fun t15_29=>
 r3 [t15_29] [(nxc k7 0)])))))) [(nx x1 0),(nx x1 0)] [(nxc k2 0)]) (
 K [] [(nxc k2 0)])) [(.int .i64 0)] [([]++c0)])
theorem IQ.cl2 {w0:World} {c0:List T} {K:J2} (h:IQ.txt ⟨Try.prog,w0⟩ c0 K):Eng.cl2 ⟨Try.prog,w0⟩ 160 IQ.sg [] [c0] K:=
 AY (C:=⟨Try.prog,w0⟩) (f:=160) (fn:=Try.f160) [] [(6,[0,1,3,7,7,31,63,7,7,263,903,1927,4095,8191])] [(3730,⟨[.t (.j 0) 1, .v, .v],[],[.ls]⟩),(58,⟨[.t (.j 0) 1, .v],[],[.ls]⟩)] Try.func160 (by kernel_rfl) (by kernel_rfl) (by kernel_rfl) h
def F8.sg:Sg:=⟨[(0,[.t 1 0])],[(0,[.t 1])],[]⟩
def F8.txt (C:Ctx) (c0:List T) (K:J2):Prop:=
 apW c0 true (cnt 1 []) (cnt 1 c0) 8 (
 BC (fun r3 x1 k2=>
 prP (bnI .lss (nx x1 0) (iv (cnt 1 (nxc k2 0)))) fun t13_5=>
 AV t13_5 (
 BC (fun r8 x6 k7=>
 prP (bnI .gtr (nx x6 1) (.int .i64 0)) fun t18_10=>
 gE t18_10 (
 gE t18_10 (
 gP t18_10 true (ixW (cnt 1 (nxc k7 0)) (nx x6 1)) fun t22_11=>
 gP t18_10 true (ldc (nxc k7 0) [] ((AB t22_11)*1)) fun t23_12=>
 gE t18_10 (
 gE t18_10 (
 gP t18_10 true (prP (bnI .sub (nx x6 1) (.int .i64 1))) fun t26_13=>
 gP t18_10 true (ixW (cnt 1 (nxc k7 0)) t26_13) fun t27_14=>
 gP t18_10 true (ldc (nxc k7 0) [] ((AB t27_14)*1)) fun t28_15=>
 gP t18_10 true (prP (bnI .lss t23_12 t28_15)) fun t29_16=>
 prP (pk t18_10 t29_16 (.bool false)) fun t30_17=>
 AV t30_17 (
 ixW (cnt 1 (nxc k7 0)) (nx x6 1) fun t35_18=>
 ldc (nxc k7 0) [] ((AB t35_18)*1) fun t36_19=>
 prP (bnI .sub (nx x6 1) (.int .i64 1)) fun t41_20=>
 ixW (cnt 1 (nxc k7 0)) t41_20 fun t42_21=>
 ldc (nxc k7 0) [] ((AB t42_21)*1) fun t43_22=>
 ixW (cnt 1 (nxc k7 0)) (nx x6 1) fun t44_23=>
 stc (nxc k7 0) [] ((AB t44_23)*1) t43_22 fun k24=>
 prP (bnI .sub (nx x6 1) (.int .i64 1)) fun t47_25=>
 ixW (cnt 1 k24) t47_25 fun t49_26=>
 stc k24 [] ((AB t49_26)*1) t36_19 fun k27=>
 prP (bnI .sub (nx x6 1) (.int .i64 1)) fun t32_28=>
 r8 [(nx x6 0),t32_28] [k27]) (
 prP (bnI .add (nx x6 0) (.int .i64 1)) fun t15_29=>
 r3 [t15_29] [(nxc k7 0)])))))) [(nx x1 0),(nx x1 0)] [(nxc k2 0)]) (
 K [] [(nxc k2 0)])) [(.int .i64 0)] [([]++c0)])
theorem F8.cl2 {w0:World} {c0:List T} {K:J2} (h:F8.txt ⟨Try.prog,w0⟩ c0 K):Eng.cl2 ⟨Try.prog,w0⟩ 66 F8.sg [] [c0] K:=
 AY (C:=⟨Try.prog,w0⟩) (f:=66) (fn:=Try.f66) [] [(6,[0,1,3,7,7,31,63,7,7,263,903,1927,4095,8191])] [(3730,⟨[.t (.j 0) 1, .v, .v],[],[.ls]⟩),(58,⟨[.t (.j 0) 1, .v],[],[.ls]⟩)] Try.func66 (by kernel_rfl) (by kernel_rfl) (by kernel_rfl) h
def DD.sg:Sg:=⟨[(0,[.t 1 0])],[(1,[.t 8, .t 2, .t 1, .t 1])],[]⟩
def DD.txt (C:Ctx) (c0:List T) (K:J2):Prop:=
 cl2 C 85 GY.sg [] [c0] fun v1 d2=>
 cl2 C 96 G5.sg [(nx v1 0),(nx v1 1)] [c0] fun v3 d4=>
 K [] [(nxc d4 0),(nxc d4 1),(nxc d4 2),(nxc d4 3)]
theorem DD.cl2 {w0:World} {c0:List T} {K:J2} (h:DD.txt ⟨Try.prog,w0⟩ c0 K):Eng.cl2 ⟨Try.prog,w0⟩ 62 DD.sg [] [c0] K:=
 AY (C:=⟨Try.prog,w0⟩) (f:=62) (fn:=Try.f62) [(85,GY.sg),(96,G5.sg)] [] [] Try.func62 (by kernel_rfl) (by kernel_rfl) (by kernel_rfl) h
def DU.sg:Sg:=⟨[(1,[.t 8 0, .t 2 0, .t 1 0, .t 1 0]),(0,[.v]),(0,[.v])],[(0,[.v])],[]⟩
def DU.txt (C:Ctx) (a0 a1:Value) (c0 c1 c2 c3:List T) (K:J2):Prop:=
 cl2 C 81 C8.sg [a0] [c0,c1,c2,c3] fun v1 d2=>
 cl2 C 81 C8.sg [a1] [c0,c1,c2,c3] fun v4 d5=>
 prP (bnI .lss (nx v1 0) (.int .i64 0)) fun t19_7=>
 gE t19_7 (
 gP t19_7 false (prP (bnI .lss (nx v4 0) (.int .i64 0))) fun t22_8=>
 prP (pk t19_7 (.bool true) t22_8) fun t23_9=>
 AV t23_9 (
 K [(.bool false)] []) (
 cl2 C 118 DV.sg [(nx v1 0)] [c0,c1,c2,c3] fun v10 d11=>
 BC (fun r14 x12 k13=>
 prP (bnI .lss (nx x12 2) (nx x12 1)) fun t29_31=>
 AV t29_31 (
 ixW (cnt 1 (nxc k13 1)) (nx x12 2) fun t30_32=>
 ldc (nxc k13 1) [] ((AB t30_32)*1) fun t31_33=>
 ixW (cnt 8 c0) t31_33 fun t37_34=>
 ldc c0 [] (((AB t37_34)*8)+1) fun t39_35=>
 cl2 C 98 GF.sg [t31_33,t39_35] [] fun v36 d37=>
 apW [T.c (nx v36 0)] true (cnt 1 (nxc k13 0)) (cnt 1 [T.c (nx v36 0)]) 8 (
 prP (bnI .add (nx x12 2) (.int .i64 1)) fun t43_39=>
 r14 [(nx x12 0),(nx x12 1),t43_39] [((nxc k13 0)++[T.c (nx v36 0)]),(nxc k13 1)])) (
 cl2 C 102 FP.sg [(.int .i64 (-1))] [c0,c1,c2,c3,(nxc k13 0)] fun v40 d41=>
 cl2 C 91 EI.sg [(nx x12 0)] [(nxc d41 0)] fun v42 d43=>
 K [(nx v42 0)] [])) [(nx v4 0),(iv (cnt 1 (nxc d11 0))),(.int .i64 0)] [[],(nxc d11 0)]))
theorem DU.cl2 {w0:World} {a0 a1:Value} {c0 c1 c2 c3:List T} {K:J2} (h:DU.txt ⟨Try.prog,w0⟩ a0 a1 c0 c1 c2 c3 K):Eng.cl2 ⟨Try.prog,w0⟩ 64 DU.sg [a0,a1] [c0,c1,c2,c3] K:=
 AY (C:=⟨Try.prog,w0⟩) (f:=64) (fn:=Try.f64) [(81,C8.sg),(118,DV.sg),(98,GF.sg),(102,FP.sg),(91,EI.sg)] [(1,[0,0,3,0,0,31,63,127])] [(250,⟨[.p (.j 0) 0, .v, .t (.j 1) 1, .t (.j 2) 1, .v, .v],[],[.bx [.t (.f 0) 8, .t (.f 1) 2, .t (.f 2) 1, .t (.f 3) 1], .ls, .ls]⟩)] Try.func64 (by kernel_rfl) (by kernel_rfl) (by kernel_rfl) h
def EM.sg:Sg:=⟨[(1,[.t 8 0, .t 2 0, .t 1 0, .t 1 0])],[(0,[.t 1])],[]⟩
def EM.txt (C:Ctx) (c0 c1 c2 c3:List T) (K:J2):Prop:=
 prP (bnI .neq (iv (cnt 8 c0)) (.int .i64 8)) fun t14_1=>
 AV t14_1 (
 K [] [[]]) (
 cl2 C 40 EZ.sg [] [c0,c1,c2,c3] fun v2 d3=>
 BC (fun r6 x4 k5=>
 prP (bnI .lss (nx x4 1) (nx x4 0)) fun t20_42=>
 AV t20_42 (
 BS (fun x44 k45=>
 prP (bnI .add (nx x44 1) (.int .i64 1)) fun t64_74=>
 r6 [(nx x44 0),t64_74] [(nxc k45 0),(nxc k45 1),(nxc k45 2)]) fun j46=>
 ixW (cnt 1 (nxc k5 2)) (nx x4 1) fun t22_47=>
 ldc (nxc k5 2) [] ((AB t22_47)*1) fun t23_48=>
 cl2 C 91 EI.sg [t23_48] [(nxc k5 1)] fun v49 d50=>
 AV (nx v49 0) (
 j46 [(nx x4 0),(nx x4 1)] [(nxc k5 0),(nxc k5 1),(nxc k5 2)]) (
 prP (bnI .add (nx x4 1) (.int .i64 1)) fun t32_52=>
 scW (cnt 1 (nxc k5 2)) (some t32_52) none fun l53 m54=>
 BC (fun r57 x55 k56=>
 prP (bnI .lss (nx x55 6) (nx x55 5)) fun t36_59=>
 AV t36_59 (
 BS (fun x61 k62=>
 prP (bnI .add (nx x61 6) (.int .i64 1)) fun t55_73=>
 r57 [(nx x61 0),(nx x61 1),(nx x61 2),(iv (AB (nx x61 3))),(iv (AB (nx x61 4))),(nx x61 5),t55_73] [(nxc k62 0),(nxc k62 1),(nxc k62 2),(nxc k62 3)]) fun j63=>
 ixW (AB (nx x55 3)) (nx x55 6) fun t37_64=>
 ldc (nxc k56 2) [] ((AB (nx x55 4))+((AB t37_64)*1)) fun t38_65=>
 cl2 C 64 DU.sg [(nx x55 0),t38_65] [c0,c1,c2,c3] fun v66 d67=>
 gE (nx v66 0) (
 gE (nx v66 0) (
 gE (nx v66 0) (
 gP (nx v66 0) true ((fun K=>cl2 C 64 DU.sg [t38_65,(nx x55 0)] [c0,c1,c2,c3] fun v69 d70=>K (nx v69 0))) fun t47_71=>
 prP (pk (nx v66 0) t47_71 (.bool false)) fun t48_72=>
 AV t48_72 (
 apW [T.c t38_65] true (cnt 1 (nxc k56 3)) (cnt 1 [T.c t38_65]) 8 (
 j63 [(nx x55 0),(nx x55 1),(nx x55 2),(iv (AB (nx x55 3))),(iv (AB (nx x55 4))),(nx x55 5),(nx x55 6)] [(nxc k56 0),(nxc k56 1),(nxc k56 2),((nxc k56 3)++[T.c t38_65])])) (
 j63 [(nx x55 0),(nx x55 1),(nx x55 2),(iv (AB (nx x55 3))),(iv (AB (nx x55 4))),(nx x55 5),(nx x55 6)] [(nxc k56 0),(nxc k56 1),(nxc k56 2),(nxc k56 3)]))))) (
 apW (nxc k56 3) true (cnt 1 (nxc k56 1)) (cnt 1 (nxc k56 3)) 8 (
 apW [T.l 1 (nxc k56 3)] false (cnt 1 (nxc k56 0)) (cnt 1 [T.l 1 (nxc k56 3)]) 24 (
 j46 [(nx x55 1),(nx x55 2)] [((nxc k56 0)++[T.l 1 (nxc k56 3)]),((nxc k56 1)++(nxc k56 3)),(nxc k56 2)])))) [t23_48,(nx x4 0),(nx x4 1),(iv (AB m54)),(iv ((AB l53)*1)),(iv (AB m54)),(.int .i64 0)] [(nxc k5 0),(nxc k5 1),(nxc k5 2),[T.c t23_48]])) (
 K [] [(nxc k5 0)])) [(iv (cnt 1 (nxc d3 0))),(.int .i64 0)] [[],[],(nxc d3 0)])
theorem EM.cl2 {w0:World} {c0 c1 c2 c3:List T} {K:J2} (h:EM.txt ⟨Try.prog,w0⟩ c0 c1 c2 c3 K):Eng.cl2 ⟨Try.prog,w0⟩ 63 EM.sg [] [c0,c1,c2,c3] K:=
 AY (C:=⟨Try.prog,w0⟩) (f:=63) (fn:=Try.f63) [(40,EZ.sg),(91,EI.sg),(64,DU.sg)] [] [(8296915,⟨[.p (.j 0) 0, .t (.j 1) 1, .t (.j 2) 1, .t (.j 3) 1, .v, .p (.j 4) 0, .t (.j 3) 1, .v, .v, .s (.j 3) 0 1, .v, .v],[],[.bx [.t (.f 0) 8, .t (.f 1) 2, .t (.f 2) 1, .t (.f 3) 1], .ls, .ls, .ls, .bx [.t (.j 5) 1], .ls]⟩),(1037114,⟨[.p (.j 0) 0, .t (.j 1) 1, .t (.j 2) 1, .t (.j 3) 1, .v, .p (.j 4) 0, .t (.j 3) 1, .v, .v, .s (.j 3) 0 1, .v, .v],[],[.bx [.t (.f 0) 8, .t (.f 1) 2, .t (.f 2) 1, .t (.f 3) 1], .ls, .ls, .ls, .bx [.t (.j 5) 1], .ls]⟩),(4051,⟨[.p (.j 0) 0, .t (.j 1) 1, .t (.j 2) 1, .t (.j 3) 1, .t (.j 3) 1, .v, .v],[],[.bx [.t (.f 0) 8, .t (.f 1) 2, .t (.f 2) 1, .t (.f 3) 1], .ls, .ls, .ls]⟩),(506,⟨[.p (.j 0) 0, .t (.j 1) 1, .t (.j 2) 1, .t (.j 3) 1, .t (.j 3) 1, .v, .v],[],[.bx [.t (.f 0) 8, .t (.f 1) 2, .t (.f 2) 1, .t (.f 3) 1], .ls, .ls, .ls]⟩)] Try.func63 (by kernel_rfl) (by kernel_rfl) (by kernel_rfl) h
def GZ.sg:Sg:=⟨[(1,[.t 8 0, .t 2 0, .t 1 0, .t 1 0])],[(0,[.t 1])],[]⟩
def GZ.txt (C:Ctx) (c0 c1 c2 c3:List T) (K:J2):Prop:=
 cl2 C 63 EM.sg [] [c0,c1,c2,c3] fun v1 d2=>
 BC (fun r5 x3 k4=>
 prP (bnI .lss (nx x3 1) (nx x3 0)) fun t10_27=>
 AV t10_27 (
 BS (fun x29 k30=>
 prP (bnI .add (nx x29 1) (.int .i64 1)) fun t33_45=>
 r5 [(nx x29 0),t33_45] [(nxc k30 0),(nxc k30 1)]) fun j31=>
 ixW (cnt 1 (nxc k4 1)) (nx x3 1) fun t11_32=>
 ldg (nxc k4 1) [] ((AB t11_32)*1) [.l 1] fun ts33=>
 prP (bnI .gtr (iv (cnt 1 (DN (nxc k4 1) [((AB t11_32)*1)]))) (.int .i64 1)) fun t16_34=>
 gE t16_34 (
 gE t16_34 (
 gE t16_34 (
 gP t16_34 false (ixW (cnt 1 (DN (nxc k4 1) [((AB t11_32)*1)])) (.int .i64 0)) fun t21_35=>
 gP t16_34 false (ldc (nxc k4 1) [((AB t11_32)*1)] ((AB t21_35)*1)) fun t22_36=>
 gE t16_34 (
 gE t16_34 (
 gP t16_34 false (ixW (cnt 1 (DN (nxc k4 1) [((AB t11_32)*1)])) (.int .i64 0)) fun t25_37=>
 gP t16_34 false (ldc (nxc k4 1) [((AB t11_32)*1)] ((AB t25_37)*1)) fun t26_38=>
 gP t16_34 false ((fun K=>cl2 C 64 DU.sg [t22_36,t26_38] [c0,c1,c2,c3] fun v39 d40=>K (nx v39 0))) fun t27_41=>
 prP (pk t16_34 (.bool true) t27_41) fun t28_42=>
 AV t28_42 (
 mvW (nxc k4 1) [] ((AB t11_32)*1) 1 fun d43 k44=>
 apW [T.l 1 d43] false (cnt 1 (nxc k4 0)) (cnt 1 [T.l 1 d43]) 24 (
 j31 [(nx x3 0),(nx x3 1)] [((nxc k4 0)++[T.l 1 d43]),k44])) (
 j31 [(nx x3 0),(nx x3 1)] [(nxc k4 0),(nxc k4 1)]))))))) (
 K [] [(nxc k4 0)])) [(iv (cnt 1 (nxc d2 0))),(.int .i64 0)] [[],(nxc d2 0)]
theorem GZ.cl2 {w0:World} {c0 c1 c2 c3:List T} {K:J2} (h:GZ.txt ⟨Try.prog,w0⟩ c0 c1 c2 c3 K):Eng.cl2 ⟨Try.prog,w0⟩ 65 GZ.sg [] [c0,c1,c2,c3] K:=
 AY (C:=⟨Try.prog,w0⟩) (f:=65) (fn:=Try.f65) [(63,EM.sg),(64,DU.sg)] [(5,[0,1,3,7,15,31,31,95,223,479,31,1055,3103,7199,16383,32767])] [(467,⟨[.p (.j 0) 0, .t (.j 1) 1, .t (.j 2) 1, .v, .v],[],[.bx [.t (.f 0) 8, .t (.f 1) 2, .t (.f 2) 1, .t (.f 3) 1], .ls, .ls]⟩),(58,⟨[.p (.j 0) 0, .t (.j 1) 1, .t (.j 2) 1, .v, .v],[],[.bx [.t (.f 0) 8, .t (.f 1) 2, .t (.f 2) 1, .t (.f 3) 1], .ls, .ls]⟩)] Try.func65 (by kernel_rfl) (by kernel_rfl) (by kernel_rfl) h
end Go.Proofs.Ytklmcfpgdfibnaa.P
