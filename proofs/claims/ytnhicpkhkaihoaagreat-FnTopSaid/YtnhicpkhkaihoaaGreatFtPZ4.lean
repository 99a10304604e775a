/- A part of the proof. -/
import Derived.Test.YtnhicpkhkaihoaaGreatChecked
import Derived.Test.YtnhicpkhkaihoaaGreatFtPZ3
import Derived.KernelRfl
namespace Go.Proofs.YtnhicpkhkaihoaaGreat.P
open Go Go.Proofs.YtnhicpkhkaihoaaGreat Go.Proofs.YtnhicpkhkaihoaaGreat.Eng
set_option linter.unusedVariables false
set_option maxRecDepth 100000
def FY.sg:Sg:=⟨[(0,[.t 1 0]),(0,[.t 1 0])],[(0,[.v])],[]⟩
def FY.txt (C:Ctx) (c0 c1:List T) (K:J2):Prop:=
 prP (bnI .neq (iv (cnt 1 c0)) (iv (cnt 1 c1))) fun t10_1=>
 AV t10_1 (
 K [(.bool false)] []) (
 BC (fun r4 x2 k3=>
 prP (bnI .lss (nx x2 0) (iv (cnt 1 c0))) fun t14_6=>
 AV t14_6 (
 ixW (cnt 1 c0) (nx x2 0) fun t19_7=>
 ldc c0 [] ((AA t19_7)*1) fun t20_8=>
 ixW (cnt 1 c1) (nx x2 0) fun t23_9=>
 ldc c1 [] ((AA t23_9)*1) fun t24_10=>
 prP (bnI .neq t20_8 t24_10) fun t25_11=>
 AV t25_11 (
 K [(.bool false)] []) (
 prP (bnI .add (nx x2 0) (.int .i64 1)) fun t16_12=>
 r4 [t16_12] [])) (
 K [(.bool true)] [])) [(.int .i64 0)] [])
theorem FY.cl2 {w0:World} {c0 c1:List T} {K:J2} (h:FY.txt ⟨Tryz.prog,w0⟩ c0 c1 K):Eng.cl2 ⟨Tryz.prog,w0⟩ 38 FY.sg [] [c0,c1] K:=
 AD (C:=⟨Tryz.prog,w0⟩) (f:=38) (fn:=Tryz.f38) [] [(6,[0,0,3,7,0,0,48,112,255])] [(58,⟨[.t (.f 0) 1, .t (.f 1) 1, .v],[],[]⟩)] Tryz.func38 (by kernel_rfl) (by kernel_rfl) (by kernel_rfl) h
def EI.sg:Sg:=⟨[(1,[.v, .v, .t 1 0]),(1,[.v, .v, .t 1 0])],[(0,[.v])],[]⟩
def EI.txt (C:Ctx) (a0 a1 a2 a3:Value) (c0 c1:List T) (K:J2):Prop:=
 prP (bnI .eql a0 a2) fun t9_1=>
 gE t9_1 (
 gE t9_1 (
 gE t9_1 (
 gE t9_1 (
 gP t9_1 true (prP (bnI .eql a1 a3)) fun t15_2=>
 prP (pk t9_1 t15_2 (.bool false)) fun t16_3=>
 gE t16_3 (
 gE t16_3 (
 gE t16_3 (
 gE t16_3 (
 gP t16_3 true ((fun K=>cl2 C 38 FY.sg [] [c0,c1] fun v4 d5=>K (nx v4 0))) fun t22_6=>
 prP (pk t16_3 t22_6 (.bool false)) fun t23_7=>
 K [t23_7] []))))))))
theorem EI.cl2 {w0:World} {a0 a1 a2 a3:Value} {c0 c1:List T} {K:J2} (h:EI.txt ⟨Tryz.prog,w0⟩ a0 a1 a2 a3 c0 c1 K):Eng.cl2 ⟨Tryz.prog,w0⟩ 39 EI.sg [a0,a1,a2,a3] [c0,c1] K:=
 AD (C:=⟨Tryz.prog,w0⟩) (f:=39) (fn:=Tryz.f39) [(38,FY.sg)] [] [] Tryz.func39 (by kernel_rfl) (by kernel_rfl) (by kernel_rfl) h
def C0.sg:Sg:=⟨[(0,[.v]),(0,[.v])],[(0,[.v])],[]⟩
def C0.txt (C:Ctx) (a0 a1:Value) (K:J2):Prop:=
 prP (lnS a0) fun t6_1=>
 prP (lnS a1) fun t8_2=>
 prP (bnI .geq t6_1 t8_2) fun t9_3=>
 gE t9_3 (
 gE t9_3 (
 gP t9_3 true (prP (lnS a1)) fun t13_4=>
 gP t9_3 true (prP (scS a0 none (some t13_4))) fun t14_5=>
 gE t9_3 (
 gP t9_3 true (prP (bnS .eql t14_5 a1)) fun t16_6=>
 prP (pk t9_3 t16_6 (.bool false)) fun t17_7=>
 K [t17_7] [])))
theorem C0.cl2 {w0:World} {a0 a1:Value} {K:J2} (h:C0.txt ⟨Tryz.prog,w0⟩ a0 a1 K):Eng.cl2 ⟨Tryz.prog,w0⟩ 181 C0.sg [a0,a1] [] K:=
 AD (C:=⟨Tryz.prog,w0⟩) (f:=181) (fn:=Tryz.f181) [] [] [] Tryz.func181 (by kernel_rfl) (by kernel_rfl) (by kernel_rfl) h
def DI.sg:Sg:=⟨[(0,[.v]),(0,[.v])],[(0,[.v]),(0,[.v])],[]⟩
def DI.txt (C:Ctx) (a0 a1:Value) (K:J2):Prop:=
 cl2 C 181 C0.sg [a0,a1] [] fun v1 d2=>
 prP (un .not (nx v1 0)) fun t9_4=>
 AV t9_4 (
 K [a0,(.bool false)] []) (
 prP (lnS a1) fun t13_5=>
 prP (scS a0 (some t13_5) none) fun t14_6=>
 K [t14_6,(.bool true)] [])
theorem DI.cl2 {w0:World} {a0 a1:Value} {K:J2} (h:DI.txt ⟨Tryz.prog,w0⟩ a0 a1 K):Eng.cl2 ⟨Tryz.prog,w0⟩ 138 DI.sg [a0,a1] [] K:=
 AD (C:=⟨Tryz.prog,w0⟩) (f:=138) (fn:=Tryz.f138) [(181,C0.sg)] [] [] Tryz.func138 (by kernel_rfl) (by kernel_rfl) (by kernel_rfl) h
def EC.sg:Sg:=⟨[(0,[.v]),(0,[.v])],[(0,[.v]),(0,[.v])],[]⟩
def EC.txt (C:Ctx) (a0 a1:Value) (K:J2):Prop:=
 cl2 C 138 DI.sg [a0,a1] [] fun v1 d2=>
 K [(nx v1 0),(nx v1 1)] []
theorem EC.cl2 {w0:World} {a0 a1:Value} {K:J2} (h:EC.txt ⟨Tryz.prog,w0⟩ a0 a1 K):Eng.cl2 ⟨Tryz.prog,w0⟩ 76 EC.sg [a0,a1] [] K:=
 AD (C:=⟨Tryz.prog,w0⟩) (f:=76) (fn:=Tryz.f76) [(138,DI.sg)] [] [] Tryz.func76 (by kernel_rfl) (by kernel_rfl) (by kernel_rfl) h
def C1.sg:Sg:=⟨[(0,[.v])],[(0,[.v]),(0,[.v])],[]⟩
def C1.txt (C:Ctx) (a0:Value) (K:J2):Prop:=
 BC (fun r3 x1 k2=>
 prP (bnI .lss (nx x1 2) (.int .i64 7)) fun t8_5=>
 gE t8_5 (
 gE t8_5 (
 gP t8_5 true (prP (lnS (nx x1 0))) fun t12_6=>
 gP t8_5 true (prP (bnI .lss (nx x1 2) t12_6)) fun t13_7=>
 prP (pk t8_5 t13_7 (.bool false)) fun t14_8=>
 AV t14_8 (
 prP (ix (nx x1 0) (nx x1 2)) fun t19_9=>
 prP (cvI .i64 t19_9) fun t20_10=>
 prP (bnI .rem t20_10 (.int .i64 128)) fun t23_11=>
 prP (bnI .mul (.int .i64 7) (nx x1 2)) fun t25_12=>
 prP (bnI .shl t23_11 t25_12) fun t26_13=>
 prP (bnI .add (nx x1 1) t26_13) fun t27_14=>
 prP (bnI .geq t20_10 (.int .i64 128)) fun t29_15=>
 AV t29_15 (
 prP (bnI .add (nx x1 2) (.int .i64 1)) fun t16_16=>
 r3 [(nx x1 0),t27_14,t16_16] []) (
 prP (bnI .eql t20_10 (.int .i64 0)) fun t31_17=>
 gE t31_17 (
 gP t31_17 true (prP (bnI .gtr (nx x1 2) (.int .i64 0))) fun t34_18=>
 prP (pk t31_17 t34_18 (.bool false)) fun t35_19=>
 AV t35_19 (
 K [(.int .i64 0),(.int .i64 0)] []) (
 prP (bnI .add (nx x1 2) (.int .i64 1)) fun t38_20=>
 K [t27_14,t38_20] [])))) (
 K [(.int .i64 0),(.int .i64 0)] [])))) [a0,(.int .i64 0),(.int .i64 0)] []
theorem C1.cl2 {w0:World} {a0:Value} {K:J2} (h:C1.txt ⟨Tryz.prog,w0⟩ a0 K):Eng.cl2 ⟨Tryz.prog,w0⟩ 139 C1.sg [a0] [] K:=
 AD (C:=⟨Tryz.prog,w0⟩) (f:=139) (fn:=Tryz.f139) [] [] [(58,⟨[.v, .v, .v],[],[]⟩)] Tryz.func139 (by kernel_rfl) (by kernel_rfl) (by kernel_rfl) h
def FN.sg:Sg:=⟨[(0,[.v])],[(0,[.v]),(0,[.v]),(0,[.v])],[]⟩
def FN.txt (C:Ctx) (a0:Value) (K:J2):Prop:=
 cl2 C 139 C1.sg [a0] [] fun v1 d2=>
 prP (scS a0 (some (nx v1 1)) none) fun t19_3=>
 cl2 C 139 C1.sg [t19_3] [] fun v4 d5=>
 prP (bnI .eql (nx v1 1) (.int .i64 0)) fun t24_6=>
 gE t24_6 (
 gP t24_6 false (prP (bnI .eql (nx v4 1) (.int .i64 0))) fun t27_7=>
 prP (pk t24_6 (.bool true) t27_7) fun t28_8=>
 gE t28_8 (
 gP t28_8 false (prP (bnI .gtr (nx v1 0) (.int .i64 400))) fun t31_9=>
 prP (pk t28_8 (.bool true) t31_9) fun t32_10=>
 gE t32_10 (
 gP t32_10 false (prP (bnI .gtr (nx v4 0) (.int .i64 200))) fun t35_11=>
 prP (pk t32_10 (.bool true) t35_11) fun t36_12=>
 gE t36_12 (
 gE t36_12 (
 gP t36_12 false (prP (lnS a0)) fun t40_13=>
 gE t36_12 (
 gP t36_12 false (prP (bnI .sub t40_13 (nx v1 1))) fun t42_14=>
 gE t36_12 (
 gP t36_12 false (prP (bnI .sub t42_14 (nx v4 1))) fun t44_15=>
 gP t36_12 false (prP (bnI .sub t44_15 (.int .i64 4))) fun t45_16=>
 gP t36_12 false (prP (bnI .gtr (nx v4 0) t45_16)) fun t46_17=>
 prP (pk t36_12 (.bool true) t46_17) fun t47_18=>
 AV t47_18 (
 K [(.int .i64 0),(.string {data:= #[]}),(.int .i64 0)] []) (
 prP (bnI .add (nx v1 1) (nx v4 1)) fun t51_19=>
 prP (bnI .add (nx v1 1) (nx v4 1)) fun t54_20=>
 prP (bnI .add t54_20 (nx v4 0)) fun t56_21=>
 prP (scS a0 (some t51_19) (some t56_21)) fun t57_22=>
 cl2 C 95 DA.sg [(nx v1 0),t57_22] [] fun v23 d24=>
 prP (bnI .add (nx v1 1) (nx v4 1)) fun t65_26=>
 prP (bnI .add t65_26 (nx v4 0)) fun t67_27=>
 prP (bnI .add t67_27 (.int .i64 4)) fun t68_28=>
 prP (scS a0 none (some t68_28)) fun t69_29=>
 prP (bnS .neq (nx v23 0) t69_29) fun t70_30=>
 AV t70_30 (
 K [(.int .i64 0),(.string {data:= #[]}),(.int .i64 0)] []) (
 prP (bnI .add (nx v1 1) (nx v4 1)) fun t75_31=>
 prP (bnI .add t75_31 (nx v4 0)) fun t77_32=>
 prP (bnI .add t77_32 (.int .i64 4)) fun t78_33=>
 K [(nx v1 0),t57_22,t78_33] [])))))))))
theorem FN.cl2 {w0:World} {a0:Value} {K:J2} (h:FN.txt ⟨Tryz.prog,w0⟩ a0 K):Eng.cl2 ⟨Tryz.prog,w0⟩ 77 FN.sg [a0] [] K:=
 AD (C:=⟨Tryz.prog,w0⟩) (f:=77) (fn:=Tryz.f77) [(139,C1.sg),(95,DA.sg)] [] [] Tryz.func77 (by kernel_rfl) (by kernel_rfl) (by kernel_rfl) h
def HD.sg:Sg:=⟨[(0,[.v])],[(0,[.t 1]),(0,[.v])],[]⟩
def HD.txt (C:Ctx) (a0:Value) (K:J2):Prop:=
 cl2 C 76 EC.sg [a0,(.string {data:= #[72,76,79,71,1]})] [] fun v1 d2=>
 prP (un .not (nx v1 1)) fun t16_3=>
 AV t16_3 (
 K [(.int .i64 1)] [[]]) (
 BC (fun r6 x4 k5=>
 prP (bnS .neq (nx x4 0) (.string {data:= #[]})) fun t18_20=>
 AV t18_20 (
 cl2 C 77 FN.sg [(nx x4 0)] [] fun v21 d22=>
 prP (bnI .eql (nx v21 2) (.int .i64 0)) fun t27_23=>
 AV t27_23 (
 K [(.int .i64 2)] [[]]) (
 prP (bnI .neq (nx v21 0) (iv (cnt 1 (nxc k5 0)))) fun t32_24=>
 AV t32_24 (
 K [(.int .i64 3)] [[]]) (
 prP (bnS .eql (nx v21 1) (.string {data:= #[]})) fun t35_25=>
 gE t35_25 (
 gE t35_25 (
 gP t35_25 true (prP (lnS (nx x4 0))) fun t39_26=>
 gP t35_25 true (prP (bnI .lss (nx v21 2) t39_26)) fun t40_27=>
 prP (pk t35_25 t40_27 (.bool false)) fun t41_28=>
 AV t41_28 (
 K [(.int .i64 5)] [[]]) (
 prP (bnS .eql (nx v21 1) (.string {data:= #[]})) fun t44_29=>
 AV t44_29 (
 K [(.int .i64 0)] [(nxc k5 0)]) (
 apW [T.c (nx v21 1)] true (cnt 1 (nxc k5 0)) (cnt 1 [T.c (nx v21 1)]) 16 (
 prP (scS (nx x4 0) (some (nx v21 2)) none) fun t52_30=>
 r6 [t52_30] [((nxc k5 0)++[T.c (nx v21 1)])])))))))) (
 K [(.int .i64 4)] [[]])) [(nx v1 0)] [[]])
theorem HD.cl2 {w0:World} {a0:Value} {K:J2} (h:HD.txt ⟨Tryz.prog,w0⟩ a0 K):Eng.cl2 ⟨Tryz.prog,w0⟩ 41 HD.sg [a0] [] K:=
 AD (C:=⟨Tryz.prog,w0⟩) (f:=41) (fn:=Tryz.f41) [(76,EC.sg),(77,FN.sg)] [] [(124,⟨[.v, .t (.j 0) 1],[],[.ls]⟩)] Tryz.func41 (by kernel_rfl) (by kernel_rfl) (by kernel_rfl) h
def LZ.sg:Sg:=⟨[(0,[.v])],[(0,[.v])],[]⟩
def LZ.txt (C:Ctx) (a0:Value) (K:J2):Prop:=
 prP (bnI .rem a0 (.int .i64 2)) fun t4_1=>
 prP (bnI .eql t4_1 (.int .i64 0)) fun t5_2=>
 AV t5_2 (
 prP (bnI .quo a0 (.int .i64 2)) fun t7_3=>
 K [t7_3] []) (
 prP (bnI .quo a0 (.int .i64 2)) fun t9_4=>
 prP (un .neg t9_4) fun t10_5=>
 prP (bnI .sub t10_5 (.int .i64 1)) fun t11_6=>
 K [t11_6] [])
theorem LZ.cl2 {w0:World} {a0:Value} {K:J2} (h:LZ.txt ⟨Tryz.prog,w0⟩ a0 K):Eng.cl2 ⟨Tryz.prog,w0⟩ 182 LZ.sg [a0] [] K:=
 AD (C:=⟨Tryz.prog,w0⟩) (f:=182) (fn:=Tryz.f182) [] [] [] Tryz.func182 (by kernel_rfl) (by kernel_rfl) (by kernel_rfl) h
def HC.sg:Sg:=⟨[(0,[.v])],[(0,[.v]),(0,[.v])],[]⟩
def HC.txt (C:Ctx) (a0:Value) (K:J2):Prop:=
 cl2 C 139 C1.sg [a0] [] fun v1 d2=>
 prP (bnI .eql (nx v1 1) (.int .i64 0)) fun t12_3=>
 gE t12_3 (
 gP t12_3 false (prP (bnI .gtr (nx v1 0) (.int .i64 200000000000000))) fun t15_4=>
 prP (pk t12_3 (.bool true) t15_4) fun t16_5=>
 AV t16_5 (
 K [(.int .i64 0),(.int .i64 0)] []) (
 cl2 C 182 LZ.sg [(nx v1 0)] [] fun v6 d7=>
 K [(nx v6 0),(nx v1 1)] []))
theorem HC.cl2 {w0:World} {a0:Value} {K:J2} (h:HC.txt ⟨Tryz.prog,w0⟩ a0 K):Eng.cl2 ⟨Tryz.prog,w0⟩ 140 HC.sg [a0] [] K:=
 AD (C:=⟨Tryz.prog,w0⟩) (f:=140) (fn:=Tryz.f140) [(139,C1.sg),(182,LZ.sg)] [] [] Tryz.func140 (by kernel_rfl) (by kernel_rfl) (by kernel_rfl) h
def B1.sg:Sg:=⟨[(2,[.v, .v]),(0,[.v])],[],[[.v, .v]]⟩
def B1.txt (C:Ctx) (a0 a1 a2:Value) (K:J2):Prop:=
 BW (fun x2 k3=>
 prP (scS (nx x2 1) (some (nx x2 0)) none) fun t15_6=>
 K [t15_6,(nx x2 2)] []) fun j4=>
 prP (bnI .eql a2 (.int .i64 0)) fun t5_5=>
 AV t5_5 (
 j4 [a2,a0,(.bool true)] []) (
 j4 [a2,a0,a1] [])
theorem B1.cl2 {w0:World} {a0 a1 a2:Value} {K:J2} (h:B1.txt ⟨Tryz.prog,w0⟩ a0 a1 a2 K):Eng.cl2 ⟨Tryz.prog,w0⟩ 141 B1.sg [a0,a1,a2] [] K:=
 AD (C:=⟨Tryz.prog,w0⟩) (f:=141) (fn:=Tryz.f141) [] [] [(1,⟨[.p (.j 0) 0, .v],[.p (.j 0) 0],[.bx [.v, .v]]⟩)] Tryz.func141 (by kernel_rfl) (by kernel_rfl) (by kernel_rfl) h
def BV.sg:Sg:=⟨[(2,[.v, .v])],[(0,[.v])],[[.v, .v]]⟩
def BV.txt (C:Ctx) (a0 a1:Value) (K:J2):Prop:=
 cl2 C 140 HC.sg [a0] [] fun v1 d2=>
 cl2 C 141 B1.sg [a0,a1,(nx v1 1)] [] fun v3 d4=>
 K [(nx v1 0),(nx v3 0),(nx v3 1)] []
theorem BV.cl2 {w0:World} {a0 a1:Value} {K:J2} (h:BV.txt ⟨Tryz.prog,w0⟩ a0 a1 K):Eng.cl2 ⟨Tryz.prog,w0⟩ 78 BV.sg [a0,a1] [] K:=
 AD (C:=⟨Tryz.prog,w0⟩) (f:=78) (fn:=Tryz.f78) [(140,HC.sg),(141,B1.sg)] [] [] Tryz.func78 (by kernel_rfl) (by kernel_rfl) (by kernel_rfl) h
def CF.sg:Sg:=⟨[(2,[.v, .v])],[(0,[.v])],[[.v, .v]]⟩
def CF.txt (C:Ctx) (a0 a1:Value) (K:J2):Prop:=
 cl2 C 139 C1.sg [a0] [] fun v1 d2=>
 cl2 C 141 B1.sg [a0,a1,(nx v1 1)] [] fun v3 d4=>
 K [(nx v1 0),(nx v3 0),(nx v3 1)] []
theorem CF.cl2 {w0:World} {a0 a1:Value} {K:J2} (h:CF.txt ⟨Tryz.prog,w0⟩ a0 a1 K):Eng.cl2 ⟨Tryz.prog,w0⟩ 79 CF.sg [a0,a1] [] K:=
 AD (C:=⟨Tryz.prog,w0⟩) (f:=79) (fn:=Tryz.f79) [(139,C1.sg),(141,B1.sg)] [] [] Tryz.func79 (by kernel_rfl) (by kernel_rfl) (by kernel_rfl) h
def GC.sg:Sg:=⟨[(0,[.v])],[(0,[.v]),(0,[.v])],[]⟩
def GC.txt (C:Ctx) (a0:Value) (K:J2):Prop:=
 cl2 C 139 C1.sg [a0] [] fun v1 d2=>
 prP (bnI .eql (nx v1 1) (.int .i64 0)) fun t12_3=>
 gE t12_3 (
 gP t12_3 false (prP (bnI .gtr (nx v1 0) (.int .i64 8))) fun t15_4=>
 prP (pk t12_3 (.bool true) t15_4) fun t16_5=>
 gE t16_5 (
 gE t16_5 (
 gP t16_5 false (prP (lnS a0)) fun t20_6=>
 gE t16_5 (
 gP t16_5 false (prP (bnI .sub t20_6 (nx v1 1))) fun t22_7=>
 gP t16_5 false (prP (bnI .gtr (nx v1 0) t22_7)) fun t23_8=>
 prP (pk t16_5 (.bool true) t23_8) fun t24_9=>
 AV t24_9 (
 K [(.string {data:= #[]}),(.int .i64 0)] []) (
 prP (bnI .add (nx v1 1) (nx v1 0)) fun t29_10=>
 prP (scS a0 (some (nx v1 1)) (some t29_10)) fun t30_11=>
 prP (bnI .add (nx v1 1) (nx v1 0)) fun t33_12=>
 K [t30_11,t33_12] [])))))
theorem GC.cl2 {w0:World} {a0:Value} {K:J2} (h:GC.txt ⟨Tryz.prog,w0⟩ a0 K):Eng.cl2 ⟨Tryz.prog,w0⟩ 142 GC.sg [a0] [] K:=
 AD (C:=⟨Tryz.prog,w0⟩) (f:=142) (fn:=Tryz.f142) [(139,C1.sg)] [] [] Tryz.func142 (by kernel_rfl) (by kernel_rfl) (by kernel_rfl) h
def CZ.sg:Sg:=⟨[(2,[.v, .v])],[(0,[.v])],[[.v, .v]]⟩
def CZ.txt (C:Ctx) (a0 a1:Value) (K:J2):Prop:=
 cl2 C 142 GC.sg [a0] [] fun v1 d2=>
 cl2 C 141 B1.sg [a0,a1,(nx v1 1)] [] fun v3 d4=>
 K [(nx v1 0),(nx v3 0),(nx v3 1)] []
theorem CZ.cl2 {w0:World} {a0 a1:Value} {K:J2} (h:CZ.txt ⟨Tryz.prog,w0⟩ a0 a1 K):Eng.cl2 ⟨Tryz.prog,w0⟩ 80 CZ.sg [a0,a1] [] K:=
 AD (C:=⟨Tryz.prog,w0⟩) (f:=80) (fn:=Tryz.f80) [(142,GC.sg),(141,B1.sg)] [] [] Tryz.func80 (by kernel_rfl) (by kernel_rfl) (by kernel_rfl) h
def FF.sg:Sg:=⟨[(1,[.v, .t 1 0]),(0,[.v])],[(1,[.v, .v, .v, .v, .v]),(1,[.v, .v, .t 1]),(1,[.v, .t 1]),(0,[.v])],[]⟩
def FF.txt (C:Ctx) (a0 a1:Value) (c0:List T) (K:J2):Prop:=
 cl2 C 78 BV.sg [a1,(.bool false)] [] fun v1 d2=>
 cl2 C 78 BV.sg [(nx v1 1),(nx v1 2)] [] fun v3 d4=>
 prP (bnI .add a0 (nx v3 0)) fun t27_5=>
 cl2 C 78 BV.sg [(nx v3 1),(nx v3 2)] [] fun v6 d7=>
 cl2 C 78 BV.sg [(nx v6 1),(nx v6 2)] [] fun v8 d9=>
 prP (bnI .add t27_5 (nx v8 0)) fun t36_10=>
 cl2 C 79 CF.sg [(nx v8 1),(nx v8 2)] [] fun v11 d12=>
 BW (fun x14 k15=>
 cl2 C 79 CF.sg [(nx x14 10),(nx x14 11)] [] fun v24 d25=>
 cl2 C 78 BV.sg [(nx v24 1),(nx v24 2)] [] fun v26 d27=>
 prP (bnI .add (nx x14 13) (nx v26 0)) fun t69_28=>
 cl2 C 79 CF.sg [(nx v26 1),(nx v26 2)] [] fun v29 d30=>
 BC (fun r33 x31 k32=>
 prP (bnI .lss (nx x31 3) (nx x31 1)) fun t77_51=>
 gE t77_51 (
 gE t77_51 (
 gE t77_51 (
 gE t77_51 (
 gP t77_51 true (prP (un .not (nx x31 14))) fun t83_52=>
 prP (pk t77_51 t83_52 (.bool false)) fun t84_53=>
 AV t84_53 (
 cl2 C 78 BV.sg [(nx x31 13),(nx x31 14)] [] fun v54 d55=>
 prP (bnI .add (nx x31 2) (nx v54 0)) fun t90_56=>
 apW [T.c t90_56] true (cnt 1 (nxc k32 0)) (cnt 1 [T.c t90_56]) 8 (
 prP (bnI .add (nx x31 3) (.int .i64 1)) fun t86_57=>
 r33 [(nx x31 0),(nx x31 1),t90_56,t86_57,(nx x31 4),(nx x31 5),(nx x31 6),(nx x31 7),(nx x31 8),(nx x31 9),(nx x31 10),(nx x31 11),(nx x31 12),(nx v54 1),(nx v54 2),(nx x31 15),(nx x31 16),(nx x31 17),(nx x31 18),(nx x31 19),(nx x31 20),(nx x31 21)] [((nxc k32 0)++[T.c t90_56])])) (
 cl2 C 46 DE.sg [(nx x31 4),(nx x31 15),(nx x31 16),(nx x31 17),(nx x31 18),(nx x31 19),(nx x31 20),(nx x31 21)] [c0,(nxc k32 0)] fun v58 d59=>
 gE (nx x31 14) (
 gP (nx x31 14) false (prP (bnS .eql (nx v58 0) (.string {data:= #[]}))) fun t110_60=>
 prP (pk (nx x31 14) (.bool true) t110_60) fun t111_61=>
 gE t111_61 (
 gE t111_61 (
 gP t111_61 false (prP (bnS .neq (nx v58 0) (nx x31 0))) fun t115_62=>
 prP (pk t111_61 (.bool true) t115_62) fun t116_63=>
 AV t116_63 (
 cl2 C 81 EK.sg [(nx x31 4)] [c0] fun v64 d65=>
 K [(.int .i64 0),(.int .i64 0),(.int .i64 0),(.int .i64 0),(.string {data:= #[]}),(.int .i64 0),(.int .i64 0),(nx v64 0),(.bool false)] [[],(nxc d65 0)]) (
 K [(nx x31 15),(nx x31 16),(nx x31 17),(nx x31 18),(nx x31 19),(nx x31 20),(nx x31 21),(nx v58 1),(.bool true)] [(nxc k32 0),(nxc d59 0)])))))))))) [(nx x14 0),(nx v29 0),(nx x14 13),(.int .i64 0),(nx x14 1),(nx x14 2),(nx x14 3),(nx x14 4),(nx x14 5),(nx x14 6),(nx x14 7),(nx x14 8),(nx x14 9),(nx v29 1),(nx v29 2),(nx x14 12),(nx x14 13),(nx x14 14),(nx x14 15),(nx x14 16),(nx v24 0),t69_28] [[]]) fun j16=>
 prP (bnI .eql (nx v11 0) (.int .i64 0)) fun t45_17=>
 AV t45_17 (
 cl2 C 80 CZ.sg [(nx v11 1),(nx v11 2)] [] fun v18 d19=>
 j16 [a1,a0,(.int .i64 0),(.int .i64 0),(.int .i64 0),(.int .i64 0),(.string {data:= #[]}),(.int .i64 0),(.int .i64 0),(.int .i64 0),(nx v18 1),(nx v18 2),(nx v1 0),t27_5,(nx v6 0),t36_10,(nx v18 0),(.int .i64 0),(.int .i64 0)] []) (
 prP (bnI .leq (nx v11 0) (iv (cnt 1 c0))) fun t54_20=>
 AV t54_20 (
 prP (bnI .sub (nx v11 0) (.int .i64 1)) fun t58_21=>
 ixW (cnt 1 c0) t58_21 fun t59_22=>
 ldc c0 [] ((AA t59_22)*1) fun t60_23=>
 j16 [a1,a0,(.int .i64 0),(.int .i64 0),(.int .i64 0),(.int .i64 0),(.string {data:= #[]}),(.int .i64 0),(.int .i64 0),(.int .i64 0),(nx v11 1),(nx v11 2),(nx v1 0),t27_5,(nx v6 0),t36_10,t60_23,(.int .i64 0),(.int .i64 0)] []) (
 j16 [a1,a0,(.int .i64 0),(.int .i64 0),(.int .i64 0),(.int .i64 0),(.string {data:= #[]}),(.int .i64 0),(.int .i64 0),(.int .i64 0),(nx v11 1),(.bool true),(nx v1 0),t27_5,(nx v6 0),t36_10,(.string {data:= #[]}),(.int .i64 0),(.int .i64 0)] []))
theorem FF.cl2 {w0:World} {a0 a1:Value} {c0:List T} {K:J2} (h:FF.txt ⟨Tryz.prog,w0⟩ a0 a1 c0 K):Eng.cl2 ⟨Tryz.prog,w0⟩ 42 FF.sg [a0,a1] [c0] K:=
 AD (C:=⟨Tryz.prog,w0⟩) (f:=42) (fn:=Tryz.f42) [(78,BV.sg),(79,CF.sg),(80,CZ.sg),(46,DE.sg),(81,EK.sg)] [(5,[0,1,0,4,15,31,63]),(7,[0,1,0,4,15,31,63]),(15,[0,1,0,4,15,31,63]),(26,[0,0,0,1,11,31,63])] [(1023,⟨[.v, .p (.j 0) 0, .p (.j 1) 0, .p (.j 2) 0, .p (.j 3) 0, .p (.j 4) 0, .p (.j 5) 0, .p (.j 6) 0],[],[.bx [.v, .t (.f 0) 1], .bx [.v, .v, .v, .v, .v], .bx [.v, .v, .z], .bx [.v, .z], .bx [.v, .v], .bx [.v, .v, .v, .v, .v], .bx [.v, .v, .z]]⟩),(262138,⟨[.v, .p (.j 0) 0, .p (.j 1) 0, .p (.j 2) 0, .p (.j 3) 0, .p (.j 4) 0, .p (.j 5) 0, .p (.j 6) 0, .v, .v, .v],[],[.bx [.v, .t (.f 0) 1], .bx [.v, .v, .v, .v, .v], .bx [.v, .v, .z], .bx [.v, .z], .bx [.v, .v], .bx [.v, .v, .v, .v, .v], .bx [.v, .v, .t (.j 7) 1], .ls]⟩)] Tryz.func42 (by kernel_rfl) (by kernel_rfl) (by kernel_rfl) h
def GY.sg:Sg:=⟨[(0,[.v])],[(0,[.t 5]),(0,[.t 3]),(0,[.v])],[]⟩
def GY.txt (C:Ctx) (a0:Value) (K:J2):Prop:=
 cl2 C 41 HD.sg [a0] [] fun v1 d2=>
 prP (bnI .neq (nx v1 0) (.int .i64 0)) fun t22_3=>
 AV t22_3 (
 K [(.int .i64 1)] [[],[]]) (
 BC (fun r6 x4 k5=>
 prP (bnI .lss (nx x4 1) (nx x4 0)) fun t26_16=>
 AV t26_16 (
 ixW (cnt 1 (nxc k5 2)) (nx x4 1) fun t27_17=>
 ldc (nxc k5 2) [] ((AA t27_17)*1) fun t28_18=>
 cl2 C 42 FF.sg [(nx x4 2),t28_18] [(nxc k5 3)] fun v19 d20=>
 prP (un .not (nx v19 8)) fun t38_21=>
 AV t38_21 (
 K [(.int .i64 2)] [[],[]]) (
 apW [T.c (nx v19 0),T.c (nx v19 1),T.c (nx v19 2),T.c (nx v19 3),T.c (nx v19 4)] true (cnt 5 (nxc k5 0)) (cnt 5 [T.c (nx v19 0),T.c (nx v19 1),T.c (nx v19 2),T.c (nx v19 3),T.c (nx v19 4)]) 48 (
 apW [T.c (nx v19 5),T.c (nx v19 6),T.l 1 (nxc d20 0)] false (cnt 3 (nxc k5 1)) (cnt 3 [T.c (nx v19 5),T.c (nx v19 6),T.l 1 (nxc d20 0)]) 40 (
 prP (bnI .add (nx x4 1) (.int .i64 1)) fun t48_22=>
 r6 [(nx x4 0),t48_22,(nx v19 7)] [((nxc k5 0)++[T.c (nx v19 0),T.c (nx v19 1),T.c (nx v19 2),T.c (nx v19 3),T.c (nx v19 4)]),((nxc k5 1)++[T.c (nx v19 5),T.c (nx v19 6),T.l 1 (nxc d20 0)]),(nxc k5 2),(nxc d20 1)])))) (
 K [(.int .i64 0)] [(nxc k5 0),(nxc k5 1)])) [(iv (cnt 1 (nxc d2 0))),(.int .i64 0),(.int .i64 0)] [[],[],(nxc d2 0),[]])
theorem GY.cl2 {w0:World} {a0:Value} {K:J2} (h:GY.txt ⟨Tryz.prog,w0⟩ a0 K):Eng.cl2 ⟨Tryz.prog,w0⟩ 14 GY.sg [a0] [] K:=
 AD (C:=⟨Tryz.prog,w0⟩) (f:=14) (fn:=Tryz.f14) [(41,HD.sg),(42,FF.sg)] [] [(1018,⟨[.t (.j 0) 5, .t (.j 1) 3, .p (.j 2) 0, .t (.j 3) 1, .v, .v],[],[.ls, .ls, .bx [.v, .t (.j 4) 1], .ls, .ls]⟩)] Tryz.func14 (by kernel_rfl) (by kernel_rfl) (by kernel_rfl) h
def HE.sg:Sg:=⟨[(0,[.t 1 0])],[(0,[.v])],[]⟩
def HE.txt (C:Ctx) (c0:List T) (K:J2):Prop:=
 BC (fun r3 x1 k2=>
 prP (bnI .lss (nx x1 1) (nx x1 0)) fun t8_5=>
 AV t8_5 (
 ixW (cnt 1 c0) (nx x1 1) fun t10_6=>
 ldc c0 [] ((AA t10_6)*1) fun t11_7=>
 prP (lnS t11_7) fun t13_8=>
 cl2 C 94 B6.sg [t13_8,(.int .i64 1),(.int .i64 8)] [] fun v9 d10=>
 prP (un .not (nx v9 0)) fun t15_12=>
 gE t15_12 (
 gE t15_12 (
 gP t15_12 false ((fun K=>scW (cnt 1 c0) none (some (nx x1 1)) fun l m=>K (two l m))) fun t19_13=>
 gE t15_12 (
 gP t15_12 false ((fun K=>cl2 C 150 GJ.sg [t11_7] [(IP c0 [] ((AA (UT t19_13))*1) ((AA (VM t19_13))*1))] fun v14 d15=>K (nx v14 0))) fun t21_16=>
 prP (pk t15_12 (.bool true) t21_16) fun t22_17=>
 AV t22_17 (
 K [(.bool false)] []) (
 prP (bnI .add (nx x1 1) (.int .i64 1)) fun t23_18=>
 r3 [(nx x1 0),t23_18] []))))) (
 prP (bnI .leq (iv (cnt 1 c0)) (.int .i64 6)) fun t26_19=>
 K [t26_19] [])) [(iv (cnt 1 c0)),(.int .i64 0)] []
theorem HE.cl2 {w0:World} {c0:List T} {K:J2} (h:HE.txt ⟨Tryz.prog,w0⟩ c0 K):Eng.cl2 ⟨Tryz.prog,w0⟩ 145 HE.sg [] [c0] K:=
 AD (C:=⟨Tryz.prog,w0⟩) (f:=145) (fn:=Tryz.f145) [(94,B6.sg),(150,GJ.sg)] [] [(26,⟨[.t (.f 0) 1, .t (.f 0) 1, .v, .v],[],[]⟩)] Tryz.func145 (by kernel_rfl) (by kernel_rfl) (by kernel_rfl) h
def GZ.sg:Sg:=⟨[(0,[.t 1 0]),(0,[.v])],[(0,[.v])],[]⟩
def GZ.txt (C:Ctx) (a0:Value) (c0:List T) (K:J2):Prop:=
 BC (fun r3 x1 k2=>
 prP (bnI .lss (nx x1 2) (nx x1 1)) fun t10_5=>
 AV t10_5 (
 ixW (cnt 1 c0) (nx x1 2) fun t11_6=>
 ldc c0 [] ((AA t11_6)*1) fun t12_7=>
 prP (bnI .eql t12_7 (nx x1 0)) fun t15_8=>
 AV t15_8 (
 K [(.bool true)] []) (
 prP (bnI .add (nx x1 2) (.int .i64 1)) fun t16_9=>
 r3 [(nx x1 0),(nx x1 1),t16_9] [])) (
 K [(.bool false)] [])) [a0,(iv (cnt 1 c0)),(.int .i64 0)] []
theorem GZ.cl2 {w0:World} {a0:Value} {c0:List T} {K:J2} (h:GZ.txt ⟨Tryz.prog,w0⟩ a0 c0 K):Eng.cl2 ⟨Tryz.prog,w0⟩ 148 GZ.sg [a0] [c0] K:=
 AD (C:=⟨Tryz.prog,w0⟩) (f:=148) (fn:=Tryz.f148) [] [] [(26,⟨[.v, .t (.f 0) 1, .v, .v],[],[]⟩)] Tryz.func148 (by kernel_rfl) (by kernel_rfl) (by kernel_rfl) h
def I5.sg:Sg:=⟨[(1,[.t 8 0, .t 2 0, .t 1 0, .t 1 0]),(0,[.v])],[(0,[.v])],[]⟩
def I5.txt (C:Ctx) (a0:Value) (c0 c1 c2 c3:List T) (K:J2):Prop:=
 ixW (cnt 8 c0) a0 fun t11_1=>
 ldg c0 [] ((AA t11_1)*8) [.c, .c, .c, .c, .c, .c, .l 1, .c] fun ts2=>
 cl2 C 94 B6.sg [(tv (nxT ts2 1)),(.int .i64 0),(.int .i64 999)] [] fun v3 d4=>
 prP (un .not (nx v3 0)) fun t16_6=>
 gE t16_6 (
 gE t16_6 (
 gE t16_6 (
 gP t16_6 false (prP (bnI .neq (iv (cnt 1 (G4 c0 [(((AA t11_1)*8)+6)]))) (.int .i64 3))) fun t21_7=>
 prP (pk t16_6 (.bool true) t21_7) fun t22_8=>
 AV t22_8 (
 K [(.bool false)] []) (
 BC (fun r11 x9 k10=>
 prP (bnI .lss (nx x9 3) (nx x9 2)) fun t27_13=>
 AV t27_13 (
 ixW (cnt 1 (G4 c0 [(AA (nx x9 1))])) (nx x9 3) fun t28_14=>
 ldc c0 [(AA (nx x9 1))] ((AA t28_14)*1) fun t29_15=>
 prP (bnI .neq t29_15 (.int .i64 (-1))) fun t31_16=>
 gE t31_16 (
 gE t31_16 (
 gP t31_16 true (prP (un .not (nx x9 4))) fun t35_17=>
 gE t31_16 (
 gE (C2 t31_16 true t35_17) (
 gE (C2 t31_16 true t35_17) (
 gP (C2 t31_16 true t35_17) false ((fun K=>cl2 C 147 BZ.sg [t29_15] [c0,c1,c2,c3] fun v18 d19=>K (nx v18 0))) fun t39_20=>
 gP (C2 t31_16 true t35_17) false (prP (bnI .lss t39_20 (.int .i64 0))) fun t40_21=>
 gP t31_16 true (prP (pk t35_17 (.bool true) t40_21)) fun t41_22=>
 prP (pk t31_16 t41_22 (.bool false)) fun t42_23=>
 AV t42_23 (
 K [(.bool false)] []) (
 prP (bnI .add (nx x9 3) (.int .i64 1)) fun t43_24=>
 r11 [(nx x9 0),(iv (AA (nx x9 1))),(nx x9 2),t43_24,(nx x9 4),(nx x9 5),(nx x9 6),(nx x9 7),(nx x9 8),(nx x9 9),(iv (AA (nx x9 10))),(nx x9 11)] []))))))) (
 prP (un .not (nx x9 4)) fun t46_25=>
 AV t46_25 (
 prP (bnI .eql (nx x9 6) (.int .i64 0)) fun t49_26=>
 gE t49_26 (
 gE t49_26 (
 gP t49_26 true (prP (bnI .eql (nx x9 7) (.int .i64 0))) fun t53_27=>
 prP (pk t49_26 t53_27 (.bool false)) fun t54_28=>
 gE t54_28 (
 gE t54_28 (
 gP t54_28 true (prP (bnI .eql (nx x9 8) (.int .i64 0))) fun t58_29=>
 prP (pk t54_28 t58_29 (.bool false)) fun t59_30=>
 gE t59_30 (
 gE t59_30 (
 gP t59_30 true (prP (bnI .eql (nx x9 9) (.int .i64 0))) fun t63_31=>
 prP (pk t59_30 t63_31 (.bool false)) fun t64_32=>
 gE t64_32 (
 gE t64_32 (
 gP t64_32 true (prP (un .not (nx x9 11))) fun t68_33=>
 prP (pk t64_32 t68_33 (.bool false)) fun t69_34=>
 K [t69_34] []))))))))) (
 prP (bnI .geq (nx x9 5) (.int .i64 1)) fun t72_35=>
 gE t72_35 (
 gE t72_35 (
 gE t72_35 (
 gE t72_35 (
 gE t72_35 (
 gP t72_35 true (prP (bnI .sub (iv (cnt 1 c3)) (.int .i64 1))) fun t79_36=>
 gP t72_35 true ((fun K=>cl2 C 94 B6.sg [(nx x9 6),(.int .i64 0),t79_36] [] fun v37 d38=>K (nx v37 0))) fun t80_39=>
 prP (pk t72_35 t80_39 (.bool false)) fun t81_40=>
 gE t81_40 (
 gE t81_40 (
 gP t81_40 true ((fun K=>cl2 C 94 B6.sg [(nx x9 7),(.int .i64 0),(.int .i64 20)] [] fun v41 d42=>K (nx v41 0))) fun t85_43=>
 prP (pk t81_40 t85_43 (.bool false)) fun t86_44=>
 gE t86_44 (
 gE t86_44 (
 gP t86_44 true ((fun K=>cl2 C 94 B6.sg [(nx x9 8),(.int .i64 0),(.int .i64 20)] [] fun v45 d46=>K (nx v45 0))) fun t90_47=>
 prP (pk t86_44 t90_47 (.bool false)) fun t91_48=>
 gE t91_48 (
 gE t91_48 (
 gE t91_48 (
 gE t91_48 (
 gE t91_48 (
 gE t91_48 (
 gP t91_48 true (prP (bnI .add (nx x9 7) (nx x9 8))) fun t99_49=>
 gE t91_48 (
 gE t91_48 (
 gP t91_48 true ((fun K=>cl2 C 176 FP.sg [(nx x9 0)] [c0,c1,c2,c3] fun v50 d51=>K (nx v50 0))) fun t102_52=>
 gP t91_48 true (prP (bnI .add t99_49 t102_52)) fun t103_53=>
 gP t91_48 true (prP (bnI .eql (nx x9 9) t103_53)) fun t104_54=>
 prP (pk t91_48 t104_54 (.bool false)) fun t105_55=>
 gE t105_55 (
 gE t105_55 (
 gP t105_55 true (prP (bnI .geq (nx x9 9) (.int .i64 1))) fun t109_56=>
 prP (pk t105_55 t109_56 (.bool false)) fun t110_57=>
 gE t110_57 (
 gE t110_57 (
 gE t110_57 (
 gE t110_57 (
 gE t110_57 (
 gE t110_57 (
 gE t110_57 (
 gP t110_57 true ((fun K=>cl2 C 168 F7.sg [(nx x9 0),(nx x9 5)] [] fun v58 d59=>K (nx v58 0))) fun t119_60=>
 gP t110_57 true ((fun K=>cl2 C 148 GZ.sg [t119_60] [c2] fun v61 d62=>K (nx v61 0))) fun t120_63=>
 gP t110_57 true (prP (bnB .eql (nx x9 11) t120_63)) fun t121_64=>
 prP (pk t110_57 t121_64 (.bool false)) fun t122_65=>
 K [t122_65] []))))))))))))))))))))))))))))) [a0,(iv (((AA t11_1)*8)+6)),(iv (cnt 1 (G4 c0 [(((AA t11_1)*8)+6)]))),(.int .i64 0),(tv (nxT ts2 0)),(tv (nxT ts2 1)),(tv (nxT ts2 2)),(tv (nxT ts2 3)),(tv (nxT ts2 4)),(tv (nxT ts2 5)),(iv (((AA t11_1)*8)+6)),(tv (nxT ts2 7))] []))))
theorem I5.cl2 {w0:World} {a0:Value} {c0 c1 c2 c3:List T} {K:J2} (h:I5.txt ⟨Tryz.prog,w0⟩ a0 c0 c1 c2 c3 K):Eng.cl2 ⟨Tryz.prog,w0⟩ 146 I5.sg [a0] [c0,c1,c2,c3] K:=
 AD (C:=⟨Tryz.prog,w0⟩) (f:=146) (fn:=Tryz.f146) [(94,B6.sg),(147,BZ.sg),(176,FP.sg),(168,F7.sg),(148,GZ.sg)] [(12,[0,1,3,7,15,31,15,79,207,463,1023,2047,4095,8191,16383,32767,65535,131071,262143,524287,1048575,2097151,4194303,8388607,16777215,8388607,41943039,8388607,142606335,511705087,8388607,8388607,3229614079,8564768767,17179869183,34359738367,68719476735,137438953471,274877906943,549755813887,1099511627775,2199023255551,4398046511103,8796093022207,4398046511103,21990232555519,4398046511103,4398046511103,145135534866431,496979255754751,1112705767309311,2251799813685247,4503599627370495,9007199254740991])] [(122,⟨[.v, .p (.j 0) 0, .p (.j 1) 0, .n (.f 0) 1 1, .v, .v],[],[.bx [.t (.f 0) 8, .t (.f 1) 2, .t (.f 2) 1, .t (.f 3) 1], .bx [.v, .v, .v, .v, .v, .v, .n (.f 0) 1 1, .v]]⟩)] Tryz.func146 (by kernel_rfl) (by kernel_rfl) (by kernel_rfl) h
def H8.sg:Sg:=⟨[(1,[.t 8 0, .t 2 0, .t 1 0, .t 1 0])],[(0,[.v])],[]⟩
def H8.txt (C:Ctx) (c0 c1 c2 c3:List T) (K:J2):Prop:=
 prP (bnI .neq (iv (cnt 8 c0)) (.int .i64 8)) fun t11_1=>
 gE t11_1 (
 gE t11_1 (
 gE t11_1 (
 gP t11_1 false (prP (bnI .neq (iv (cnt 2 c1)) (.int .i64 8))) fun t16_2=>
 prP (pk t11_1 (.bool true) t16_2) fun t17_3=>
 gE t17_3 (
 gE t17_3 (
 gP t17_3 false ((fun K=>cl2 C 145 HE.sg [] [c3] fun v4 d5=>K (nx v4 0))) fun t21_6=>
 gP t17_3 false (prP (un .not t21_6)) fun t22_7=>
 prP (pk t17_3 (.bool true) t22_7) fun t23_8=>
 AV t23_8 (
 K [(.bool false)] []) (
 BC (fun r11 x9 k10=>
 prP (bnI .lss (nx x9 1) (nx x9 0)) fun t28_13=>
 AV t28_13 (
 cl2 C 146 I5.sg [(nx x9 1)] [c0,c1,c2,c3] fun v14 d15=>
 prP (un .not (nx v14 0)) fun t33_17=>
 AV t33_17 (
 K [(.bool false)] []) (
 prP (bnI .add (nx x9 1) (.int .i64 1)) fun t34_18=>
 r11 [(nx x9 0),t34_18] [])) (
 BC (fun r21 x19 k20=>
 prP (bnI .lss (nx x19 1) (nx x19 0)) fun t39_23=>
 AV t39_23 (
 ixW (cnt 2 c1) (nx x19 1) fun t40_24=>
 ldg c1 [] ((AA t40_24)*2) [.c, .c] fun ts25=>
 prP (un .not (tv (nxT ts25 0))) fun t44_26=>
 gE t44_26 (
 gE t44_26 (
 gP t44_26 true (prP (bnI .neq (tv (nxT ts25 1)) (.int .i64 0))) fun t48_27=>
 prP (pk t44_26 t48_27 (.bool false)) fun t49_28=>
 gE t49_28 (
 gE t49_28 (
 gE t49_28 (
 gE (C2 t49_28 false (tv (nxT ts25 0))) (
 gE (C2 t49_28 false (tv (nxT ts25 0))) (
 gP (C2 t49_28 false (tv (nxT ts25 0))) true ((fun K=>cl2 C 94 B6.sg [(tv (nxT ts25 1)),(.int .i64 8),(.int .i64 7999)] [] fun v29 d30=>K (nx v29 0))) fun t56_31=>
 gP (C2 t49_28 false (tv (nxT ts25 0))) true (prP (un .not t56_31)) fun t57_32=>
 gP t49_28 false (prP (pk (tv (nxT ts25 0)) t57_32 (.bool false))) fun t58_33=>
 prP (pk t49_28 (.bool true) t58_33) fun t59_34=>
 AV t59_34 (
 K [(.bool false)] []) (
 prP (bnI .add (nx x19 1) (.int .i64 1)) fun t60_35=>
 r21 [(nx x19 0),t60_35] []))))))))) (
 BC (fun r38 x36 k37=>
 prP (bnI .lss (nx x36 1) (nx x36 0)) fun t65_40=>
 AV t65_40 (
 ixW (cnt 1 c2) (nx x36 1) fun t67_41=>
 ldc c2 [] ((AA t67_41)*1) fun t68_42=>
 cl2 C 147 BZ.sg [t68_42] [c0,c1,c2,c3] fun v43 d44=>
 prP (bnI .lss (nx v43 0) (.int .i64 0)) fun t72_46=>
 gE t72_46 (
 gE t72_46 (
 gE t72_46 (
 gP t72_46 false ((fun K=>scW (cnt 1 c2) none (some (nx x36 1)) fun l m=>K (two l m))) fun t77_47=>
 gE t72_46 (
 gP t72_46 false ((fun K=>cl2 C 148 GZ.sg [t68_42] [(IP c2 [] ((AA (UT t77_47))*1) ((AA (VM t77_47))*1))] fun v48 d49=>K (nx v48 0))) fun t79_50=>
 prP (pk t72_46 (.bool true) t79_50) fun t80_51=>
 AV t80_51 (
 K [(.bool false)] []) (
 prP (bnI .add (nx x36 1) (.int .i64 1)) fun t81_52=>
 r38 [(nx x36 0),t81_52] [])))))) (
 K [(.bool true)] [])) [(iv (cnt 1 c2)),(.int .i64 0)] [])) [(iv (cnt 2 c1)),(.int .i64 0)] [])) [(iv (cnt 8 c0)),(.int .i64 0)] []))))))
theorem H8.cl2 {w0:World} {c0 c1 c2 c3:List T} {K:J2} (h:H8.txt ⟨Tryz.prog,w0⟩ c0 c1 c2 c3 K):Eng.cl2 ⟨Tryz.prog,w0⟩ 84 H8.sg [] [c0,c1,c2,c3] K:=
 AD (C:=⟨Tryz.prog,w0⟩) (f:=84) (fn:=Tryz.f84) [(145,HE.sg),(146,I5.sg),(94,B6.sg),(147,BZ.sg),(148,GZ.sg)] [] [(250,⟨[.p (.j 0) 0, .t (.f 2) 1, .v, .v],[],[.bx [.t (.f 0) 8, .t (.f 1) 2, .t (.f 2) 1, .t (.f 3) 1]]⟩),(122,⟨[.p (.j 0) 0, .t (.f 1) 2, .v, .v],[],[.bx [.t (.f 0) 8, .t (.f 1) 2, .t (.f 2) 1, .t (.f 3) 1]]⟩),(58,⟨[.p (.j 0) 0, .v, .v],[],[.bx [.t (.f 0) 8, .t (.f 1) 2, .t (.f 2) 1, .t (.f 3) 1]]⟩)] Tryz.func84 (by kernel_rfl) (by kernel_rfl) (by kernel_rfl) h
def JG.sg:Sg:=⟨[(1,[.t 8 0, .t 2 0, .t 1 0, .t 1 0]),(1,[.v, .v, .v, .v, .v])],[(1,[.t 8, .t 2, .t 1, .t 1]),(1,[.v, .v, .t 1])],[]⟩
def JG.txt (C:Ctx) (a0 a1 a2 a3 a4:Value) (c0 c1 c2 c3:List T) (K:J2):Prop:=
 cl2 C 83 EE.sg [] [c0,c1,c2,c3] fun v1 d2=>
 cl2 C 84 H8.sg [] [c0,c1,c2,c3] fun v3 d4=>
 prP (un .not (nx v3 0)) fun t12_6=>
 AV t12_6 (
 cl2 C 85 BX.sg [(.int .i64 2)] [] fun v7 d8=>
 K [(nx v7 0),(nx v7 1)] [(nxc d2 0),(nxc d2 1),(nxc d2 2),(nxc d2 3),(nxc d8 0)]) (
 cl2 C 73 DB.sg [a0,a1,a2,a3,a4] [(nxc d2 0),(nxc d2 1),(nxc d2 2),(nxc d2 3)] fun v9 d10=>
 K [(nx v9 0),(nx v9 1)] [(nxc d10 1),(nxc d10 2),(nxc d10 3),(nxc d10 4),(nxc d10 0)])
theorem JG.cl2 {w0:World} {a0 a1 a2 a3 a4:Value} {c0 c1 c2 c3:List T} {K:J2} (h:JG.txt ⟨Tryz.prog,w0⟩ a0 a1 a2 a3 a4 c0 c1 c2 c3 K):Eng.cl2 ⟨Tryz.prog,w0⟩ 44 JG.sg [a0,a1,a2,a3,a4] [c0,c1,c2,c3] K:=
 AD (C:=⟨Tryz.prog,w0⟩) (f:=44) (fn:=Tryz.f44) [(83,EE.sg),(84,H8.sg),(85,BX.sg),(73,DB.sg)] [(3,[0,0,3,7]),(5,[0,0,1,7])] [] Tryz.func44 (by kernel_rfl) (by kernel_rfl) (by kernel_rfl) h
def GL.sg:Sg:=⟨[(0,[.t 1 0]),(0,[.t 1 0])],[(0,[.v])],[]⟩
def GL.txt (C:Ctx) (c0 c1:List T) (K:J2):Prop:=
 prP (bnI .neq (iv (cnt 1 c0)) (iv (cnt 1 c1))) fun t10_1=>
 AV t10_1 (
 K [(.bool false)] []) (
 BC (fun r4 x2 k3=>
 prP (bnI .lss (nx x2 1) (nx x2 0)) fun t14_6=>
 AV t14_6 (
 ixW (cnt 1 c0) (nx x2 1) fun t18_7=>
 ldc c0 [] ((AA t18_7)*1) fun t19_8=>
 ixW (cnt 1 c1) (nx x2 1) fun t22_9=>
 ldc c1 [] ((AA t22_9)*1) fun t23_10=>
 prP (bnI .neq t19_8 t23_10) fun t24_11=>
 AV t24_11 (
 K [(.bool false)] []) (
 prP (bnI .add (nx x2 1) (.int .i64 1)) fun t25_12=>
 r4 [(nx x2 0),t25_12] [])) (
 K [(.bool true)] [])) [(iv (cnt 1 c0)),(.int .i64 0)] [])
theorem GL.cl2 {w0:World} {c0 c1:List T} {K:J2} (h:GL.txt ⟨Tryz.prog,w0⟩ c0 c1 K):Eng.cl2 ⟨Tryz.prog,w0⟩ 86 GL.sg [] [c0,c1] K:=
 AD (C:=⟨Tryz.prog,w0⟩) (f:=86) (fn:=Tryz.f86) [] [(6,[0,0,3,7,0,0,48,112,255])] [(58,⟨[.t (.f 0) 1, .t (.f 1) 1, .v, .v],[],[]⟩)] Tryz.func86 (by kernel_rfl) (by kernel_rfl) (by kernel_rfl) h
def EO.sg:Sg:=⟨[(1,[.v, .v, .t 1 0]),(1,[.v, .v, .t 1 0])],[(0,[.v])],[]⟩
def EO.txt (C:Ctx) (a0 a1 a2 a3:Value) (c0 c1:List T) (K:J2):Prop:=
 prP (bnI .eql a0 a2) fun t9_1=>
 gE t9_1 (
 gE t9_1 (
 gE t9_1 (
 gE t9_1 (
 gP t9_1 true (prP (bnI .eql a1 a3)) fun t15_2=>
 prP (pk t9_1 t15_2 (.bool false)) fun t16_3=>
 gE t16_3 (
 gE t16_3 (
 gE t16_3 (
 gE t16_3 (
 gP t16_3 true ((fun K=>cl2 C 86 GL.sg [] [c0,c1] fun v4 d5=>K (nx v4 0))) fun t22_6=>
 prP (pk t16_3 t22_6 (.bool false)) fun t23_7=>
 K [t23_7] []))))))))
theorem EO.cl2 {w0:World} {a0 a1 a2 a3:Value} {c0 c1:List T} {K:J2} (h:EO.txt ⟨Tryz.prog,w0⟩ a0 a1 a2 a3 c0 c1 K):Eng.cl2 ⟨Tryz.prog,w0⟩ 45 EO.sg [a0,a1,a2,a3] [c0,c1] K:=
 AD (C:=⟨Tryz.prog,w0⟩) (f:=45) (fn:=Tryz.f45) [(86,GL.sg)] [] [] Tryz.func45 (by kernel_rfl) (by kernel_rfl) (by kernel_rfl) h
def I3.sg:Sg:=⟨[(0,[.v])],[(1,[.v, .v, .t 8, .t 2, .t 1, .t 1, .t 5, .t 3])],[]⟩
def I3.txt (C:Ctx) (a0:Value) (K:J2):Prop:=
 cl2 C 14 GY.sg [a0] [] fun v1 d2=>
 cl2 C 43 FM.sg [] [] fun v3 d4=>
 BW (fun x6 k7=>
 K [(nx x6 2),(nx x6 3)] [(nxc k7 0),(nxc k7 1),(nxc k7 2),(nxc k7 3),(nxc k7 4),(nxc k7 5)]) fun j8=>
 BC (fun r11 x9 k10=>
 prP (bnI .lss (nx x9 1) (nx x9 0)) fun t23_27=>
 AV t23_27 (
 ixW (cnt 5 (nxc k10 1)) (nx x9 1) fun t25_28=>
 ldg (nxc k10 1) [] ((AA t25_28)*5) [.c, .c, .c, .c, .c] fun ts29=>
 cl2 C 44 JG.sg [(tv (nxT ts29 0)),(tv (nxT ts29 1)),(tv (nxT ts29 2)),(tv (nxT ts29 3)),(tv (nxT ts29 4))] [(nxc k10 2),(nxc k10 3),(nxc k10 4),(nxc k10 5)] fun v30 d31=>
 ixW (cnt 3 (nxc k10 0)) (nx x9 1) fun t37_32=>
 ldg (nxc k10 0) [] ((AA t37_32)*3) [.c, .c, .l 1] fun ts33=>
 cl2 C 45 EO.sg [(nx v30 0),(nx v30 1),(tv (nxT ts33 0)),(tv (nxT ts33 1))] [(nxc d31 4),(G4 (nxc k10 0) [(((AA t37_32)*3)+2)])] fun v34 d35=>
 prP (un .not (nx v34 0)) fun t40_37=>
 AV t40_37 (
 j8 [(nx x9 2),(nx x9 3),(.int .i64 3),(nx x9 5)] [(nxc k10 2),(nxc k10 3),(nxc k10 4),(nxc k10 5),(nxc k10 6),(nxc k10 7)]) (
 prP (bnI .add (nx x9 5) (.int .i64 1)) fun t44_38=>
 apW [T.c (tv (nxT ts29 0)),T.c (tv (nxT ts29 1)),T.c (tv (nxT ts29 2)),T.c (tv (nxT ts29 3)),T.c (tv (nxT ts29 4))] true (cnt 5 (nxc k10 6)) (cnt 5 [T.c (tv (nxT ts29 0)),T.c (tv (nxT ts29 1)),T.c (tv (nxT ts29 2)),T.c (tv (nxT ts29 3)),T.c (tv (nxT ts29 4))]) 48 (
 apW [T.c (nx v30 0),T.c (nx v30 1),T.l 1 (nxc d31 4)] false (cnt 3 (nxc k10 7)) (cnt 3 [T.c (nx v30 0),T.c (nx v30 1),T.l 1 (nxc d31 4)]) 40 (
 prP (bnI .add (nx x9 1) (.int .i64 1)) fun t60_39=>
 r11 [(nx x9 0),t60_39,(nx x9 2),(nx x9 3),(nx x9 4),t44_38] [(nxc k10 0),(nxc k10 1),(nxc d31 0),(nxc d31 1),(nxc d31 2),(nxc d31 3),((nxc k10 6)++[T.c (tv (nxT ts29 0)),T.c (tv (nxT ts29 1)),T.c (tv (nxT ts29 2)),T.c (tv (nxT ts29 3)),T.c (tv (nxT ts29 4))]),((nxc k10 7)++[T.c (nx v30 0),T.c (nx v30 1),T.l 1 (nxc d31 4)])])))) (
 j8 [(nx x9 2),(nx x9 3),(nx x9 4),(nx x9 5)] [(nxc k10 2),(nxc k10 3),(nxc k10 4),(nxc k10 5),(nxc k10 6),(nxc k10 7)])) [(iv (cnt 5 (nxc d2 0))),(.int .i64 0),(.int .i64 0),(.int .i64 0),(nx v1 0),(.int .i64 0)] [(nxc d2 1),(nxc d2 0),(nxc d4 0),(nxc d4 1),(nxc d4 2),(nxc d4 3),[],[]]
theorem I3.cl2 {w0:World} {a0:Value} {K:J2} (h:I3.txt ⟨Tryz.prog,w0⟩ a0 K):Eng.cl2 ⟨Tryz.prog,w0⟩ 15 I3.sg [a0] [] K:=
 AD (C:=⟨Tryz.prog,w0⟩) (f:=15) (fn:=Tryz.f15) [(14,GY.sg),(43,FM.sg),(44,JG.sg),(45,EO.sg)] [(7,[0,0,0,6,14,31,63])] [(122,⟨[.p (.j 0) 0, .t (.j 1) 3, .p (.j 2) 0, .t (.j 3) 5, .v, .v],[],[.bx [.v, .v, .z, .z, .z, .z, .z, .z], .ls, .bx [.v, .v, .t (.j 4) 8, .t (.j 5) 2, .t (.j 6) 1, .t (.j 7) 1, .t (.j 8) 5, .t (.j 9) 3], .ls, .ls, .ls, .ls, .ls, .ls, .ls]⟩),(15,⟨[.p (.j 0) 0, .p (.j 1) 0],[],[.bx [.v, .v, .z, .z, .z, .z, .z, .z], .bx [.v, .v, .t (.j 2) 8, .t (.j 3) 2, .t (.j 4) 1, .t (.j 5) 1, .t (.j 6) 5, .t (.j 7) 3], .ls, .ls, .ls, .ls, .ls, .ls]⟩)] Tryz.func15 (by kernel_rfl) (by kernel_rfl) (by kernel_rfl) h
end Go.Proofs.YtnhicpkhkaihoaaGreat.P
