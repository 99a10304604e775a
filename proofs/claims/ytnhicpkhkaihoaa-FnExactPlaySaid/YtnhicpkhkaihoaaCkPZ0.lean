/- A part of the proof. -/
import Derived.Test.YtnhicpkhkaihoaaChecked
import Derived.Test.YtnhicpkhkaihoaaCkEngM5
import Derived.KernelRfl
namespace Go.Proofs.Ytnhicpkhkaihoaa.P
open Go Go.Proofs.Ytnhicpkhkaihoaa Go.Proofs.Ytnhicpkhkaihoaa.Eng
set_option linter.unusedVariables false
set_option maxRecDepth 100000
def B7.sg:Sg:=⟨[(0,[.v]),(0,[.v]),(0,[.v])],[(0,[.v])],[]⟩
def B7.txt (C:Ctx) (a0 a1 a2:Value) (K:J2):Prop:=
 prP (bnI .geq a0 a1) fun t9_1=>
 gE t9_1 (
 gE t9_1 (
 gP t9_1 true (prP (bnI .leq a0 a2)) fun t13_2=>
 prP (pk t9_1 t13_2 (.bool false)) fun t14_3=>
 K [t14_3] []))
theorem B7.cl2 {w0:World} {a0 a1 a2:Value} {K:J2} (h:B7.txt ⟨Try.prog,w0⟩ a0 a1 a2 K):Eng.cl2 ⟨Try.prog,w0⟩ 154 B7.sg [a0,a1,a2] [] K:=
 AE (C:=⟨Try.prog,w0⟩) (f:=154) (fn:=Try.f154) [] [] [] Try.func154 (by kernel_rfl) (by kernel_rfl) (by kernel_rfl) h
def EJ.sg:Sg:=⟨[(0,[.v]),(0,[.v])],[(0,[.v])],[]⟩
def EJ.txt (C:Ctx) (a0 a1:Value) (K:J2):Prop:=
 cl2 C 154 B7.sg [a0,(.int .i64 0),(.int .i64 7)] [] fun v1 d2=>
 prP (un .not (nx v1 0)) fun t7_4=>
 gE t7_4 (
 gP t7_4 false ((fun K=>cl2 C 154 B7.sg [a1,(.int .i64 1),(.int .i64 999)] [] fun v5 d6=>K (nx v5 0))) fun t10_7=>
 gP t7_4 false (prP (un .not t10_7)) fun t11_8=>
 prP (pk t7_4 (.bool true) t11_8) fun t12_9=>
 AU t12_9 (
 K [(.int .i64 (-1))] []) (
 prP (bnI .mul (.int .i64 8) a1) fun t15_10=>
 prP (bnI .add a0 t15_10) fun t16_11=>
 K [t16_11] []))
theorem EJ.cl2 {w0:World} {a0 a1:Value} {K:J2} (h:EJ.txt ⟨Try.prog,w0⟩ a0 a1 K):Eng.cl2 ⟨Try.prog,w0⟩ 79 EJ.sg [a0,a1] [] K:=
 AE (C:=⟨Try.prog,w0⟩) (f:=79) (fn:=Try.f79) [(154,B7.sg)] [] [] Try.func79 (by kernel_rfl) (by kernel_rfl) (by kernel_rfl) h
def FK.sg:Sg:=⟨[(0,[.v]),(0,[.v]),(0,[.v])],[(0,[.v])],[]⟩
def FK.txt (C:Ctx) (a0 a1 a2:Value) (K:J2):Prop:=
 prP (bnI .geq a0 a1) fun t9_1=>
 gE t9_1 (
 gE t9_1 (
 gP t9_1 true (prP (bnI .leq a0 a2)) fun t13_2=>
 prP (pk t9_1 t13_2 (.bool false)) fun t14_3=>
 K [t14_3] []))
theorem FK.cl2 {w0:World} {a0 a1 a2:Value} {K:J2} (h:FK.txt ⟨Try.prog,w0⟩ a0 a1 a2 K):Eng.cl2 ⟨Try.prog,w0⟩ 157 FK.sg [a0,a1,a2] [] K:=
 AE (C:=⟨Try.prog,w0⟩) (f:=157) (fn:=Try.f157) [] [] [] Try.func157 (by kernel_rfl) (by kernel_rfl) (by kernel_rfl) h
def GD.sg:Sg:=⟨[(0,[.v]),(0,[.v])],[(0,[.v])],[]⟩
def GD.txt (C:Ctx) (a0 a1:Value) (K:J2):Prop:=
 cl2 C 157 FK.sg [a0,(.int .i64 0),(.int .i64 7)] [] fun v1 d2=>
 prP (un .not (nx v1 0)) fun t7_4=>
 gE t7_4 (
 gP t7_4 false ((fun K=>cl2 C 157 FK.sg [a1,(.int .i64 1),(.int .i64 999)] [] fun v5 d6=>K (nx v5 0))) fun t10_7=>
 gP t7_4 false (prP (un .not t10_7)) fun t11_8=>
 prP (pk t7_4 (.bool true) t11_8) fun t12_9=>
 AU t12_9 (
 K [(.int .i64 (-1))] []) (
 prP (bnI .mul (.int .i64 8) a1) fun t15_10=>
 prP (bnI .add a0 t15_10) fun t16_11=>
 K [t16_11] []))
theorem GD.cl2 {w0:World} {a0 a1:Value} {K:J2} (h:GD.txt ⟨Try.prog,w0⟩ a0 a1 K):Eng.cl2 ⟨Try.prog,w0⟩ 84 GD.sg [a0,a1] [] K:=
 AE (C:=⟨Try.prog,w0⟩) (f:=84) (fn:=Try.f84) [(157,FK.sg)] [] [] Try.func84 (by kernel_rfl) (by kernel_rfl) (by kernel_rfl) h
def DJ.sg:Sg:=⟨[(0,[.t 1 0]),(0,[.t 1 0])],[(0,[.v])],[]⟩
def DJ.txt (C:Ctx) (c0 c1:List T) (K:J2):Prop:=
 prP (bnI .neq (iv (cnt 1 c0)) (iv (cnt 1 c1))) fun t10_1=>
 AU t10_1 (
 K [(.bool false)] []) (
 BD (fun r4 x2 k3=>
 prP (bnI .lss (nx x2 0) (iv (cnt 1 c0))) fun t14_6=>
 AU t14_6 (
 ixW (cnt 1 c0) (nx x2 0) fun t19_7=>
 ldc c0 [] ((AA t19_7)*1) fun t20_8=>
 ixW (cnt 1 c1) (nx x2 0) fun t23_9=>
 ldc c1 [] ((AA t23_9)*1) fun t24_10=>
 prP (bnI .neq t20_8 t24_10) fun t25_11=>
 AU t25_11 (
 K [(.bool false)] []) (
 prP (bnI .add (nx x2 0) (.int .i64 1)) fun t16_12=>
 r4 [t16_12] [])) (
 K [(.bool true)] [])) [(.int .i64 0)] [])
theorem DJ.cl2 {w0:World} {c0 c1:List T} {K:J2} (h:DJ.txt ⟨Try.prog,w0⟩ c0 c1 K):Eng.cl2 ⟨Try.prog,w0⟩ 17 DJ.sg [] [c0,c1] K:=
 AE (C:=⟨Try.prog,w0⟩) (f:=17) (fn:=Try.f17) [] [(6,[0,0,3,7,0,0,48,112,255])] [(58,⟨[.t (.f 0) 1, .t (.f 1) 1, .v],[],[]⟩)] Try.func17 (by kernel_rfl) (by kernel_rfl) (by kernel_rfl) h
def HG.sg:Sg:=⟨[(1,[.v, .v, .v, .v, .v, .v, .t 1 0, .v]),(1,[.v, .v, .v, .v, .v, .v, .t 1 0, .v])],[(0,[.v])],[]⟩
def HG.txt (C:Ctx) (a0 a1 a2 a3 a4 a5 a6 a7 a8 a9 a10 a11 a12 a13:Value) (c0 c1:List T) (K:J2):Prop:=
 prP (bnB .neq a0 a7) fun t9_1=>
 AU t9_1 (
 K [(.bool false)] []) (
 prP (bnI .neq a1 a8) fun t14_2=>
 AU t14_2 (
 K [(.bool false)] []) (
 prP (bnI .neq a2 a9) fun t19_3=>
 AU t19_3 (
 K [(.bool false)] []) (
 prP (bnI .neq a3 a10) fun t24_4=>
 AU t24_4 (
 K [(.bool false)] []) (
 prP (bnI .neq a4 a11) fun t29_5=>
 AU t29_5 (
 K [(.bool false)] []) (
 prP (bnI .neq a5 a12) fun t34_6=>
 AU t34_6 (
 K [(.bool false)] []) (
 cl2 C 17 DJ.sg [] [c0,c1] fun v7 d8=>
 prP (un .not (nx v7 0)) fun t40_10=>
 AU t40_10 (
 K [(.bool false)] []) (
 prP (bnB .neq a6 a13) fun t45_11=>
 AU t45_11 (
 K [(.bool false)] []) (
 K [(.bool true)] []))))))))
theorem HG.cl2 {w0:World} {a0 a1 a2 a3 a4 a5 a6 a7 a8 a9 a10 a11 a12 a13:Value} {c0 c1:List T} {K:J2} (h:HG.txt ⟨Try.prog,w0⟩ a0 a1 a2 a3 a4 a5 a6 a7 a8 a9 a10 a11 a12 a13 c0 c1 K):Eng.cl2 ⟨Try.prog,w0⟩ 158 HG.sg [a0,a1,a2,a3,a4,a5,a6,a7,a8,a9,a10,a11,a12,a13] [c0,c1] K:=
 AE (C:=⟨Try.prog,w0⟩) (f:=158) (fn:=Try.f158) [(17,DJ.sg)] [] [] Try.func158 (by kernel_rfl) (by kernel_rfl) (by kernel_rfl) h
def GX.sg:Sg:=⟨[(0,[.t 8 0]),(0,[.t 8 0])],[(0,[.v])],[]⟩
def GX.txt (C:Ctx) (c0 c1:List T) (K:J2):Prop:=
 prP (bnI .neq (iv (cnt 8 c0)) (iv (cnt 8 c1))) fun t10_1=>
 AU t10_1 (
 K [(.bool false)] []) (
 BD (fun r4 x2 k3=>
 prP (bnI .lss (nx x2 0) (iv (cnt 8 c0))) fun t14_6=>
 AU t14_6 (
 ixW (cnt 8 c0) (nx x2 0) fun t19_7=>
 ldg c0 [] ((AA t19_7)*8) [.c, .c, .c, .c, .c, .c, .l 1, .c] fun ts8=>
 ixW (cnt 8 c1) (nx x2 0) fun t23_9=>
 ldg c1 [] ((AA t23_9)*8) [.c, .c, .c, .c, .c, .c, .l 1, .c] fun ts10=>
 cl2 C 158 HG.sg [(tv (nxT ts8 0)),(tv (nxT ts8 1)),(tv (nxT ts8 2)),(tv (nxT ts8 3)),(tv (nxT ts8 4)),(tv (nxT ts8 5)),(tv (nxT ts8 7)),(tv (nxT ts10 0)),(tv (nxT ts10 1)),(tv (nxT ts10 2)),(tv (nxT ts10 3)),(tv (nxT ts10 4)),(tv (nxT ts10 5)),(tv (nxT ts10 7))] [(FI c0 [(((AA t19_7)*8)+6)]),(FI c1 [(((AA t23_9)*8)+6)])] fun v11 d12=>
 prP (un .not (nx v11 0)) fun t26_14=>
 AU t26_14 (
 K [(.bool false)] []) (
 prP (bnI .add (nx x2 0) (.int .i64 1)) fun t16_15=>
 r4 [t16_15] [])) (
 K [(.bool true)] [])) [(.int .i64 0)] [])
theorem GX.cl2 {w0:World} {c0 c1:List T} {K:J2} (h:GX.txt ⟨Try.prog,w0⟩ c0 c1 K):Eng.cl2 ⟨Try.prog,w0⟩ 85 GX.sg [] [c0,c1] K:=
 AE (C:=⟨Try.prog,w0⟩) (f:=85) (fn:=Try.f85) [(158,HG.sg)] [(6,[0,0,3,7,0,0,48,112,255,511])] [(58,⟨[.t (.f 0) 8, .t (.f 1) 8, .v],[],[]⟩)] Try.func85 (by kernel_rfl) (by kernel_rfl) (by kernel_rfl) h
def GW.sg:Sg:=⟨[(1,[.v, .v]),(1,[.v, .v])],[(0,[.v])],[]⟩
def GW.txt (C:Ctx) (a0 a1 a2 a3:Value) (K:J2):Prop:=
 prP (bnB .neq a0 a2) fun t9_1=>
 AU t9_1 (
 K [(.bool false)] []) (
 prP (bnI .neq a1 a3) fun t14_2=>
 AU t14_2 (
 K [(.bool false)] []) (
 K [(.bool true)] []))
theorem GW.cl2 {w0:World} {a0 a1 a2 a3:Value} {K:J2} (h:GW.txt ⟨Try.prog,w0⟩ a0 a1 a2 a3 K):Eng.cl2 ⟨Try.prog,w0⟩ 159 GW.sg [a0,a1,a2,a3] [] K:=
 AE (C:=⟨Try.prog,w0⟩) (f:=159) (fn:=Try.f159) [] [] [] Try.func159 (by kernel_rfl) (by kernel_rfl) (by kernel_rfl) h
def F7.sg:Sg:=⟨[(0,[.t 2 0]),(0,[.t 2 0])],[(0,[.v])],[]⟩
def F7.txt (C:Ctx) (c0 c1:List T) (K:J2):Prop:=
 prP (bnI .neq (iv (cnt 2 c0)) (iv (cnt 2 c1))) fun t10_1=>
 AU t10_1 (
 K [(.bool false)] []) (
 BD (fun r4 x2 k3=>
 prP (bnI .lss (nx x2 0) (iv (cnt 2 c0))) fun t14_6=>
 AU t14_6 (
 ixW (cnt 2 c0) (nx x2 0) fun t19_7=>
 ldg c0 [] ((AA t19_7)*2) [.c, .c] fun ts8=>
 ixW (cnt 2 c1) (nx x2 0) fun t23_9=>
 ldg c1 [] ((AA t23_9)*2) [.c, .c] fun ts10=>
 cl2 C 159 GW.sg [(tv (nxT ts8 0)),(tv (nxT ts8 1)),(tv (nxT ts10 0)),(tv (nxT ts10 1))] [] fun v11 d12=>
 prP (un .not (nx v11 0)) fun t26_14=>
 AU t26_14 (
 K [(.bool false)] []) (
 prP (bnI .add (nx x2 0) (.int .i64 1)) fun t16_15=>
 r4 [t16_15] [])) (
 K [(.bool true)] [])) [(.int .i64 0)] [])
theorem F7.cl2 {w0:World} {c0 c1:List T} {K:J2} (h:F7.txt ⟨Try.prog,w0⟩ c0 c1 K):Eng.cl2 ⟨Try.prog,w0⟩ 86 F7.sg [] [c0,c1] K:=
 AE (C:=⟨Try.prog,w0⟩) (f:=86) (fn:=Try.f86) [(159,GW.sg)] [(6,[0,0,3,7,0,0,48,112,255,511])] [(58,⟨[.t (.f 0) 2, .t (.f 1) 2, .v],[],[]⟩)] Try.func86 (by kernel_rfl) (by kernel_rfl) (by kernel_rfl) h
def DM.sg:Sg:=⟨[(0,[.t 1 0]),(0,[.t 1 0])],[(0,[.v])],[]⟩
def DM.txt (C:Ctx) (c0 c1:List T) (K:J2):Prop:=
 prP (bnI .neq (iv (cnt 1 c0)) (iv (cnt 1 c1))) fun t10_1=>
 AU t10_1 (
 K [(.bool false)] []) (
 BD (fun r4 x2 k3=>
 prP (bnI .lss (nx x2 0) (iv (cnt 1 c0))) fun t14_6=>
 AU t14_6 (
 ixW (cnt 1 c0) (nx x2 0) fun t19_7=>
 ldc c0 [] ((AA t19_7)*1) fun t20_8=>
 ixW (cnt 1 c1) (nx x2 0) fun t23_9=>
 ldc c1 [] ((AA t23_9)*1) fun t24_10=>
 prP (bnS .neq t20_8 t24_10) fun t25_11=>
 AU t25_11 (
 K [(.bool false)] []) (
 prP (bnI .add (nx x2 0) (.int .i64 1)) fun t16_12=>
 r4 [t16_12] [])) (
 K [(.bool true)] [])) [(.int .i64 0)] [])
theorem DM.cl2 {w0:World} {c0 c1:List T} {K:J2} (h:DM.txt ⟨Try.prog,w0⟩ c0 c1 K):Eng.cl2 ⟨Try.prog,w0⟩ 87 DM.sg [] [c0,c1] K:=
 AE (C:=⟨Try.prog,w0⟩) (f:=87) (fn:=Try.f87) [] [(6,[0,0,3,7,0,0,48,112,255])] [(58,⟨[.t (.f 0) 1, .t (.f 1) 1, .v],[],[]⟩)] Try.func87 (by kernel_rfl) (by kernel_rfl) (by kernel_rfl) h
def FE.sg:Sg:=⟨[(1,[.t 8 0, .t 2 0, .t 1 0, .t 1 0]),(1,[.t 8 0, .t 2 0, .t 1 0, .t 1 0])],[(0,[.v])],[]⟩
def FE.txt (C:Ctx) (c0 c1 c2 c3 c4 c5 c6 c7:List T) (K:J2):Prop:=
 cl2 C 85 GX.sg [] [c0,c4] fun v1 d2=>
 prP (un .not (nx v1 0)) fun t10_4=>
 AU t10_4 (
 K [(.bool false)] []) (
 cl2 C 86 F7.sg [] [c1,c5] fun v5 d6=>
 prP (un .not (nx v5 0)) fun t16_8=>
 AU t16_8 (
 K [(.bool false)] []) (
 cl2 C 17 DJ.sg [] [c2,c6] fun v9 d10=>
 prP (un .not (nx v9 0)) fun t22_12=>
 AU t22_12 (
 K [(.bool false)] []) (
 cl2 C 87 DM.sg [] [c3,c7] fun v13 d14=>
 prP (un .not (nx v13 0)) fun t28_16=>
 AU t28_16 (
 K [(.bool false)] []) (
 K [(.bool true)] []))))
theorem FE.cl2 {w0:World} {c0 c1 c2 c3 c4 c5 c6 c7:List T} {K:J2} (h:FE.txt ⟨Try.prog,w0⟩ c0 c1 c2 c3 c4 c5 c6 c7 K):Eng.cl2 ⟨Try.prog,w0⟩ 18 FE.sg [] [c0,c1,c2,c3,c4,c5,c6,c7] K:=
 AE (C:=⟨Try.prog,w0⟩) (f:=18) (fn:=Try.f18) [(85,GX.sg),(86,F7.sg),(17,DJ.sg),(87,DM.sg)] [] [] Try.func18 (by kernel_rfl) (by kernel_rfl) (by kernel_rfl) h
def CL.sg:Sg:=⟨[(0,[.t 1 1]),(0,[.v])],[(0,[.v])],[]⟩
def CL.txt (C:Ctx) (a0:Value) (c0:List T) (K:J2):Prop:=
 BD (fun r3 x1 k2=>
 prP (bnI .lss (nx x1 1) (iv (cnt 1 (nxc k2 0)))) fun t9_5=>
 AU t9_5 (
 ixW (cnt 1 (nxc k2 0)) (nx x1 1) fun t15_6=>
 stc (nxc k2 0) [] ((AA t15_6)*1) (nx x1 0) fun k7=>
 prP (bnI .add (nx x1 0) (.int .i64 1)) fun t17_8=>
 prP (bnI .add (nx x1 1) (.int .i64 1)) fun t11_9=>
 r3 [t17_8,t11_9] [k7]) (
 K [(nx x1 0)] [(nxc k2 0)])) [a0,(.int .i64 0)] [c0]
theorem CL.cl2 {w0:World} {a0:Value} {c0:List T} {K:J2} (h:CL.txt ⟨Try.prog,w0⟩ a0 c0 K):Eng.cl2 ⟨Try.prog,w0⟩ 20 CL.sg [a0] [c0] K:=
 AE (C:=⟨Try.prog,w0⟩) (f:=20) (fn:=Try.f20) [] [] [(26,⟨[.t (.j 0) 1, .v, .v],[.t (.j 0) 1],[.ls]⟩)] Try.func20 (by kernel_rfl) (by kernel_rfl) (by kernel_rfl) h
def ER.sg:Sg:=⟨[(0,[.t 8 1]),(0,[.v])],[(0,[.v])],[]⟩
def ER.txt (C:Ctx) (a0:Value) (c0:List T) (K:J2):Prop:=
 BD (fun r3 x1 k2=>
 prP (bnI .lss (nx x1 1) (iv (cnt 8 (nxc k2 0)))) fun t9_5=>
 AU t9_5 (
 prP (bnI .rem (nx x1 0) (.int .i64 3)) fun t15_6=>
 prP (bnI .eql t15_6 (.int .i64 0)) fun t16_7=>
 ixW (cnt 8 (nxc k2 0)) (nx x1 1) fun t17_8=>
 stc (nxc k2 0) [] ((AA t17_8)*8) t16_7 fun k9=>
 prP (bnI .add (nx x1 0) (.int .i64 1)) fun t20_10=>
 ixW (cnt 8 k9) (nx x1 1) fun t24_11=>
 stc k9 [] (((AA t24_11)*8)+1) t20_10 fun k12=>
 prP (bnI .add t20_10 (.int .i64 1)) fun t27_13=>
 ixW (cnt 8 k12) (nx x1 1) fun t31_14=>
 stc k12 [] (((AA t31_14)*8)+2) t27_13 fun k15=>
 prP (bnI .add t27_13 (.int .i64 1)) fun t34_16=>
 ixW (cnt 8 k15) (nx x1 1) fun t38_17=>
 stc k15 [] (((AA t38_17)*8)+3) t34_16 fun k18=>
 prP (bnI .add t34_16 (.int .i64 1)) fun t41_19=>
 ixW (cnt 8 k18) (nx x1 1) fun t45_20=>
 stc k18 [] (((AA t45_20)*8)+4) t41_19 fun k21=>
 prP (bnI .add t41_19 (.int .i64 1)) fun t48_22=>
 ixW (cnt 8 k21) (nx x1 1) fun t52_23=>
 stc k21 [] (((AA t52_23)*8)+5) t48_22 fun k24=>
 prP (bnI .add t48_22 (.int .i64 1)) fun t55_25=>
 ixW (cnt 8 k24) (nx x1 1) fun t58_26=>
 ldl k24 [] (((AA t58_26)*8)+6) 1 fun t60_27=>
 cl2 C 20 CL.sg [t55_25] [(FI k24 [(((AA t58_26)*8)+6)])] fun v28 d29=>
 prP (bnI .rem (nx v28 0) (.int .i64 3)) fun t66_30=>
 prP (bnI .eql t66_30 (.int .i64 0)) fun t67_31=>
 ixW (cnt 8 (HE k24 [(((AA t58_26)*8)+6)] (nxc d29 0))) (nx x1 1) fun t68_32=>
 stc (HE k24 [(((AA t58_26)*8)+6)] (nxc d29 0)) [] (((AA t68_32)*8)+7) t67_31 fun k33=>
 prP (bnI .add (nx v28 0) (.int .i64 1)) fun t71_34=>
 prP (bnI .add (nx x1 1) (.int .i64 1)) fun t11_35=>
 r3 [t71_34,t11_35] [k33]) (
 K [(nx x1 0)] [(nxc k2 0)])) [a0,(.int .i64 0)] [c0]
theorem ER.cl2 {w0:World} {a0:Value} {c0:List T} {K:J2} (h:ER.txt ⟨Try.prog,w0⟩ a0 c0 K):Eng.cl2 ⟨Try.prog,w0⟩ 88 ER.sg [a0] [c0] K:=
 AE (C:=⟨Try.prog,w0⟩) (f:=88) (fn:=Try.f88) [(20,CL.sg)] [] [(26,⟨[.t (.j 0) 8, .v, .v],[.t (.j 0) 8],[.ls]⟩)] Try.func88 (by kernel_rfl) (by kernel_rfl) (by kernel_rfl) h
def EB.sg:Sg:=⟨[(0,[.t 2 1]),(0,[.v])],[(0,[.v])],[]⟩
def EB.txt (C:Ctx) (a0:Value) (c0:List T) (K:J2):Prop:=
 BD (fun r3 x1 k2=>
 prP (bnI .lss (nx x1 1) (iv (cnt 2 (nxc k2 0)))) fun t9_5=>
 AU t9_5 (
 prP (bnI .rem (nx x1 0) (.int .i64 3)) fun t15_6=>
 prP (bnI .eql t15_6 (.int .i64 0)) fun t16_7=>
 ixW (cnt 2 (nxc k2 0)) (nx x1 1) fun t17_8=>
 stc (nxc k2 0) [] ((AA t17_8)*2) t16_7 fun k9=>
 prP (bnI .add (nx x1 0) (.int .i64 1)) fun t20_10=>
 ixW (cnt 2 k9) (nx x1 1) fun t24_11=>
 stc k9 [] (((AA t24_11)*2)+1) t20_10 fun k12=>
 prP (bnI .add t20_10 (.int .i64 1)) fun t27_13=>
 prP (bnI .add (nx x1 1) (.int .i64 1)) fun t11_14=>
 r3 [t27_13,t11_14] [k12]) (
 K [(nx x1 0)] [(nxc k2 0)])) [a0,(.int .i64 0)] [c0]
theorem EB.cl2 {w0:World} {a0:Value} {c0:List T} {K:J2} (h:EB.txt ⟨Try.prog,w0⟩ a0 c0 K):Eng.cl2 ⟨Try.prog,w0⟩ 89 EB.sg [a0] [c0] K:=
 AE (C:=⟨Try.prog,w0⟩) (f:=89) (fn:=Try.f89) [] [] [(26,⟨[.t (.j 0) 2, .v, .v],[.t (.j 0) 2],[.ls]⟩)] Try.func89 (by kernel_rfl) (by kernel_rfl) (by kernel_rfl) h
def CD.sg:Sg:=⟨[(0,[.v])],[(0,[.v])],[]⟩
def CD.txt (C:Ctx) (a0:Value) (K:J2):Prop:=
 prP (bnI .leq a0 (.int .i64 0)) fun t5_1=>
 AU t5_1 (
 K [(.string {data:= #[109,48]})] []) (
 BD (fun r4 x2 k3=>
 prP (bnI .gtr (nx x2 0) (.int .i64 0)) fun t7_6=>
 AU t7_6 (
 prP (bnI .rem (nx x2 0) (.int .i64 10)) fun t9_7=>
 prP (bnI .add (.int .i64 48) t9_7) fun t10_8=>
 prP (cvI .u8 t10_8) fun t11_9=>
 prP (b2T [T.c t11_9]) fun t13_10=>
 prP (bnS .add t13_10 (nx x2 1)) fun t15_11=>
 prP (bnI .quo (nx x2 0) (.int .i64 10)) fun t17_12=>
 r4 [t17_12,t15_11] []) (
 prP (bnS .add (.string {data:= #[109]}) (nx x2 1)) fun t19_13=>
 K [t19_13] [])) [a0,(.string {data:= #[]})] [])
theorem CD.cl2 {w0:World} {a0:Value} {K:J2} (h:CD.txt ⟨Try.prog,w0⟩ a0 K):Eng.cl2 ⟨Try.prog,w0⟩ 107 CD.sg [a0] [] K:=
 AE (C:=⟨Try.prog,w0⟩) (f:=107) (fn:=Try.f107) [] [] [(60,⟨[.v, .v],[],[]⟩)] Try.func107 (by kernel_rfl) (by kernel_rfl) (by kernel_rfl) h
def CV.sg:Sg:=⟨[(0,[.t 1 1]),(0,[.v])],[(0,[.v])],[]⟩
def CV.txt (C:Ctx) (a0:Value) (c0:List T) (K:J2):Prop:=
 BD (fun r3 x1 k2=>
 prP (bnI .lss (nx x1 1) (iv (cnt 1 (nxc k2 0)))) fun t9_5=>
 AU t9_5 (
 cl2 C 107 CD.sg [(nx x1 0)] [] fun v6 d7=>
 ixW (cnt 1 (nxc k2 0)) (nx x1 1) fun t16_9=>
 stc (nxc k2 0) [] ((AA t16_9)*1) (nx v6 0) fun k10=>
 prP (bnI .add (nx x1 0) (.int .i64 1)) fun t18_11=>
 prP (bnI .add (nx x1 1) (.int .i64 1)) fun t11_12=>
 r3 [t18_11,t11_12] [k10]) (
 K [(nx x1 0)] [(nxc k2 0)])) [a0,(.int .i64 0)] [c0]
theorem CV.cl2 {w0:World} {a0:Value} {c0:List T} {K:J2} (h:CV.txt ⟨Try.prog,w0⟩ a0 c0 K):Eng.cl2 ⟨Try.prog,w0⟩ 90 CV.sg [a0] [c0] K:=
 AE (C:=⟨Try.prog,w0⟩) (f:=90) (fn:=Try.f90) [(107,CD.sg)] [] [(26,⟨[.t (.j 0) 1, .v, .v],[.t (.j 0) 1],[.ls]⟩)] Try.func90 (by kernel_rfl) (by kernel_rfl) (by kernel_rfl) h
def ET.sg:Sg:=⟨[(1,[.t 8 1, .t 2 1, .t 1 1, .t 1 1]),(0,[.v])],[(0,[.v])],[]⟩
def ET.txt (C:Ctx) (a0:Value) (c0 c1 c2 c3:List T) (K:J2):Prop:=
 cl2 C 88 ER.sg [a0] [c0] fun v1 d2=>
 cl2 C 89 EB.sg [(nx v1 0)] [c1] fun v3 d4=>
 cl2 C 20 CL.sg [(nx v3 0)] [c2] fun v5 d6=>
 cl2 C 90 CV.sg [(nx v5 0)] [c3] fun v7 d8=>
 K [(nx v7 0)] [(nxc d2 0),(nxc d4 0),(nxc d6 0),(nxc d8 0)]
theorem ET.cl2 {w0:World} {a0:Value} {c0 c1 c2 c3:List T} {K:J2} (h:ET.txt ⟨Try.prog,w0⟩ a0 c0 c1 c2 c3 K):Eng.cl2 ⟨Try.prog,w0⟩ 19 ET.sg [a0] [c0,c1,c2,c3] K:=
 AE (C:=⟨Try.prog,w0⟩) (f:=19) (fn:=Try.f19) [(88,ER.sg),(89,EB.sg),(20,CL.sg),(90,CV.sg)] [] [] Try.func19 (by kernel_rfl) (by kernel_rfl) (by kernel_rfl) h
def CY.sg:Sg:=⟨[(0,[.t 1 0]),(0,[.v])],[(0,[.v])],[]⟩
def CY.txt (C:Ctx) (a0:Value) (c0:List T) (K:J2):Prop:=
 BD (fun r3 x1 k2=>
 prP (bnI .lss (nx x1 1) (iv (cnt 1 c0))) fun t9_5=>
 AU t9_5 (
 ixW (cnt 1 c0) (nx x1 1) fun t14_6=>
 ldc c0 [] ((AA t14_6)*1) fun t15_7=>
 prP (bnI .neq t15_7 (nx x1 0)) fun t17_8=>
 AU t17_8 (
 K [(.int .i64 (-1))] []) (
 prP (bnI .add (nx x1 0) (.int .i64 1)) fun t19_9=>
 prP (bnI .add (nx x1 1) (.int .i64 1)) fun t11_10=>
 r3 [t19_9,t11_10] [])) (
 K [(nx x1 0)] [])) [a0,(.int .i64 0)] []
theorem CY.cl2 {w0:World} {a0:Value} {c0:List T} {K:J2} (h:CY.txt ⟨Try.prog,w0⟩ a0 c0 K):Eng.cl2 ⟨Try.prog,w0⟩ 21 CY.sg [a0] [c0] K:=
 AE (C:=⟨Try.prog,w0⟩) (f:=21) (fn:=Try.f21) [] [] [(26,⟨[.t (.f 0) 1, .v, .v],[],[]⟩)] Try.func21 (by kernel_rfl) (by kernel_rfl) (by kernel_rfl) h
def BQ.sg:Sg:=⟨[(1,[.t 8 0, .t 2 0, .t 1 0, .t 1 0]),(0,[.v])],[(0,[.v])],[]⟩
def BQ.txt (C:Ctx) (a0:Value) (c0 c1 c2 c3:List T) (K:J2):Prop:=
 prP (bnI .lss a0 (.int .i64 8)) fun t7_1=>
 gE t7_1 (
 gE t7_1 (
 gE t7_1 (
 gP t7_1 false (prP (bnI .neq (iv (cnt 8 c0)) (.int .i64 8))) fun t12_2=>
 prP (pk t7_1 (.bool true) t12_2) fun t13_3=>
 AU t13_3 (
 K [(.int .i64 (-1))] []) (
 prP (bnI .rem a0 (.int .i64 8)) fun t15_4=>
 ixW (cnt 8 c0) t15_4 fun t19_5=>
 ldc c0 [] ((AA t19_5)*8) fun t21_6=>
 prP (un .not t21_6) fun t22_7=>
 gE t22_7 (
 gE t22_7 (
 gE t22_7 (
 gP t22_7 false (ixW (cnt 8 c0) t15_4) fun t27_8=>
 gE t22_7 (
 gP t22_7 false (ldc c0 [] (((AA t27_8)*8)+1)) fun t29_9=>
 gE t22_7 (
 gP t22_7 false (prP (bnI .quo a0 (.int .i64 8))) fun t31_10=>
 gP t22_7 false (prP (bnI .neq t29_9 t31_10)) fun t32_11=>
 prP (pk t22_7 (.bool true) t32_11) fun t33_12=>
 AU t33_12 (
 K [(.int .i64 (-1))] []) (
 K [t15_4] []))))))))))
theorem BQ.cl2 {w0:World} {a0:Value} {c0 c1 c2 c3:List T} {K:J2} (h:BQ.txt ⟨Try.prog,w0⟩ a0 c0 c1 c2 c3 K):Eng.cl2 ⟨Try.prog,w0⟩ 91 BQ.sg [a0] [c0,c1,c2,c3] K:=
 AE (C:=⟨Try.prog,w0⟩) (f:=91) (fn:=Try.f91) [] [] [] Try.func91 (by kernel_rfl) (by kernel_rfl) (by kernel_rfl) h
def BV.sg:Sg:=⟨[(1,[.t 8 0, .t 2 0, .t 1 0, .t 1 0]),(0,[.v])],[(0,[.v])],[]⟩
def BV.txt (C:Ctx) (a0:Value) (c0 c1 c2 c3:List T) (K:J2):Prop:=
 prP (bnI .lss a0 (.int .i64 8)) fun t8_1=>
 gE t8_1 (
 gE t8_1 (
 gE t8_1 (
 gP t8_1 false (prP (bnI .neq (iv (cnt 8 c0)) (.int .i64 8))) fun t13_2=>
 prP (pk t8_1 (.bool true) t13_2) fun t14_3=>
 AU t14_3 (
 K [(.int .i64 (-1))] []) (
 prP (bnI .rem a0 (.int .i64 8)) fun t16_4=>
 ixW (cnt 8 c0) t16_4 fun t20_5=>
 ldg c0 [] ((AA t20_5)*8) [.c, .c, .c, .c, .c, .c, .l 1, .c] fun ts6=>
 prP (un .not (tv (nxT ts6 0))) fun t24_7=>
 gE t24_7 (
 gE t24_7 (
 gE t24_7 (
 gP t24_7 false (prP (bnI .quo a0 (.int .i64 8))) fun t29_8=>
 gP t24_7 false (prP (bnI .neq (tv (nxT ts6 1)) t29_8)) fun t30_9=>
 prP (pk t24_7 (.bool true) t30_9) fun t31_10=>
 AU t31_10 (
 K [(.int .i64 (-1))] []) (
 K [t16_4] []))))))))
theorem BV.cl2 {w0:World} {a0:Value} {c0 c1 c2 c3:List T} {K:J2} (h:BV.txt ⟨Try.prog,w0⟩ a0 c0 c1 c2 c3 K):Eng.cl2 ⟨Try.prog,w0⟩ 92 BV.sg [a0] [c0,c1,c2,c3] K:=
 AE (C:=⟨Try.prog,w0⟩) (f:=92) (fn:=Try.f92) [] [] [] Try.func92 (by kernel_rfl) (by kernel_rfl) (by kernel_rfl) h
def ID.sg:Sg:=⟨[(1,[.v, .v, .v, .v, .v]),(0,[.v])],[(0,[.v])],[]⟩
def ID.txt (C:Ctx) (a0 a1 a2 a3 a4 a5:Value) (K:J2):Prop:=
 prP (lnS a4) fun t8_1=>
 prP (bnI .sub a5 t8_1) fun t9_2=>
 prP (bnI .lss t9_2 (.int .i64 0)) fun t11_3=>
 AU t11_3 (
 K [(.int .i64 (-1))] []) (
 K [t9_2] [])
theorem ID.cl2 {w0:World} {a0 a1 a2 a3 a4 a5:Value} {K:J2} (h:ID.txt ⟨Try.prog,w0⟩ a0 a1 a2 a3 a4 a5 K):Eng.cl2 ⟨Try.prog,w0⟩ 61 ID.sg [a0,a1,a2,a3,a4,a5] [] K:=
 AE (C:=⟨Try.prog,w0⟩) (f:=61) (fn:=Try.f61) [] [] [] Try.func61 (by kernel_rfl) (by kernel_rfl) (by kernel_rfl) h
def HM.sg:Sg:=⟨[(0,[.t 5 0]),(0,[.v])],[(0,[.v])],[]⟩
def HM.txt (C:Ctx) (a0:Value) (c0:List T) (K:J2):Prop:=
 prP (bnI .sub a0 (iv (cnt 5 c0))) fun t9_1=>
 prP (bnI .lss t9_1 (.int .i64 0)) fun t11_2=>
 AU t11_2 (
 K [(.int .i64 (-1))] []) (
 BD (fun r5 x3 k4=>
 prP (bnI .lss (nx x3 1) (iv (cnt 5 c0))) fun t15_7=>
 AU t15_7 (
 ixW (cnt 5 c0) (nx x3 1) fun t20_8=>
 ldg c0 [] ((AA t20_8)*5) [.c, .c, .c, .c, .c] fun ts9=>
 cl2 C 61 ID.sg [(tv (nxT ts9 0)),(tv (nxT ts9 1)),(tv (nxT ts9 2)),(tv (nxT ts9 3)),(tv (nxT ts9 4)),(nx x3 0)] [] fun v10 d11=>
 prP (bnI .lss (nx v10 0) (.int .i64 0)) fun t25_13=>
 AU t25_13 (
 K [(.int .i64 (-1))] []) (
 prP (bnI .add (nx x3 1) (.int .i64 1)) fun t17_14=>
 r5 [(nx v10 0),t17_14] [])) (
 K [(nx x3 0)] [])) [t9_1,(.int .i64 0)] [])
theorem HM.cl2 {w0:World} {a0:Value} {c0:List T} {K:J2} (h:HM.txt ⟨Try.prog,w0⟩ a0 c0 K):Eng.cl2 ⟨Try.prog,w0⟩ 24 HM.sg [a0] [c0] K:=
 AE (C:=⟨Try.prog,w0⟩) (f:=24) (fn:=Try.f24) [(61,ID.sg)] [] [(122,⟨[.t (.f 0) 5, .v, .v],[],[]⟩)] Try.func24 (by kernel_rfl) (by kernel_rfl) (by kernel_rfl) h
def I8.sg:Sg:=⟨[(1,[.v, .v, .v, .v, .v])],[(1,[.v, .v, .v, .v, .v])],[]⟩
def I8.txt (C:Ctx) (a0 a1 a2 a3 a4:Value) (K:J2):Prop:=
 K [a0,a1,a2,a3,a4] []
theorem I8.cl2 {w0:World} {a0 a1 a2 a3 a4:Value} {K:J2} (h:I8.txt ⟨Try.prog,w0⟩ a0 a1 a2 a3 a4 K):Eng.cl2 ⟨Try.prog,w0⟩ 63 I8.sg [a0,a1,a2,a3,a4] [] K:=
 AE (C:=⟨Try.prog,w0⟩) (f:=63) (fn:=Try.f63) [] [] [] Try.func63 (by kernel_rfl) (by kernel_rfl) (by kernel_rfl) h
def FO.sg:Sg:=⟨[(0,[.t 5 0])],[(0,[.t 5])],[]⟩
def FO.txt (C:Ctx) (c0:List T) (K:J2):Prop:=
 mkW 48 (iv (cnt 5 c0)) (iv (cnt 5 c0)) fun n1=>
 BD (fun r4 x2 k3=>
 prP (bnI .lss (nx x2 0) (iv (cnt 5 c0))) fun t11_6=>
 AU t11_6 (
 ixW (cnt 5 c0) (nx x2 0) fun t18_7=>
 ldg c0 [] ((AA t18_7)*5) [.c, .c, .c, .c, .c] fun ts8=>
 cl2 C 63 I8.sg [(tv (nxT ts8 0)),(tv (nxT ts8 1)),(tv (nxT ts8 2)),(tv (nxT ts8 3)),(tv (nxT ts8 4))] [] fun v9 d10=>
 ixW (cnt 5 (nxc k3 0)) (nx x2 0) fun t21_11=>
 stg (nxc k3 0) [] ((AA t21_11)*5) [T.c (nx v9 0),T.c (nx v9 1),T.c (nx v9 2),T.c (nx v9 3),T.c (nx v9 4)] fun k12=>
 prP (bnI .add (nx x2 0) (.int .i64 1)) fun t13_13=>
 r4 [t13_13] [k12]) (
 K [] [(nxc k3 0)])) [(.int .i64 0)] [(QM (AA n1) [T.c (.int .i64 0),T.c (.int .i64 0),T.c (.int .i64 0),T.c (.int .i64 0),T.c (.string {data:= #[]})])]
theorem FO.cl2 {w0:World} {c0:List T} {K:J2} (h:FO.txt ⟨Try.prog,w0⟩ c0 K):Eng.cl2 ⟨Try.prog,w0⟩ 27 FO.sg [] [c0] K:=
 AE (C:=⟨Try.prog,w0⟩) (f:=27) (fn:=Try.f27) [(63,I8.sg)] [] [(58,⟨[.t (.f 0) 5, .t (.j 0) 5, .v],[],[.ls]⟩)] Try.func27 (by kernel_rfl) (by kernel_rfl) (by kernel_rfl) h
end Go.Proofs.Ytnhicpkhkaihoaa.P
