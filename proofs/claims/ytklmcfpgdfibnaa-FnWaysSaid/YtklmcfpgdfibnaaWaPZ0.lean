/- A part of the proof. -/
import Derived.Test.YtklmcfpgdfibnaaChecked
import Derived.Test.YtklmcfpgdfibnaaWaEngM5
import Derived.KernelRfl
namespace Go.Proofs.Ytklmcfpgdfibnaa.P
open Go Go.Proofs.Ytklmcfpgdfibnaa Go.Proofs.Ytklmcfpgdfibnaa.Eng
set_option linter.unusedVariables false
set_option maxRecDepth 100000
def IM.sg:Sg:=⟨[(0,[.t 1 0])],[(0,[.v])],[]⟩
def IM.txt (C:Ctx) (c0:List T) (K:J2):Prop:=
 prP (bnI .gtr (iv (cnt 1 c0)) (.int .i64 1048576)) fun t5_1=>
 K [t5_1] []
theorem IM.cl2 {w0:World} {c0:List T} {K:J2} (h:IM.txt ⟨Try.prog,w0⟩ c0 K):Eng.cl2 ⟨Try.prog,w0⟩ 17 IM.sg [] [c0] K:=
 AY (C:=⟨Try.prog,w0⟩) (f:=17) (fn:=Try.f17) [] [] [] Try.func17 (by kernel_rfl) (by kernel_rfl) (by kernel_rfl) h
def GS.sg:Sg:=⟨[(0,[.t 1 0])],[(2,[.a 0, .v, .v])],[]⟩
def GS.txt (C:Ctx) (c0:List T) (K:J2):Prop:=
 prP (bnI .add (.int .i64 10101) (iv (cnt 1 c0))) fun t7_1=>
 BE (fun r4 x2 k3=>
 prP (bnI .lss (nx x2 1) (iv (cnt 1 c0))) fun t11_6=>
 gE t11_6 (
 gP t11_6 true (prP (bnI .lss (nx x2 1) (.int .i64 4000))) fun t14_7=>
 prP (pk t11_6 t14_7 (.bool false)) fun t15_8=>
 AX t15_8 (
 prP (bnI .mul (nx x2 0) (.int .i64 131)) fun t19_9=>
 ixW (cnt 1 c0) (nx x2 1) fun t22_10=>
 ldc c0 [] ((AD t22_10)*1) fun t23_11=>
 prP (cvI .i64 t23_11) fun t24_12=>
 prP (bnI .add t19_9 t24_12) fun t25_13=>
 prP (bnI .add t25_13 (.int .i64 7)) fun t26_14=>
 prP (bnI .and t26_14 (.int .i64 1073741823)) fun t27_15=>
 prP (bnI .add (nx x2 1) (.int .i64 1)) fun t17_16=>
 r4 [t27_15,t17_16] []) (
 K [(.int .i64 0),(nx x2 0)] []))) [t7_1,(.int .i64 0)] []
theorem GS.cl2 {w0:World} {c0:List T} {K:J2} (h:GS.txt ⟨Try.prog,w0⟩ c0 K):Eng.cl2 ⟨Try.prog,w0⟩ 85 GS.sg [] [c0] K:=
 AY (C:=⟨Try.prog,w0⟩) (f:=85) (fn:=Try.f85) [] [] [(58,⟨[.t (.f 0) 1, .v, .v],[.t (.f 0) 1],[]⟩)] Try.func85 (by kernel_rfl) (by kernel_rfl) (by kernel_rfl) h
def C0.sg:Sg:=⟨[],[(0,[.t 1])],[]⟩
def C0.txt (C:Ctx) (K:J2):Prop:=
 BE (fun r3 x1 k2=>
 prP (bnI .lss (nx x1 0) (.int .i64 3)) fun t5_5=>
 AX t5_5 (
 apW [T.c (.int .i64 (-1))] true (cnt 1 (nxc k2 0)) (cnt 1 [T.c (.int .i64 (-1))]) 8 (
 prP (bnI .add (nx x1 0) (.int .i64 1)) fun t7_6=>
 r3 [t7_6] [((nxc k2 0)++[T.c (.int .i64 (-1))])])) (
 K [] [(nxc k2 0)])) [(.int .i64 0)] [[]]
theorem C0.cl2 {w0:World} {K:J2} (h:C0.txt ⟨Try.prog,w0⟩ K):Eng.cl2 ⟨Try.prog,w0⟩ 121 C0.sg [] [] K:=
 AY (C:=⟨Try.prog,w0⟩) (f:=121) (fn:=Try.f121) [] [] [(58,⟨[.t (.j 0) 1, .v],[],[.ls]⟩)] Try.func121 (by kernel_rfl) (by kernel_rfl) (by kernel_rfl) h
def DQ.sg:Sg:=⟨[],[(1,[.t 8, .t 2, .t 1, .t 1])],[]⟩
def DQ.txt (C:Ctx) (K:J2):Prop:=
 mkW 80 (.int .i64 8) (.int .i64 8) fun n1=>
 mkW 16 (.int .i64 8) (.int .i64 8) fun n2=>
 BE (fun r5 x3 k4=>
 prP (bnI .lss (nx x3 0) (iv (cnt 8 (nxc k4 0)))) fun t10_7=>
 AX t10_7 (
 cl2 C 121 C0.sg [] [] fun v8 d9=>
 ixW (cnt 8 (nxc k4 0)) (nx x3 0) fun t17_10=>
 stg (nxc k4 0) [] (((AD t17_10)*8)+6) [T.l 1 (nxc d9 0)] fun k11=>
 prP (bnI .add (nx x3 0) (.int .i64 1)) fun t12_12=>
 r5 [t12_12] [k11,(nxc k4 1)]) (
 K [] [(nxc k4 0),(nxc k4 1),[],[]])) [(.int .i64 0)] [(PO (AD n1) [T.c (.bool false),T.c (.int .i64 0),T.c (.int .i64 0),T.c (.int .i64 0),T.c (.int .i64 0),T.c (.int .i64 0),T.l 1 [],T.c (.bool false)]),(PO (AD n2) [T.c (.bool false),T.c (.int .i64 0)])]
theorem DQ.cl2 {w0:World} {K:J2} (h:DQ.txt ⟨Try.prog,w0⟩ K):Eng.cl2 ⟨Try.prog,w0⟩ 74 DQ.sg [] [] K:=
 AY (C:=⟨Try.prog,w0⟩) (f:=74) (fn:=Try.f74) [(121,C0.sg)] [(1,[0,0,3,0,15]),(5,[0,1,0,0,15,31,63])] [(58,⟨[.p (.j 0) 0, .p (.j 1) 0, .v],[],[.bx [.z, .z, .z, .z], .bx [.t (.j 2) 8, .t (.j 3) 2, .z, .z], .ls, .ls]⟩)] Try.func74 (by kernel_rfl) (by kernel_rfl) (by kernel_rfl) h
def DJ.sg:Sg:=⟨[(2,[.t 1 0, .v, .v])],[(0,[.v])],[[.a 0, .v, .v]]⟩
def DJ.txt (C:Ctx) (a0 a1:Value) (c0:List T) (K:J2):Prop:=
 prP (bnI .mul a1 (.int .i64 6364136223846793005)) fun t9_1=>
 prP (bnI .add t9_1 (.int .i64 1442695040888963407)) fun t10_2=>
 prP (bnI .shr t10_2 (.int .u64 33)) fun t17_3=>
 prP (bnI .shr t10_2 (.int .u64 45)) fun t22_4=>
 prP (bnI .xor t17_3 t22_4) fun t23_5=>
 prP (bnI .and t23_5 (.int .i64 255)) fun t24_6=>
 BK (fun x8 k9=>
 K [(nx x8 0),(nx x8 1),(nx x8 2)] []) fun j10=>
 prP (bnI .lss a0 (iv (cnt 1 c0))) fun t34_11=>
 AX t34_11 (
 ixW (cnt 1 c0) a0 fun t44_12=>
 ldc c0 [] ((AD t44_12)*1) fun t45_13=>
 prP (cvI .i64 t45_13) fun t46_14=>
 prP (bnI .add t24_6 t46_14) fun t47_15=>
 prP (bnI .and t47_15 (.int .i64 255)) fun t48_16=>
 prP (bnI .add a0 (.int .i64 1)) fun t54_17=>
 j10 [t48_16,t54_17,t10_2] []) (
 j10 [t24_6,a0,t10_2] [])
theorem DJ.cl2 {w0:World} {a0 a1:Value} {c0:List T} {K:J2} (h:DJ.txt ⟨Try.prog,w0⟩ a0 a1 c0 K):Eng.cl2 ⟨Try.prog,w0⟩ 151 DJ.sg [a0,a1] [c0] K:=
 AY (C:=⟨Try.prog,w0⟩) (f:=151) (fn:=Try.f151) [] [(2,[0,1,3,7,15,0,32,96,224,480,1023,2047,4095]),(3,[0,1,3,7,0,16,48,112,240,511]),(4,[0,0,2,6,14,0,32,96,224,510,1022,2046,4095,8191,16383])] [(15,⟨[.v],[.p (.j 0) 0, .t (.f 0) 1],[.bx [.t (.f 0) 1, .v, .v]]⟩)] Try.func151 (by kernel_rfl) (by kernel_rfl) (by kernel_rfl) h
def BU.sg:Sg:=⟨[(2,[.t 1 0, .v, .v]),(0,[.v])],[(0,[.v])],[[.a 0, .v, .v]]⟩
def BU.txt (C:Ctx) (a0 a1 a2:Value) (c0:List T) (K:J2):Prop:=
 prP (bnI .leq a2 (.int .i64 0)) fun t10_1=>
 AX t10_1 (
 K [(.int .i64 0),a0,a1] []) (
 prP (bnI .leq a2 (.int .i64 256)) fun t12_2=>
 AX t12_2 (
 cl2 C 151 DJ.sg [a0,a1] [c0] fun v3 d4=>
 prP (bnI .rem (nx v3 0) a2) fun t16_5=>
 K [t16_5,(nx v3 1),(nx v3 2)] []) (
 cl2 C 151 DJ.sg [a0,a1] [c0] fun v6 d7=>
 cl2 C 151 DJ.sg [(nx v6 1),(nx v6 2)] [c0] fun v8 d9=>
 cl2 C 151 DJ.sg [(nx v8 1),(nx v8 2)] [c0] fun v10 d11=>
 cl2 C 151 DJ.sg [(nx v10 1),(nx v10 2)] [c0] fun v12 d13=>
 prP (bnI .mul (nx v6 0) (.int .i64 16777216)) fun t26_14=>
 prP (bnI .mul (nx v8 0) (.int .i64 65536)) fun t28_15=>
 prP (bnI .add t26_14 t28_15) fun t29_16=>
 prP (bnI .mul (nx v10 0) (.int .i64 256)) fun t31_17=>
 prP (bnI .add t29_16 t31_17) fun t32_18=>
 prP (bnI .add t32_18 (nx v12 0)) fun t34_19=>
 prP (bnI .rem t34_19 a2) fun t36_20=>
 K [t36_20,(nx v12 1),(nx v12 2)] []))
theorem BU.cl2 {w0:World} {a0 a1 a2:Value} {c0:List T} {K:J2} (h:BU.txt ⟨Try.prog,w0⟩ a0 a1 a2 c0 K):Eng.cl2 ⟨Try.prog,w0⟩ 112 BU.sg [a0,a1,a2] [c0] K:=
 AY (C:=⟨Try.prog,w0⟩) (f:=112) (fn:=Try.f112) [(151,DJ.sg)] [] [] Try.func112 (by kernel_rfl) (by kernel_rfl) (by kernel_rfl) h
def BZ.sg:Sg:=⟨[(2,[.t 1 0, .v, .v]),(0,[.t 1 0])],[(0,[.v])],[[.a 0, .v, .v]]⟩
def BZ.txt (C:Ctx) (a0 a1:Value) (c0 c1:List T) (K:J2):Prop:=
 cl2 C 112 BU.sg [a0,a1,(iv (cnt 1 c1))] [c0] fun v1 d2=>
 ixW (cnt 1 c1) (nx v1 0) fun t10_3=>
 ldc c1 [] ((AD t10_3)*1) fun t11_4=>
 K [t11_4,(nx v1 1),(nx v1 2)] []
theorem BZ.cl2 {w0:World} {a0 a1:Value} {c0 c1:List T} {K:J2} (h:BZ.txt ⟨Try.prog,w0⟩ a0 a1 c0 c1 K):Eng.cl2 ⟨Try.prog,w0⟩ 140 BZ.sg [a0,a1] [c0,c1] K:=
 AY (C:=⟨Try.prog,w0⟩) (f:=140) (fn:=Try.f140) [(112,BU.sg)] [] [] Try.func140 (by kernel_rfl) (by kernel_rfl) (by kernel_rfl) h
def DG.sg:Sg:=⟨[(2,[.t 1 0, .v, .v]),(0,[.t 1 0])],[(0,[.v])],[[.a 0, .v, .v]]⟩
def DG.txt (C:Ctx) (a0 a1:Value) (c0 c1:List T) (K:J2):Prop:=
 cl2 C 112 BU.sg [a0,a1,(iv (cnt 1 c1))] [c0] fun v1 d2=>
 ixW (cnt 1 c1) (nx v1 0) fun t10_3=>
 ldc c1 [] ((AD t10_3)*1) fun t11_4=>
 K [t11_4,(nx v1 1),(nx v1 2)] []
theorem DG.cl2 {w0:World} {a0 a1:Value} {c0 c1:List T} {K:J2} (h:DG.txt ⟨Try.prog,w0⟩ a0 a1 c0 c1 K):Eng.cl2 ⟨Try.prog,w0⟩ 139 DG.sg [a0,a1] [c0,c1] K:=
 AY (C:=⟨Try.prog,w0⟩) (f:=139) (fn:=Try.f139) [(112,BU.sg)] [] [] Try.func139 (by kernel_rfl) (by kernel_rfl) (by kernel_rfl) h
def B7.sg:Sg:=⟨[(0,[.v]),(0,[.v]),(0,[.v])],[(0,[.v])],[]⟩
def B7.txt (C:Ctx) (a0 a1 a2:Value) (K:J2):Prop:=
 prP (bnI .geq a0 a1) fun t9_1=>
 gE t9_1 (
 gE t9_1 (
 gP t9_1 true (prP (bnI .leq a0 a2)) fun t13_2=>
 prP (pk t9_1 t13_2 (.bool false)) fun t14_3=>
 K [t14_3] []))
theorem B7.cl2 {w0:World} {a0 a1 a2:Value} {K:J2} (h:B7.txt ⟨Try.prog,w0⟩ a0 a1 a2 K):Eng.cl2 ⟨Try.prog,w0⟩ 87 B7.sg [a0,a1,a2] [] K:=
 AY (C:=⟨Try.prog,w0⟩) (f:=87) (fn:=Try.f87) [] [] [] Try.func87 (by kernel_rfl) (by kernel_rfl) (by kernel_rfl) h
def CU.sg:Sg:=⟨[(0,[.v]),(0,[.v])],[(0,[.v])],[]⟩
def CU.txt (C:Ctx) (a0 a1:Value) (K:J2):Prop:=
 cl2 C 87 B7.sg [a0,(.int .i64 0),(.int .i64 7)] [] fun v1 d2=>
 prP (un .not (nx v1 0)) fun t7_4=>
 gE t7_4 (
 gP t7_4 false ((fun K=>cl2 C 87 B7.sg [a1,(.int .i64 1),(.int .i64 999)] [] fun v5 d6=>K (nx v5 0))) fun t10_7=>
 gP t7_4 false (prP (un .not t10_7)) fun t11_8=>
 prP (pk t7_4 (.bool true) t11_8) fun t12_9=>
 AX t12_9 (
 K [(.int .i64 (-1))] []) (
 prP (bnI .mul (.int .i64 8) a1) fun t15_10=>
 prP (bnI .add a0 t15_10) fun t16_11=>
 K [t16_11] []))
theorem CU.cl2 {w0:World} {a0 a1:Value} {K:J2} (h:CU.txt ⟨Try.prog,w0⟩ a0 a1 K):Eng.cl2 ⟨Try.prog,w0⟩ 61 CU.sg [a0,a1] [] K:=
 AY (C:=⟨Try.prog,w0⟩) (f:=61) (fn:=Try.f61) [(87,B7.sg)] [] [] Try.func61 (by kernel_rfl) (by kernel_rfl) (by kernel_rfl) h
def CM.sg:Sg:=⟨[(1,[.t 8 0, .t 2 0, .t 1 0, .t 1 0])],[(0,[.t 1])],[]⟩
def CM.txt (C:Ctx) (c0 c1 c2 c3:List T) (K:J2):Prop:=
 BE (fun r3 x1 k2=>
 prP (bnI .lss (nx x1 0) (iv (cnt 8 c0))) fun t10_5=>
 gE t10_5 (
 gP t10_5 true (prP (bnI .lss (nx x1 0) (.int .i64 8))) fun t13_6=>
 prP (pk t10_5 t13_6 (.bool false)) fun t14_7=>
 AX t14_7 (
 BK (fun x9 k10=>
 prP (bnI .add (nx x9 0) (.int .i64 1)) fun t16_19=>
 r3 [t16_19] [(nxc k10 0)]) fun j11=>
 ixW (cnt 8 c0) (nx x1 0) fun t20_12=>
 ldc c0 [] ((AD t20_12)*8) fun t22_13=>
 AX t22_13 (
 ixW (cnt 8 c0) (nx x1 0) fun t28_14=>
 ldc c0 [] (((AD t28_14)*8)+1) fun t30_15=>
 cl2 C 61 CU.sg [(nx x1 0),t30_15] [] fun v16 d17=>
 apW [T.c (nx v16 0)] true (cnt 1 (nxc k2 0)) (cnt 1 [T.c (nx v16 0)]) 8 (
 j11 [(nx x1 0)] [((nxc k2 0)++[T.c (nx v16 0)])])) (
 j11 [(nx x1 0)] [(nxc k2 0)])) (
 K [] [(nxc k2 0)]))) [(.int .i64 0)] [[]]
theorem CM.cl2 {w0:World} {c0 c1 c2 c3:List T} {K:J2} (h:CM.txt ⟨Try.prog,w0⟩ c0 c1 c2 c3 K):Eng.cl2 ⟨Try.prog,w0⟩ 30 CM.sg [] [c0,c1,c2,c3] K:=
 AY (C:=⟨Try.prog,w0⟩) (f:=30) (fn:=Try.f30) [(61,CU.sg)] [] [(233,⟨[.p (.j 0) 0, .t (.j 1) 1, .v],[],[.bx [.t (.f 0) 8, .t (.f 1) 2, .t (.f 2) 1, .t (.f 3) 1], .ls]⟩),(58,⟨[.p (.j 0) 0, .t (.j 1) 1, .v],[],[.bx [.t (.f 0) 8, .t (.f 1) 2, .t (.f 2) 1, .t (.f 3) 1], .ls]⟩)] Try.func30 (by kernel_rfl) (by kernel_rfl) (by kernel_rfl) h
def DT.sg:Sg:=⟨[(2,[.t 1 0, .v, .v]),(0,[.v])],[(0,[.v])],[[.a 0, .v, .v]]⟩
def DT.txt (C:Ctx) (a0 a1 a2:Value) (c0:List T) (K:J2):Prop:=
 cl2 C 112 BU.sg [a0,a1,a2] [c0] fun v1 d2=>
 prP (bnI .eql (nx v1 0) (.int .i64 0)) fun t8_3=>
 K [t8_3,(nx v1 1),(nx v1 2)] []
theorem DT.cl2 {w0:World} {a0 a1 a2:Value} {c0:List T} {K:J2} (h:DT.txt ⟨Try.prog,w0⟩ a0 a1 a2 c0 K):Eng.cl2 ⟨Try.prog,w0⟩ 95 DT.sg [a0,a1,a2] [c0] K:=
 AY (C:=⟨Try.prog,w0⟩) (f:=95) (fn:=Try.f95) [(112,BU.sg)] [] [] Try.func95 (by kernel_rfl) (by kernel_rfl) (by kernel_rfl) h
def FB.sg:Sg:=⟨[(2,[.t 1 0, .v, .v]),(1,[.t 8 0, .t 2 0, .t 1 0, .t 1 0])],[(0,[.v])],[[.a 0, .v, .v]]⟩
def FB.txt (C:Ctx) (a0 a1:Value) (c0 c1 c2 c3 c4:List T) (K:J2):Prop:=
 cl2 C 30 CM.sg [] [c1,c2,c3,c4] fun v1 d2=>
 prP (bnI .eql (iv (cnt 1 (nxc d2 0))) (.int .i64 0)) fun t10_3=>
 gE t10_3 (
 gF t10_3 false (
 cl2 C 95 DT.sg [a0,a1,(.int .i64 16)] [c0] fun v4 d5=>
 prP (pk t10_3 (.bool true) (nx v4 0)) fun t14_6=>
 AX t14_6 (
 cl2 C 140 BZ.sg [(nx v4 1),(nx v4 2)] [c0,[T.c (.int .i64 (-1)),T.c (.int .i64 0),T.c (.int .i64 8),T.c (.int .i64 9),T.c (.int .i64 17),T.c (.int .i64 4000)]] fun v7 d8=>
 K [(nx v7 0),(nx v7 1),(nx v7 2)] []) (
 cl2 C 112 BU.sg [(nx v4 1),(nx v4 2),(iv (cnt 1 (nxc d2 0)))] [c0] fun v9 d10=>
 ixW (cnt 1 (nxc d2 0)) (nx v9 0) fun t23_11=>
 ldc (nxc d2 0) [] ((AD t23_11)*1) fun t24_12=>
 K [t24_12,(nx v9 1),(nx v9 2)] [])) (
 prP (pk t10_3 (.bool true) undef) fun t14_13=>
 AX t14_13 (
 cl2 C 140 BZ.sg [a0,a1] [c0,[T.c (.int .i64 (-1)),T.c (.int .i64 0),T.c (.int .i64 8),T.c (.int .i64 9),T.c (.int .i64 17),T.c (.int .i64 4000)]] fun v14 d15=>
 K [(nx v14 0),(nx v14 1),(nx v14 2)] []) (
 cl2 C 112 BU.sg [a0,a1,(iv (cnt 1 (nxc d2 0)))] [c0] fun v16 d17=>
 ixW (cnt 1 (nxc d2 0)) (nx v16 0) fun t23_18=>
 ldc (nxc d2 0) [] ((AD t23_18)*1) fun t24_19=>
 K [t24_19,(nx v16 1),(nx v16 2)] [])))
theorem FB.cl2 {w0:World} {a0 a1:Value} {c0 c1 c2 c3 c4:List T} {K:J2} (h:FB.txt ⟨Try.prog,w0⟩ a0 a1 c0 c1 c2 c3 c4 K):Eng.cl2 ⟨Try.prog,w0⟩ 113 FB.sg [a0,a1] [c0,c1,c2,c3,c4] K:=
 AY (C:=⟨Try.prog,w0⟩) (f:=113) (fn:=Try.f113) [(30,CM.sg),(95,DT.sg),(140,BZ.sg),(112,BU.sg)] [] [] Try.func113 (by kernel_rfl) (by kernel_rfl) (by kernel_rfl) h
def HK.sg:Sg:=⟨[(2,[.t 1 0, .v, .v]),(1,[.t 8 0, .t 2 0, .t 1 0, .t 1 0])],[(1,[.v, .v, .v, .v, .v])],[[.a 0, .v, .v]]⟩
def HK.txt (C:Ctx) (a0 a1:Value) (c0 c1 c2 c3 c4:List T) (K:J2):Prop:=
 cl2 C 140 BZ.sg [a0,a1] [c0,[T.c (.int .i64 1),T.c (.int .i64 1),T.c (.int .i64 1),T.c (.int .i64 2),T.c (.int .i64 3),T.c (.int .i64 3),T.c (.int .i64 3),T.c (.int .i64 4),T.c (.int .i64 4),T.c (.int .i64 4),T.c (.int .i64 4),T.c (.int .i64 5),T.c (.int .i64 6),T.c (.int .i64 7),T.c (.int .i64 8),T.c (.int .i64 9),T.c (.int .i64 10),T.c (.int .i64 4)]] fun v1 d2=>
 BK (fun x4 k5=>
 BK (fun x31 k32=>
 K [(nx x31 5),(nx x31 6),(nx x31 7),(nx x31 8),(nx x31 9),(nx x31 10),(nx x31 11)] []) fun j33=>
 cl2 C 112 BU.sg [(nx x4 0),(nx x4 1),(.int .i64 50)] [c0] fun v34 d35=>
 prP (bnI .eql (nx v34 0) (.int .i64 0)) fun t49_36=>
 AX t49_36 (
 cl2 C 140 BZ.sg [(nx v34 1),(nx v34 2)] [c0,[T.c (.int .i64 0),T.c (.int .i64 11)]] fun v37 d38=>
 j33 [(nx x4 2),(nx x4 3),(nx x4 4),(nx x4 5),(nx x4 6),(nx v37 0),(nx x4 8),(nx x4 9),(nx x4 10),(nx x4 11),(nx v37 1),(nx v37 2)] []) (
 prP (bnI .eql (nx v34 0) (.int .i64 1)) fun t55_39=>
 AX t55_39 (
 cl2 C 140 BZ.sg [(nx v34 1),(nx v34 2)] [c0,[T.c (.int .i64 (-1)),T.c (.int .i64 3)]] fun v40 d41=>
 j33 [(nx x4 2),(nx x4 3),(nx x4 4),(nx x4 5),(nx x4 6),(nx x4 7),(nx x4 8),(nx v40 0),(nx x4 10),(nx x4 11),(nx v40 1),(nx v40 2)] []) (
 prP (bnI .eql (nx v34 0) (.int .i64 2)) fun t61_42=>
 AX t61_42 (
 cl2 C 139 DG.sg [(nx v34 1),(nx v34 2)] [c0,[T.c (.string {data:= #[]}),T.c (.string {data:= #[116,111,111,108,111,110,103,97,115,105,116,101]}),T.c (.string {data:= #[115,49]}),T.c (.string {data:= #[115,50]}),T.c (.string {data:= #[115,51]}),T.c (.string {data:= #[115,52]}),T.c (.string {data:= #[115,53]})]] fun v43 d44=>
 j33 [(nx x4 2),(nx x4 3),(nx x4 4),(nx x4 5),(nx x4 6),(nx x4 7),(nx x4 8),(nx x4 9),(nx x4 10),(nx v43 0),(nx v43 1),(nx v43 2)] []) (
 j33 [(nx x4 2),(nx x4 3),(nx x4 4),(nx x4 5),(nx x4 6),(nx x4 7),(nx x4 8),(nx x4 9),(nx x4 10),(nx x4 11),(nx v34 1),(nx v34 2)] [])))) fun j6=>
 prP (bnI .eql (nx v1 0) (.int .i64 1)) fun t17_7=>
 AX t17_7 (
 cl2 C 139 DG.sg [(nx v1 1),(nx v1 2)] [c0,[T.c (.string {data:= #[97]}),T.c (.string {data:= #[98]}),T.c (.string {data:= #[108,105,115,116]}),T.c (.string {data:= #[110,111,100,101]})]] fun v8 d9=>
 j6 [(nx v8 1),(nx v8 2),(.int .i64 0),(.int .i64 0),(.int .i64 0),(.int .i64 0),(.string {data:= #[]}),(nx v1 0),(.int .i64 0),(.int .i64 0),(.int .i64 0),(nx v8 0)] []) (
 prP (bnI .eql (nx v1 0) (.int .i64 4)) fun t23_10=>
 AX t23_10 (
 cl2 C 113 FB.sg [(nx v1 1),(nx v1 2)] [c0,c1,c2,c3,c4] fun v11 d12=>
 cl2 C 112 BU.sg [(nx v11 1),(nx v11 2),(.int .i64 3)] [c0] fun v13 d14=>
 cl2 C 113 FB.sg [(nx v13 1),(nx v13 2)] [c0,c1,c2,c3,c4] fun v15 d16=>
 cl2 C 95 DT.sg [(nx v15 1),(nx v15 2),(.int .i64 4)] [c0] fun v17 d18=>
 AX (nx v17 0) (
 j6 [(nx v17 1),(nx v17 2),(.int .i64 0),(.int .i64 0),(.int .i64 0),(.int .i64 0),(.string {data:= #[]}),(nx v1 0),(nx v11 0),(nx v13 0),(.int .i64 (-1)),(.string {data:= #[]})] []) (
 j6 [(nx v17 1),(nx v17 2),(.int .i64 0),(.int .i64 0),(.int .i64 0),(.int .i64 0),(.string {data:= #[]}),(nx v1 0),(nx v11 0),(nx v13 0),(nx v15 0),(.string {data:= #[]})] [])) (
 BK (fun x20 k21=>
 AX (nx x20 1) (
 cl2 C 112 BU.sg [(nx x20 2),(nx x20 3),(.int .i64 4)] [c0] fun v25 d26=>
 j6 [(nx v25 1),(nx v25 2),(nx x20 4),(nx x20 5),(nx x20 6),(nx x20 7),(nx x20 8),(nx x20 9),(nx v25 0),(nx x20 11),(nx x20 12),(nx x20 13)] []) (
 prP (bnI .eql (nx x20 0) (.int .i64 10)) fun t45_27=>
 AX t45_27 (
 j6 [(nx x20 2),(nx x20 3),(nx x20 4),(nx x20 5),(nx x20 6),(nx x20 7),(nx x20 8),(nx x20 9),(nx x20 10),(nx x20 11),(nx x20 12),(nx x20 13)] []) (
 cl2 C 113 FB.sg [(nx x20 2),(nx x20 3)] [c0,c1,c2,c3,c4] fun v28 d29=>
 j6 [(nx v28 1),(nx v28 2),(nx x20 4),(nx x20 5),(nx x20 6),(nx x20 7),(nx x20 8),(nx x20 9),(nx v28 0),(nx x20 11),(nx x20 12),(nx x20 13)] []))) fun j22=>
 prP (bnI .eql (nx v1 0) (.int .i64 8)) fun t39_23=>
 AX t39_23 (
 j22 [(nx v1 0),t39_23,(nx v1 1),(nx v1 2),(.int .i64 0),(.int .i64 0),(.int .i64 0),(.int .i64 0),(.string {data:= #[]}),(nx v1 0),(.int .i64 0),(.int .i64 0),(.int .i64 0),(.string {data:= #[]})] []) (
 prP (bnI .eql (nx v1 0) (.int .i64 9)) fun t40_24=>
 j22 [(nx v1 0),t40_24,(nx v1 1),(nx v1 2),(.int .i64 0),(.int .i64 0),(.int .i64 0),(.int .i64 0),(.string {data:= #[]}),(nx v1 0),(.int .i64 0),(.int .i64 0),(.int .i64 0),(.string {data:= #[]})] [])))
theorem HK.cl2 {w0:World} {a0 a1:Value} {c0 c1 c2 c3 c4:List T} {K:J2} (h:HK.txt ⟨Try.prog,w0⟩ a0 a1 c0 c1 c2 c3 c4 K):Eng.cl2 ⟨Try.prog,w0⟩ 128 HK.sg [a0,a1] [c0,c1,c2,c3,c4] K:=
 AY (C:=⟨Try.prog,w0⟩) (f:=128) (fn:=Try.f128) [(140,BZ.sg),(139,DG.sg),(113,FB.sg),(112,BU.sg),(95,DT.sg)] [] [(943,⟨[.p (.j 0) 0, .p (.j 1) 0, .p (.j 2) 0, .p (.j 3) 0, .v, .v],[.p (.j 0) 0, .t (.f 0) 1, .t (.f 1) 8, .t (.f 2) 2, .t (.f 3) 1, .t (.f 4) 1],[.bx [.t (.f 0) 1, .v, .v], .bx [.t (.f 1) 8, .t (.f 2) 2, .t (.f 3) 1, .t (.f 4) 1], .bx [.v, .v, .v, .v, .v], .bx [.v, .v, .v, .v, .v]]⟩),(7,⟨[.p (.j 0) 0, .p (.j 1) 0, .p (.j 2) 0],[.p (.j 0) 0, .t (.f 0) 1, .t (.f 1) 8, .t (.f 2) 2, .t (.f 3) 1, .t (.f 4) 1],[.bx [.t (.f 0) 1, .v, .v], .bx [.v, .v, .v, .v, .v], .bx [.v, .v, .v, .v, .v]]⟩),(15,⟨[.p (.j 0) 0, .p (.j 1) 0],[.p (.j 2) 0, .t (.f 0) 1, .t (.f 1) 8, .t (.f 2) 2, .t (.f 3) 1, .t (.f 4) 1],[.bx [.v, .v, .v, .v, .v], .bx [.v, .v, .v, .v, .v], .bx [.t (.f 0) 1, .v, .v]]⟩)] Try.func128 (by kernel_rfl) (by kernel_rfl) (by kernel_rfl) h
def CX.sg:Sg:=⟨[(1,[.t 8 0, .t 2 0, .t 1 0, .t 1 0])],[(1,[.t 8, .t 2, .t 1, .t 1])],[]⟩
def CX.txt (C:Ctx) (c0 c1 c2 c3:List T) (K:J2):Prop:=
 apW c1 true (cnt 2 []) (cnt 2 c1) 16 (
 apW c2 true (cnt 1 []) (cnt 1 c2) 8 (
 apW c3 true (cnt 1 []) (cnt 1 c3) 16 (
 BE (fun r3 x1 k2=>
 prP (bnI .lss (nx x1 0) (iv (cnt 8 c0))) fun t23_10=>
 AX t23_10 (
 ixW (cnt 8 c0) (nx x1 0) fun t29_11=>
 ldg c0 [] ((AD t29_11)*8) [.c, .c, .c, .c, .c, .c, .l 1, .c] fun ts12=>
 apW (FJ c0 [(((AD t29_11)*8)+6)]) true (cnt 1 []) (cnt 1 (FJ c0 [(((AD t29_11)*8)+6)])) 8 (
 apW [T.c (tv (nxT ts12 0)),T.c (tv (nxT ts12 1)),T.c (tv (nxT ts12 2)),T.c (tv (nxT ts12 3)),T.c (tv (nxT ts12 4)),T.c (tv (nxT ts12 5)),T.l 1 ([]++(FJ c0 [(((AD t29_11)*8)+6)])),T.c (tv (nxT ts12 7))] false (cnt 8 (nxc k2 0)) (cnt 8 [T.c (tv (nxT ts12 0)),T.c (tv (nxT ts12 1)),T.c (tv (nxT ts12 2)),T.c (tv (nxT ts12 3)),T.c (tv (nxT ts12 4)),T.c (tv (nxT ts12 5)),T.l 1 ([]++(FJ c0 [(((AD t29_11)*8)+6)])),T.c (tv (nxT ts12 7))]) 80 (
 prP (bnI .add (nx x1 0) (.int .i64 1)) fun t25_13=>
 r3 [t25_13] [((nxc k2 0)++[T.c (tv (nxT ts12 0)),T.c (tv (nxT ts12 1)),T.c (tv (nxT ts12 2)),T.c (tv (nxT ts12 3)),T.c (tv (nxT ts12 4)),T.c (tv (nxT ts12 5)),T.l 1 ([]++(FJ c0 [(((AD t29_11)*8)+6)])),T.c (tv (nxT ts12 7))]),(nxc k2 1),(nxc k2 2),(nxc k2 3)]))) (
 K [] [(nxc k2 0),(nxc k2 1),(nxc k2 2),(nxc k2 3)])) [(.int .i64 0)] [[],([]++c1),([]++c2),([]++c3)])))
theorem CX.cl2 {w0:World} {c0 c1 c2 c3:List T} {K:J2} (h:CX.txt ⟨Try.prog,w0⟩ c0 c1 c2 c3 K):Eng.cl2 ⟨Try.prog,w0⟩ 122 CX.sg [] [c0,c1,c2,c3] K:=
 AY (C:=⟨Try.prog,w0⟩) (f:=122) (fn:=Try.f122) [] [(1,[0,0,2,7,0,0,32,127,0,0,512,2047,4095,0,16383])] [(58,⟨[.p (.j 0) 0, .p (.j 1) 0, .p (.j 2) 0, .v],[],[.bx [.t (.f 0) 8, .t (.f 1) 2, .t (.f 2) 1, .t (.f 3) 1], .bx [.z, .z, .z, .z], .bx [.t (.j 3) 8, .t (.j 4) 2, .t (.j 5) 1, .t (.j 6) 1], .ls, .ls, .ls, .ls]⟩)] Try.func122 (by kernel_rfl) (by kernel_rfl) (by kernel_rfl) h
def BD.sg:Sg:=⟨[(1,[.t 8 0, .t 2 0, .t 1 0, .t 1 0]),(0,[.v])],[(0,[.v])],[]⟩
def BD.txt (C:Ctx) (a0:Value) (c0 c1 c2 c3:List T) (K:J2):Prop:=
 prP (bnI .lss a0 (.int .i64 8)) fun t7_1=>
 gE t7_1 (
 gE t7_1 (
 gE t7_1 (
 gP t7_1 false (prP (bnI .neq (iv (cnt 8 c0)) (.int .i64 8))) fun t12_2=>
 prP (pk t7_1 (.bool true) t12_2) fun t13_3=>
 AX t13_3 (
 K [(.int .i64 (-1))] []) (
 prP (bnI .rem a0 (.int .i64 8)) fun t15_4=>
 ixW (cnt 8 c0) t15_4 fun t19_5=>
 ldc c0 [] ((AD t19_5)*8) fun t21_6=>
 prP (un .not t21_6) fun t22_7=>
 gE t22_7 (
 gE t22_7 (
 gE t22_7 (
 gP t22_7 false (ixW (cnt 8 c0) t15_4) fun t27_8=>
 gE t22_7 (
 gP t22_7 false (ldc c0 [] (((AD t27_8)*8)+1)) fun t29_9=>
 gE t22_7 (
 gP t22_7 false (prP (bnI .quo a0 (.int .i64 8))) fun t31_10=>
 gP t22_7 false (prP (bnI .neq t29_9 t31_10)) fun t32_11=>
 prP (pk t22_7 (.bool true) t32_11) fun t33_12=>
 AX t33_12 (
 K [(.int .i64 (-1))] []) (
 K [t15_4] []))))))))))
theorem BD.cl2 {w0:World} {a0:Value} {c0 c1 c2 c3:List T} {K:J2} (h:BD.txt ⟨Try.prog,w0⟩ a0 c0 c1 c2 c3 K):Eng.cl2 ⟨Try.prog,w0⟩ 24 BD.sg [a0] [c0,c1,c2,c3] K:=
 AY (C:=⟨Try.prog,w0⟩) (f:=24) (fn:=Try.f24) [] [] [] Try.func24 (by kernel_rfl) (by kernel_rfl) (by kernel_rfl) h
def DN.sg:Sg:=⟨[(1,[.t 8 0, .t 2 0, .t 1 0, .t 1 0]),(0,[.v])],[(0,[.v])],[]⟩
def DN.txt (C:Ctx) (a0:Value) (c0 c1 c2 c3:List T) (K:J2):Prop:=
 prP (bnI .sub (iv (cnt 8 c0)) (.int .i64 1)) fun t13_1=>
 cl2 C 87 B7.sg [a0,(.int .i64 0),t13_1] [] fun v2 d3=>
 prP (un .not (nx v2 0)) fun t15_5=>
 gE t15_5 (
 gE t15_5 (
 gE t15_5 (
 gP t15_5 false (ixW (cnt 8 c0) a0) fun t20_6=>
 gE t15_5 (
 gP t15_5 false (ldc c0 [] ((AD t20_6)*8)) fun t22_7=>
 gP t15_5 false (prP (un .not t22_7)) fun t23_8=>
 prP (pk t15_5 (.bool true) t23_8) fun t24_9=>
 AX t24_9 (
 K [(.int .i64 0)] []) (
 ixW (cnt 8 c0) a0 fun t29_10=>
 ldc c0 [] (((AD t29_10)*8)+1) fun t31_11=>
 cl2 C 61 CU.sg [a0,t31_11] [] fun v12 d13=>
 BE (fun r17 x15 k16=>
 prP (bnI .lss (nx x15 2) (iv (cnt 8 c0))) fun t37_19=>
 AX t37_19 (
 BE (fun r22 x20 k21=>
 ixW (cnt 8 c0) (nx x20 2) fun t44_24=>
 ldl c0 [] (((AD t44_24)*8)+6) 1 fun t46_25=>
 prP (bnI .lss (nx x20 3) (iv (cnt 1 (FJ c0 [(((AD t44_24)*8)+6)])))) fun t48_26=>
 gE t48_26 (
 gE t48_26 (
 gE t48_26 (
 gP t48_26 true (ixW (cnt 8 c0) (nx x20 2)) fun t53_27=>
 gE t48_26 (
 gP t48_26 true (ldc c0 [] ((AD t53_27)*8)) fun t55_28=>
 prP (pk t48_26 t55_28 (.bool false)) fun t56_29=>
 AX t56_29 (
 BK (fun x31 k32=>
 prP (bnI .add (nx x31 3) (.int .i64 1)) fun t58_40=>
 r22 [(nx x31 0),(nx x31 1),(nx x31 2),t58_40] []) fun j33=>
 ixW (cnt 8 c0) (nx x20 2) fun t62_34=>
 ldl c0 [] (((AD t62_34)*8)+6) 1 fun t64_35=>
 ixW (cnt 1 (FJ c0 [(((AD t62_34)*8)+6)])) (nx x20 3) fun t66_36=>
 ldc c0 [(((AD t62_34)*8)+6)] ((AD t66_36)*1) fun t67_37=>
 prP (bnI .eql t67_37 (nx x20 1)) fun t69_38=>
 AX t69_38 (
 prP (bnI .add (nx x20 0) (.int .i64 1)) fun t71_39=>
 j33 [t71_39,(nx x20 1),(nx x20 2),(nx x20 3)] []) (
 j33 [(nx x20 0),(nx x20 1),(nx x20 2),(nx x20 3)] [])) (
 prP (bnI .add (nx x20 2) (.int .i64 1)) fun t39_41=>
 r17 [(nx x20 0),(nx x20 1),t39_41] [])))))) [(nx x15 0),(nx x15 1),(nx x15 2),(.int .i64 0)] []) (
 K [(nx x15 0)] [])) [(.int .i64 0),(nx v12 0),(.int .i64 0)] [])))))
theorem DN.cl2 {w0:World} {a0:Value} {c0 c1 c2 c3:List T} {K:J2} (h:DN.txt ⟨Try.prog,w0⟩ a0 c0 c1 c2 c3 K):Eng.cl2 ⟨Try.prog,w0⟩ 88 DN.sg [a0] [c0,c1,c2,c3] K:=
 AY (C:=⟨Try.prog,w0⟩) (f:=88) (fn:=Try.f88) [(87,B7.sg),(61,CU.sg)] [] [(64073,⟨[.p (.j 0) 0, .v, .v, .v, .v],[],[.bx [.t (.f 0) 8, .t (.f 1) 2, .t (.f 2) 1, .t (.f 3) 1]]⟩),(16018,⟨[.p (.j 0) 0, .v, .v, .v, .v],[],[.bx [.t (.f 0) 8, .t (.f 1) 2, .t (.f 2) 1, .t (.f 3) 1]]⟩),(250,⟨[.p (.j 0) 0, .v, .v, .v],[],[.bx [.t (.f 0) 8, .t (.f 1) 2, .t (.f 2) 1, .t (.f 3) 1]]⟩)] Try.func88 (by kernel_rfl) (by kernel_rfl) (by kernel_rfl) h
def CA.sg:Sg:=⟨[(0,[.t 1 0]),(0,[.v])],[(0,[.v])],[]⟩
def CA.txt (C:Ctx) (a0:Value) (c0:List T) (K:J2):Prop:=
 BE (fun r3 x1 k2=>
 prP (bnI .lss (nx x1 1) (iv (cnt 1 c0))) fun t9_5=>
 AX t9_5 (
 ixW (cnt 1 c0) (nx x1 1) fun t14_6=>
 ldc c0 [] ((AD t14_6)*1) fun t15_7=>
 prP (bnI .eql t15_7 (nx x1 0)) fun t17_8=>
 AX t17_8 (
 K [(.bool true)] []) (
 prP (bnI .add (nx x1 1) (.int .i64 1)) fun t11_9=>
 r3 [(nx x1 0),t11_9] [])) (
 K [(.bool false)] [])) [a0,(.int .i64 0)] []
theorem CA.cl2 {w0:World} {a0:Value} {c0:List T} {K:J2} (h:CA.txt ⟨Try.prog,w0⟩ a0 c0 K):Eng.cl2 ⟨Try.prog,w0⟩ 89 CA.sg [a0] [c0] K:=
 AY (C:=⟨Try.prog,w0⟩) (f:=89) (fn:=Try.f89) [] [] [(26,⟨[.t (.f 0) 1, .v, .v],[],[]⟩)] Try.func89 (by kernel_rfl) (by kernel_rfl) (by kernel_rfl) h
def DF.sg:Sg:=⟨[(1,[.t 8 0, .t 2 0, .t 1 0, .t 1 0])],[(0,[.v])],[]⟩
def DF.txt (C:Ctx) (c0 c1 c2 c3:List T) (K:J2):Prop:=
 prP (bnI .neq (iv (cnt 8 c0)) (.int .i64 8)) fun t15_1=>
 gE t15_1 (
 gE t15_1 (
 gE t15_1 (
 gP t15_1 false (prP (bnI .neq (iv (cnt 2 c1)) (.int .i64 8))) fun t20_2=>
 prP (pk t15_1 (.bool true) t20_2) fun t21_3=>
 gE t21_3 (
 gE t21_3 (
 gE t21_3 (
 gP t21_3 false (prP (bnI .gtr (iv (cnt 1 c3)) (.int .i64 6))) fun t26_4=>
 prP (pk t21_3 (.bool true) t26_4) fun t27_5=>
 AX t27_5 (
 K [(.bool false)] []) (
 BE (fun r8 x6 k7=>
 prP (bnI .lss (nx x6 0) (iv (cnt 8 c0))) fun t32_10=>
 AX t32_10 (
 BK (fun x12 k13=>
 prP (bnI .add (nx x12 0) (.int .i64 1)) fun t34_90=>
 r8 [t34_90] []) fun j14=>
 ixW (cnt 8 c0) (nx x6 0) fun t38_15=>
 ldg c0 [] ((AD t38_15)*8) [.c, .c, .c, .c, .c, .c, .l 1, .c] fun ts16=>
 cl2 C 87 B7.sg [(tv (nxT ts16 1)),(.int .i64 0),(.int .i64 999)] [] fun v17 d18=>
 prP (un .not (nx v17 0)) fun t43_20=>
 gE t43_20 (
 gE t43_20 (
 gE t43_20 (
 gP t43_20 false (prP (bnI .neq (iv (cnt 1 (FJ c0 [(((AD t38_15)*8)+6)]))) (.int .i64 3))) fun t48_21=>
 prP (pk t43_20 (.bool true) t48_21) fun t49_22=>
 AX t49_22 (
 K [(.bool false)] []) (
 prP (un .not (tv (nxT ts16 0))) fun t52_23=>
 AX t52_23 (
 prP (bnI .neq (tv (nxT ts16 2)) (.int .i64 0)) fun t55_24=>
 gE t55_24 (
 gE t55_24 (
 gP t55_24 false (prP (bnI .neq (tv (nxT ts16 3)) (.int .i64 0))) fun t59_25=>
 prP (pk t55_24 (.bool true) t59_25) fun t60_26=>
 gE t60_26 (
 gE t60_26 (
 gP t60_26 false (prP (bnI .neq (tv (nxT ts16 4)) (.int .i64 0))) fun t64_27=>
 prP (pk t60_26 (.bool true) t64_27) fun t65_28=>
 gE t65_28 (
 gE t65_28 (
 gP t65_28 false (prP (bnI .neq (tv (nxT ts16 5)) (.int .i64 0))) fun t69_29=>
 prP (pk t65_28 (.bool true) t69_29) fun t70_30=>
 gE t70_30 (
 gE t70_30 (
 prP (pk t70_30 (.bool true) (tv (nxT ts16 7))) fun t74_31=>
 AX t74_31 (
 K [(.bool false)] []) (
 BE (fun r34 x32 k33=>
 prP (bnI .lss (nx x32 1) (.int .i64 3)) fun t76_36=>
 AX t76_36 (
 ixW (cnt 1 (FJ c0 [(AD (nx x32 8))])) (nx x32 1) fun t82_37=>
 ldc c0 [(AD (nx x32 8))] ((AD t82_37)*1) fun t83_38=>
 prP (bnI .neq t83_38 (.int .i64 (-1))) fun t84_39=>
 AX t84_39 (
 K [(.bool false)] []) (
 prP (bnI .add (nx x32 1) (.int .i64 1)) fun t78_40=>
 r34 [(nx x32 0),t78_40,(nx x32 2),(nx x32 3),(nx x32 4),(nx x32 5),(nx x32 6),(nx x32 7),(iv (AD (nx x32 8))),(nx x32 9)] [])) (
 j14 [(nx x32 0)] [])) [(nx x6 0),(.int .i64 0),(tv (nxT ts16 0)),(tv (nxT ts16 1)),(tv (nxT ts16 2)),(tv (nxT ts16 3)),(tv (nxT ts16 4)),(tv (nxT ts16 5)),(iv (((AD t38_15)*8)+6)),(tv (nxT ts16 7))] [])))))))))) (
 prP (bnI .lss (tv (nxT ts16 1)) (.int .i64 1)) fun t87_41=>
 gE t87_41 (
 gE t87_41 (
 gE t87_41 (
 gE t87_41 (
 gE t87_41 (
 gP t87_41 false (prP (bnI .sub (iv (cnt 1 c3)) (.int .i64 1))) fun t94_42=>
 gP t87_41 false ((fun K=>cl2 C 87 B7.sg [(tv (nxT ts16 2)),(.int .i64 0),t94_42] [] fun v43 d44=>K (nx v43 0))) fun t95_45=>
 gP t87_41 false (prP (un .not t95_45)) fun t96_46=>
 prP (pk t87_41 (.bool true) t96_46) fun t97_47=>
 gE t97_47 (
 gE t97_47 (
 gP t97_47 false ((fun K=>cl2 C 87 B7.sg [(tv (nxT ts16 3)),(.int .i64 0),(.int .i64 20)] [] fun v48 d49=>K (nx v48 0))) fun t101_50=>
 gP t97_47 false (prP (un .not t101_50)) fun t102_51=>
 prP (pk t97_47 (.bool true) t102_51) fun t103_52=>
 gE t103_52 (
 gE t103_52 (
 gP t103_52 false ((fun K=>cl2 C 87 B7.sg [(tv (nxT ts16 4)),(.int .i64 0),(.int .i64 20)] [] fun v53 d54=>K (nx v53 0))) fun t107_55=>
 gP t103_52 false (prP (un .not t107_55)) fun t108_56=>
 prP (pk t103_52 (.bool true) t108_56) fun t109_57=>
 AX t109_57 (
 K [(.bool false)] []) (
 BE (fun r60 x58 k59=>
 prP (bnI .lss (nx x58 1) (.int .i64 3)) fun t111_62=>
 AX t111_62 (
 ixW (cnt 1 (FJ c0 [(AD (nx x58 8))])) (nx x58 1) fun t117_63=>
 ldc c0 [(AD (nx x58 8))] ((AD t117_63)*1) fun t118_64=>
 prP (bnI .neq t118_64 (.int .i64 (-1))) fun t119_65=>
 gE t119_65 (
 gE t119_65 (
 gE t119_65 (
 gE t119_65 (
 gP t119_65 true (ixW (cnt 1 (FJ c0 [(AD (nx x58 8))])) (nx x58 1)) fun t125_66=>
 gP t119_65 true (ldc c0 [(AD (nx x58 8))] ((AD t125_66)*1)) fun t126_67=>
 gP t119_65 true ((fun K=>cl2 C 24 BD.sg [t126_67] [c0,c1,c2,c3] fun v68 d69=>K (nx v68 0))) fun t127_70=>
 gP t119_65 true (prP (bnI .lss t127_70 (.int .i64 0))) fun t128_71=>
 prP (pk t119_65 t128_71 (.bool false)) fun t129_72=>
 AX t129_72 (
 K [(.bool false)] []) (
 prP (bnI .add (nx x58 1) (.int .i64 1)) fun t113_73=>
 r60 [(nx x58 0),t113_73,(nx x58 2),(nx x58 3),(nx x58 4),(nx x58 5),(nx x58 6),(nx x58 7),(iv (AD (nx x58 8))),(nx x58 9)] [])))))) (
 prP (bnI .add (nx x58 5) (nx x58 6)) fun t136_74=>
 cl2 C 88 DN.sg [(nx x58 0)] [c0,c1,c2,c3] fun v75 d76=>
 prP (bnI .add t136_74 (nx v75 0)) fun t140_78=>
 prP (bnI .neq (nx x58 7) t140_78) fun t141_79=>
 gE t141_79 (
 gE t141_79 (
 gP t141_79 false (prP (bnI .lss (nx x58 7) (.int .i64 1))) fun t145_80=>
 prP (pk t141_79 (.bool true) t145_80) fun t146_81=>
 gE t146_81 (
 gE t146_81 (
 gE t146_81 (
 gE t146_81 (
 gE t146_81 (
 gE t146_81 (
 gE t146_81 (
 gP t146_81 false ((fun K=>cl2 C 61 CU.sg [(nx x58 0),(nx x58 3)] [] fun v82 d83=>K (nx v82 0))) fun t155_84=>
 gP t146_81 false ((fun K=>cl2 C 89 CA.sg [t155_84] [c2] fun v85 d86=>K (nx v85 0))) fun t156_87=>
 gP t146_81 false (prP (bnB .neq (nx x58 9) t156_87)) fun t157_88=>
 prP (pk t146_81 (.bool true) t157_88) fun t158_89=>
 AX t158_89 (
 K [(.bool false)] []) (
 j14 [(nx x58 0)] [])))))))))))) [(nx x6 0),(.int .i64 0),(tv (nxT ts16 0)),(tv (nxT ts16 1)),(tv (nxT ts16 2)),(tv (nxT ts16 3)),(tv (nxT ts16 4)),(tv (nxT ts16 5)),(iv (((AD t38_15)*8)+6)),(tv (nxT ts16 7))] [])))))))))))))))) (
 BE (fun r93 x91 k92=>
 prP (bnI .lss (nx x91 0) (iv (cnt 2 c1))) fun t163_95=>
 AX t163_95 (
 ixW (cnt 2 c1) (nx x91 0) fun t169_96=>
 ldg c1 [] ((AD t169_96)*2) [.c, .c] fun ts97=>
 prP (un .not (tv (nxT ts97 0))) fun t173_98=>
 gE t173_98 (
 gE t173_98 (
 gP t173_98 true (prP (bnI .neq (tv (nxT ts97 1)) (.int .i64 0))) fun t177_99=>
 prP (pk t173_98 t177_99 (.bool false)) fun t178_100=>
 gE t178_100 (
 gE t178_100 (
 gE t178_100 (
 gE (CI t178_100 false (tv (nxT ts97 0))) (
 gE (CI t178_100 false (tv (nxT ts97 0))) (
 gP (CI t178_100 false (tv (nxT ts97 0))) true ((fun K=>cl2 C 87 B7.sg [(tv (nxT ts97 1)),(.int .i64 8),(.int .i64 7999)] [] fun v101 d102=>K (nx v101 0))) fun t185_103=>
 gP (CI t178_100 false (tv (nxT ts97 0))) true (prP (un .not t185_103)) fun t186_104=>
 gP t178_100 false (prP (pk (tv (nxT ts97 0)) t186_104 (.bool false))) fun t187_105=>
 prP (pk t178_100 (.bool true) t187_105) fun t188_106=>
 AX t188_106 (
 K [(.bool false)] []) (
 prP (bnI .add (nx x91 0) (.int .i64 1)) fun t165_107=>
 r93 [t165_107] []))))))))) (
 BE (fun r110 x108 k109=>
 prP (bnI .lss (nx x108 0) (iv (cnt 1 c2))) fun t193_112=>
 AX t193_112 (
 ixW (cnt 1 c2) (nx x108 0) fun t200_113=>
 ldc c2 [] ((AD t200_113)*1) fun t201_114=>
 cl2 C 24 BD.sg [t201_114] [c0,c1,c2,c3] fun v115 d116=>
 prP (bnI .lss (nx v115 0) (.int .i64 0)) fun t203_118=>
 gE t203_118 (
 gE t203_118 (
 gE t203_118 (
 gP t203_118 false ((fun K=>scW (cnt 1 c2) none (some (nx x108 0)) fun l m=>K (two l m))) fun t208_119=>
 gE t203_118 (
 gE t203_118 (
 gE t203_118 (
 gP t203_118 false (ixW (cnt 1 c2) (nx x108 0)) fun t212_120=>
 gP t203_118 false (ldc c2 [] ((AD t212_120)*1)) fun t213_121=>
 gP t203_118 false ((fun K=>cl2 C 89 CA.sg [t213_121] [(GB c2 [] ((AD (dM t208_119))*1) ((AD (eD t208_119))*1))] fun v122 d123=>K (nx v122 0))) fun t214_124=>
 prP (pk t203_118 (.bool true) t214_124) fun t215_125=>
 AX t215_125 (
 K [(.bool false)] []) (
 prP (bnI .add (nx x108 0) (.int .i64 1)) fun t195_126=>
 r110 [t195_126] [])))))))) (
 BE (fun r129 x127 k128=>
 prP (bnI .lss (nx x127 0) (iv (cnt 1 c3))) fun t220_131=>
 AX t220_131 (
 ixW (cnt 1 c3) (nx x127 0) fun t226_132=>
 ldc c3 [] ((AD t226_132)*1) fun t227_133=>
 prP (lnS t227_133) fun t228_134=>
 cl2 C 87 B7.sg [t228_134,(.int .i64 1),(.int .i64 8)] [] fun v135 d136=>
 prP (un .not (nx v135 0)) fun t230_138=>
 AX t230_138 (
 K [(.bool false)] []) (
 BE (fun r141 x139 k140=>
 prP (bnI .lss (nx x139 1) (nx x139 0)) fun t233_143=>
 AX t233_143 (
 ixW (cnt 1 c3) (nx x139 1) fun t239_144=>
 ldc c3 [] ((AD t239_144)*1) fun t240_145=>
 ixW (cnt 1 c3) (nx x139 0) fun t244_146=>
 ldc c3 [] ((AD t244_146)*1) fun t245_147=>
 prP (bnS .eql t240_145 t245_147) fun t246_148=>
 AX t246_148 (
 K [(.bool false)] []) (
 prP (bnI .add (nx x139 1) (.int .i64 1)) fun t235_149=>
 r141 [(nx x139 0),t235_149] [])) (
 prP (bnI .add (nx x139 0) (.int .i64 1)) fun t222_150=>
 r129 [t222_150] [])) [(nx x127 0),(.int .i64 0)] [])) (
 K [(.bool true)] [])) [(.int .i64 0)] [])) [(.int .i64 0)] [])) [(.int .i64 0)] [])) [(.int .i64 0)] [])))))))
theorem DF.cl2 {w0:World} {c0 c1 c2 c3:List T} {K:J2} (h:DF.txt ⟨Try.prog,w0⟩ c0 c1 c2 c3 K):Eng.cl2 ⟨Try.prog,w0⟩ 19 DF.sg [] [c0,c1,c2,c3] K:=
 AY (C:=⟨Try.prog,w0⟩) (f:=19) (fn:=Try.f19) [(87,B7.sg),(24,BD.sg),(88,DN.sg),(61,CU.sg),(89,CA.sg)] [(22,[0,1,0,7,15,31,63,127,127,383,127,1919,3967,8191,16383,32767]),(24,[0,1,0,4,0,16,60,0,0,384,1020,2047,4095,8191,16383,32767,65535,131071,262143,524287,262143,1310719,262143,262143,8650751,29622271,66322431,134217727,268435455]),(35,[0,0,2,0,14,30,63,127,255,511,1023,511,4095,511,8703,511,57855,123391,262143,524287]),(45,[0,1,0,7,15,0,32,0,224,480,1023])] [(477610,⟨[.p (.j 0) 0, .v, .p (.j 1) 0, .v],[],[.bx [.t (.f 0) 8, .t (.f 1) 2, .t (.f 2) 1, .t (.f 3) 1], .bx [.v, .v, .v, .v, .v, .v, .n (.f 0) 1 1, .v]]⟩),(119418,⟨[.p (.j 0) 0, .v, .p (.j 1) 0, .v],[],[.bx [.t (.f 0) 8, .t (.f 1) 2, .t (.f 2) 1, .t (.f 3) 1], .bx [.v, .v, .v, .v, .v, .v, .n (.f 0) 1 1, .v]]⟩),(233,⟨[.p (.j 0) 0, .v],[],[.bx [.t (.f 0) 8, .t (.f 1) 2, .t (.f 2) 1, .t (.f 3) 1]]⟩),(64806,⟨[.p (.j 0) 0, .v, .v],[],[.bx [.t (.f 0) 8, .t (.f 1) 2, .t (.f 2) 1, .t (.f 3) 1]]⟩),(506,⟨[.p (.j 0) 0, .v],[],[.bx [.t (.f 0) 8, .t (.f 1) 2, .t (.f 2) 1, .t (.f 3) 1]]⟩),(250,⟨[.p (.j 0) 0, .v],[],[.bx [.t (.f 0) 8, .t (.f 1) 2, .t (.f 2) 1, .t (.f 3) 1]]⟩),(122,⟨[.p (.j 0) 0, .v],[],[.bx [.t (.f 0) 8, .t (.f 1) 2, .t (.f 2) 1, .t (.f 3) 1]]⟩),(58,⟨[.p (.j 0) 0, .v],[],[.bx [.t (.f 0) 8, .t (.f 1) 2, .t (.f 2) 1, .t (.f 3) 1]]⟩)] Try.func19 (by kernel_rfl) (by kernel_rfl) (by kernel_rfl) h
def D5.sg:Sg:=⟨[(1,[.t 8 0, .t 2 0, .t 1 0, .t 1 0])],[(0,[.v])],[]⟩
def D5.txt (C:Ctx) (c0 c1 c2 c3:List T) (K:J2):Prop:=
 BE (fun r3 x1 k2=>
 prP (bnI .lss (nx x1 0) (iv (cnt 8 c0))) fun t8_5=>
 gE t8_5 (
 gP t8_5 true (prP (bnI .lss (nx x1 0) (.int .i64 8))) fun t11_6=>
 prP (pk t8_5 t11_6 (.bool false)) fun t12_7=>
 AX t12_7 (
 ixW (cnt 8 c0) (nx x1 0) fun t18_8=>
 ldc c0 [] ((AD t18_8)*8) fun t20_9=>
 prP (un .not t20_9) fun t21_10=>
 gE t21_10 (
 gE t21_10 (
 gE t21_10 (
 gP t21_10 true (ixW (cnt 8 c0) (nx x1 0)) fun t26_11=>
 gE t21_10 (
 gP t21_10 true (ldc c0 [] (((AD t26_11)*8)+1)) fun t28_12=>
 gP t21_10 true (prP (bnI .lss t28_12 (.int .i64 999))) fun t29_13=>
 prP (pk t21_10 t29_13 (.bool false)) fun t30_14=>
 AX t30_14 (
 K [(nx x1 0)] []) (
 prP (bnI .add (nx x1 0) (.int .i64 1)) fun t14_15=>
 r3 [t14_15] [])))))) (
 K [(.int .i64 (-1))] []))) [(.int .i64 0)] []
theorem D5.cl2 {w0:World} {c0 c1 c2 c3:List T} {K:J2} (h:D5.txt ⟨Try.prog,w0⟩ c0 c1 c2 c3 K):Eng.cl2 ⟨Try.prog,w0⟩ 152 D5.sg [] [c0,c1,c2,c3] K:=
 AY (C:=⟨Try.prog,w0⟩) (f:=152) (fn:=Try.f152) [] [] [(26,⟨[.p (.j 0) 0, .v],[],[.bx [.t (.f 0) 8, .t (.f 1) 2, .t (.f 2) 1, .t (.f 3) 1]]⟩)] Try.func152 (by kernel_rfl) (by kernel_rfl) (by kernel_rfl) h
def ES.sg:Sg:=⟨[(1,[.t 8 2, .t 2 0, .t 1 0, .t 1 2]),(1,[.v, .v, .v, .v, .v])],[(1,[.t 8, .a 1, .a 2, .t 1]),(1,[.v, .v, .t 1])],[]⟩
def ES.txt (C:Ctx) (a0 a1 a2 a3 a4:Value) (c0 c1 c2 c3:List T) (K:J2):Prop:=
 prP (lnS a4) fun t12_1=>
 cl2 C 87 B7.sg [t12_1,(.int .i64 1),(.int .i64 8)] [] fun v2 d3=>
 prP (un .not (nx v2 0)) fun t14_5=>
 AX t14_5 (
 K [(.int .i64 2),(.int .i64 0)] [c0,c3,[]]) (
 cl2 C 152 D5.sg [] [c0,c1,c2,c3] fun v6 d7=>
 prP (bnI .lss (nx v6 0) (.int .i64 0)) fun t20_9=>
 AX t20_9 (
 K [(.int .i64 3),(.int .i64 0)] [c0,c3,[]]) (
 BE (fun r12 x10 k11=>
 prP (bnI .lss (nx x10 2) (iv (cnt 1 (nxc k11 1)))) fun t27_14=>
 AX t27_14 (
 BK (fun x16 k17=>
 prP (bnI .add (nx x16 2) (.int .i64 1)) fun t29_22=>
 r12 [(nx x16 0),(nx x16 1),t29_22,(nx x16 3),(nx x16 4),(nx x16 5),(nx x16 6),(nx x16 7),(nx x16 8),(nx x16 9)] [(nxc k17 0),(nxc k17 1)]) fun j18=>
 ixW (cnt 1 (nxc k11 1)) (nx x10 2) fun t33_19=>
 ldc (nxc k11 1) [] ((AD t33_19)*1) fun t34_20=>
 prP (bnS .eql t34_20 (nx x10 7)) fun t37_21=>
 AX t37_21 (
 j18 [(nx x10 0),(nx x10 2),(nx x10 2),(nx x10 3),(nx x10 4),(nx x10 5),(nx x10 6),(nx x10 7),(nx x10 8),(nx x10 9)] [(nxc k11 0),(nxc k11 1)]) (
 j18 [(nx x10 0),(nx x10 1),(nx x10 2),(nx x10 3),(nx x10 4),(nx x10 5),(nx x10 6),(nx x10 7),(nx x10 8),(nx x10 9)] [(nxc k11 0),(nxc k11 1)])) (
 prP (bnI .lss (nx x10 1) (.int .i64 0)) fun t40_23=>
 gE t40_23 (
 gE t40_23 (
 gE t40_23 (
 gP t40_23 true (prP (bnI .geq (iv (cnt 1 (nxc k11 1))) (.int .i64 6))) fun t45_24=>
 prP (pk t40_23 t45_24 (.bool false)) fun t46_25=>
 AX t46_25 (
 K [(.int .i64 6),(.int .i64 0)] [(nxc k11 0),(nxc k11 1),[]]) (
 BK (fun x27 k28=>
 ixW (cnt 8 (nxc k28 0)) (nx x27 0) fun t64_31=>
 ldc (nxc k28 0) [] (((AD t64_31)*8)+1) fun t66_32=>
 prP (bnI .add t66_32 (.int .i64 1)) fun t67_33=>
 cl2 C 121 C0.sg [] [] fun v34 d35=>
 ixW (cnt 8 (nxc k28 0)) (nx x27 0) fun t75_36=>
 stg (nxc k28 0) [] ((AD t75_36)*8) [T.c (.bool true),T.c t67_33,T.c (nx x27 1),T.c (.int .i64 1),T.c (.int .i64 0),T.c (.int .i64 1),T.l 1 (nxc d35 0),T.c (.bool false)] fun k37=>
 cl2 C 61 CU.sg [(nx x27 0),t67_33] [] fun v38 d39=>
 K [(.int .i64 0),(nx v38 0)] [k37,(nxc k28 1),[]]) fun j29=>
 prP (bnI .lss (nx x10 1) (.int .i64 0)) fun t50_30=>
 AX t50_30 (
 apW [T.c (nx x10 7)] true (cnt 1 (nxc k11 1)) (cnt 1 [T.c (nx x10 7)]) 16 (
 j29 [(nx x10 0),(iv (cnt 1 (nxc k11 1))),(nx x10 8),(nx x10 9)] [(nxc k11 0),((nxc k11 1)++[T.c (nx x10 7)])])) (
 j29 [(nx x10 0),(nx x10 1),(nx x10 8),(nx x10 9)] [(nxc k11 0),(nxc k11 1)]))))))) [(nx v6 0),(.int .i64 (-1)),(.int .i64 0),a0,a1,a2,a3,a4,(.int .i64 0),(.int .i64 0)] [c0,c3]))
theorem ES.cl2 {w0:World} {a0 a1 a2 a3 a4:Value} {c0 c1 c2 c3:List T} {K:J2} (h:ES.txt ⟨Try.prog,w0⟩ a0 a1 a2 a3 a4 c0 c1 c2 c3 K):Eng.cl2 ⟨Try.prog,w0⟩ 123 ES.sg [a0,a1,a2,a3,a4] [c0,c1,c2,c3] K:=
 AY (C:=⟨Try.prog,w0⟩) (f:=123) (fn:=Try.f123) [(87,B7.sg),(152,D5.sg),(121,C0.sg),(61,CU.sg)] [(10,[0,1,0,7,15,0,32,127]),(18,[0,1,0,0,0,0,56,127,255]),(19,[0,0,0,6,14,15,63])] [(2025,⟨[.p (.j 0) 0, .p (.j 1) 0, .p (.j 2) 0, .p (.j 3) 0, .v, .v, .v],[.w, .t (.f 0) 2, .t (.f 1) 1, .w],[.bx [.t (.j 4) 8, .t (.f 0) 2, .t (.f 1) 1, .t (.j 5) 1], .bx [.v, .v, .v, .v, .v], .bx [.z, .z, .z, .z], .bx [.v, .v, .z], .ls, .ls]⟩),(255,⟨[.p (.j 0) 0, .p (.j 1) 0, .p (.j 2) 0, .v, .v],[.w, .t (.f 0) 2, .t (.f 1) 1, .w],[.bx [.t (.j 3) 8, .t (.f 0) 2, .t (.f 1) 1, .t (.j 4) 1], .bx [.z, .z, .z, .z], .bx [.v, .v, .z], .ls, .ls]⟩),(506,⟨[.p (.j 0) 0, .p (.j 1) 0, .p (.j 2) 0, .p (.j 3) 0, .v, .v, .v],[.w, .t (.f 0) 2, .t (.f 1) 1, .w],[.bx [.t (.j 4) 8, .t (.f 0) 2, .t (.f 1) 1, .t (.j 5) 1], .bx [.v, .v, .v, .v, .v], .bx [.z, .z, .z, .z], .bx [.v, .v, .z], .ls, .ls]⟩)] Try.func123 (by kernel_rfl) (by kernel_rfl) (by kernel_rfl) h
def EG.sg:Sg:=⟨[(1,[.t 8 0, .t 2 0, .t 1 0, .t 1 0]),(0,[.v])],[(1,[.t 8, .t 2, .t 1, .t 1])],[]⟩
def EG.txt (C:Ctx) (a0:Value) (c0 c1 c2 c3:List T) (K:J2):Prop:=
 cl2 C 122 CX.sg [] [c0,c1,c2,c3] fun v1 d2=>
 cl2 C 24 BD.sg [a0] [c0,c1,c2,c3] fun v3 d4=>
 BK (fun x7 k8=>
 K [] [(nxc k8 0),(nxc k8 1),(nxc k8 2),(nxc k8 3)]) fun j9=>
 prP (bnI .geq (nx v3 0) (.int .i64 0)) fun t13_10=>
 AX t13_10 (
 ixW (cnt 8 c0) (nx v3 0) fun t20_11=>
 ldc c0 [] (((AD t20_11)*8)+5) fun t22_12=>
 prP (bnI .add t22_12 (.int .i64 1)) fun t23_13=>
 ixW (cnt 8 (nxc d2 0)) (nx v3 0) fun t24_14=>
 stc (nxc d2 0) [] (((AD t24_14)*8)+5) t23_13 fun k15=>
 j9 [] [k15,(nxc d2 1),(nxc d2 2),(nxc d2 3)]) (
 j9 [] [(nxc d2 0),(nxc d2 1),(nxc d2 2),(nxc d2 3)])
theorem EG.cl2 {w0:World} {a0:Value} {c0 c1 c2 c3:List T} {K:J2} (h:EG.txt ⟨Try.prog,w0⟩ a0 c0 c1 c2 c3 K):Eng.cl2 ⟨Try.prog,w0⟩ 153 EG.sg [a0] [c0,c1,c2,c3] K:=
 AY (C:=⟨Try.prog,w0⟩) (f:=153) (fn:=Try.f153) [(122,CX.sg),(24,BD.sg)] [(4,[0,1,0,0,8,0,56,120,248,504,1023,2047,4095])] [(15,⟨[.p (.j 0) 0, .p (.j 1) 0],[],[.bx [.z, .z, .z, .z], .bx [.t (.j 2) 8, .t (.j 3) 2, .t (.j 4) 1, .t (.j 5) 1], .ls, .ls, .ls, .ls]⟩)] Try.func153 (by kernel_rfl) (by kernel_rfl) (by kernel_rfl) h
def DP.sg:Sg:=⟨[(0,[.t 1 0]),(0,[.v])],[(0,[.t 1])],[]⟩
def DP.txt (C:Ctx) (a0:Value) (c0:List T) (K:J2):Prop:=
 BE (fun r3 x1 k2=>
 prP (bnI .lss (nx x1 1) (iv (cnt 1 c0))) fun t11_5=>
 AX t11_5 (
 BK (fun x7 k8=>
 prP (bnI .add (nx x7 1) (.int .i64 1)) fun t13_15=>
 r3 [(nx x7 0),t13_15] [(nxc k8 0)]) fun j9=>
 ixW (cnt 1 c0) (nx x1 1) fun t16_10=>
 ldc c0 [] ((AD t16_10)*1) fun t17_11=>
 prP (bnI .neq t17_11 (nx x1 0)) fun t19_12=>
 AX t19_12 (
 ixW (cnt 1 c0) (nx x1 1) fun t23_13=>
 ldc c0 [] ((AD t23_13)*1) fun t24_14=>
 apW [T.c t24_14] true (cnt 1 (nxc k2 0)) (cnt 1 [T.c t24_14]) 8 (
 j9 [(nx x1 0),(nx x1 1)] [((nxc k2 0)++[T.c t24_14])])) (
 j9 [(nx x1 0),(nx x1 1)] [(nxc k2 0)])) (
 K [] [(nxc k2 0)])) [a0,(.int .i64 0)] [[]]
theorem DP.cl2 {w0:World} {a0:Value} {c0:List T} {K:J2} (h:DP.txt ⟨Try.prog,w0⟩ a0 c0 K):Eng.cl2 ⟨Try.prog,w0⟩ 167 DP.sg [a0] [c0] K:=
 AY (C:=⟨Try.prog,w0⟩) (f:=167) (fn:=Try.f167) [] [] [(233,⟨[.t (.f 0) 1, .v, .t (.j 0) 1, .v],[],[.ls]⟩),(58,⟨[.t (.f 0) 1, .v, .t (.j 0) 1, .v],[],[.ls]⟩)] Try.func167 (by kernel_rfl) (by kernel_rfl) (by kernel_rfl) h
def E9.sg:Sg:=⟨[(1,[.t 8 0, .t 2 0, .t 1 0, .t 1 0]),(0,[.t 1 0])],[(1,[.t 8, .t 2, .t 1, .t 1]),(0,[.t 1])],[]⟩
def E9.txt (C:Ctx) (c0 c1 c2 c3 c4:List T) (K:J2):Prop:=
 cl2 C 122 CX.sg [] [c0,c1,c2,c3] fun v1 d2=>
 apW c4 true (cnt 1 []) (cnt 1 c4) 8 (
 BE (fun r5 x3 k4=>
 prP (bnI .gtr (iv (AD (nx x3 0))) (.int .i64 0)) fun t20_65=>
 gE t20_65 (
 gE t20_65 (
 gP t20_65 true (prP (bnI .leq (iv (cnt 1 (nxc k4 0))) (.int .i64 8))) fun t24_66=>
 prP (pk t20_65 t24_66 (.bool false)) fun t25_67=>
 AX t25_67 (
 ixW (AD (nx x3 0)) (.int .i64 0) fun t27_68=>
 ldc (nxc k4 1) [] ((AD (nx x3 1))+((AD t27_68)*1)) fun t28_69=>
 scW (AD (nx x3 0)) (some (.int .i64 1)) none fun l70 m71=>
 cl2 C 24 BD.sg [t28_69] [(nxc k4 2),(nxc k4 3),(nxc k4 4),(nxc k4 5)] fun v72 d73=>
 prP (bnI .lss (nx v72 0) (.int .i64 0)) fun t35_75=>
 AX t35_75 (
 r5 [(iv (AD m71)),(iv ((AD (nx x3 1))+((AD l70)*1)))] [(nxc k4 0),(nxc k4 1),(nxc k4 2),(nxc k4 3),(nxc k4 4),(nxc k4 5)]) (
 ixW (cnt 8 (nxc k4 2)) (nx v72 0) fun t42_76=>
 ldc (nxc k4 2) [] (((AD t42_76)*8)+5) fun t44_77=>
 prP (bnI .sub t44_77 (.int .i64 1)) fun t45_78=>
 ixW (cnt 8 (nxc k4 2)) (nx v72 0) fun t46_79=>
 stc (nxc k4 2) [] (((AD t46_79)*8)+5) t45_78 fun k80=>
 ixW (cnt 8 k80) (nx v72 0) fun t51_81=>
 ldc k80 [] (((AD t51_81)*8)+5) fun t53_82=>
 prP (bnI .gtr t53_82 (.int .i64 0)) fun t54_83=>
 AX t54_83 (
 BK (fun x85 k86=>
 r5 [(iv (AD (nx x85 0))),(iv (AD (nx x85 1)))] [(nxc k86 0),(nxc k86 1),(nxc k86 2),(nxc k86 3),(nxc k86 4),(nxc k86 5)]) fun j87=>
 ixW (cnt 8 k80) (nx v72 0) fun t58_88=>
 ldc k80 [] (((AD t58_88)*8)+7) fun t60_89=>
 prP (un .not t60_89) fun t61_90=>
 AX t61_90 (
 ixW (cnt 8 k80) (nx v72 0) fun t65_91=>
 stc k80 [] (((AD t65_91)*8)+7) (.bool true) fun k92=>
 apW [T.c t28_69] true (cnt 1 (nxc k4 4)) (cnt 1 [T.c t28_69]) 8 (
 j87 [(iv (AD m71)),(iv ((AD (nx x3 1))+((AD l70)*1)))] [(nxc k4 0),(nxc k4 1),k92,(nxc k4 3),((nxc k4 4)++[T.c t28_69]),(nxc k4 5)])) (
 j87 [(iv (AD m71)),(iv ((AD (nx x3 1))+((AD l70)*1)))] [(nxc k4 0),(nxc k4 1),k80,(nxc k4 3),(nxc k4 4),(nxc k4 5)])) (
 apW [T.c t28_69] true (cnt 1 (nxc k4 0)) (cnt 1 [T.c t28_69]) 8 (
 BE (fun r95 x93 k94=>
 ixW (cnt 8 (nxc k94 2)) (nx x93 3) fun t81_97=>
 ldl (nxc k94 2) [] (((AD t81_97)*8)+6) 1 fun t83_98=>
 prP (bnI .lss (nx x93 4) (iv (cnt 1 (FJ (nxc k94 2) [(((AD t81_97)*8)+6)])))) fun t85_99=>
 AX t85_99 (
 BK (fun x101 k102=>
 prP (bnI .add (nx x101 4) (.int .i64 1)) fun t87_113=>
 r95 [(iv (AD (nx x101 0))),(iv (AD (nx x101 1))),(nx x101 2),(nx x101 3),t87_113] [(nxc k102 0),(nxc k102 1),(nxc k102 2),(nxc k102 3),(nxc k102 4),(nxc k102 5)]) fun j103=>
 ixW (cnt 8 (nxc k94 2)) (nx x93 3) fun t91_104=>
 ldl (nxc k94 2) [] (((AD t91_104)*8)+6) 1 fun t93_105=>
 ixW (cnt 1 (FJ (nxc k94 2) [(((AD t91_104)*8)+6)])) (nx x93 4) fun t95_106=>
 ldc (nxc k94 2) [(((AD t91_104)*8)+6)] ((AD t95_106)*1) fun t96_107=>
 prP (bnI .geq t96_107 (.int .i64 0)) fun t97_108=>
 AX t97_108 (
 ixW (cnt 8 (nxc k94 2)) (nx x93 3) fun t102_109=>
 ldl (nxc k94 2) [] (((AD t102_109)*8)+6) 1 fun t104_110=>
 ixW (cnt 1 (FJ (nxc k94 2) [(((AD t102_109)*8)+6)])) (nx x93 4) fun t106_111=>
 ldc (nxc k94 2) [(((AD t102_109)*8)+6)] ((AD t106_111)*1) fun t107_112=>
 apW [T.c t107_112] true (AD (nx x93 0)) (cnt 1 [T.c t107_112]) 8 (
 j103 [(iv (cnt 1 ((GB (nxc k94 1) [] (AD (nx x93 1)) ((AD (nx x93 0))*1))++[T.c t107_112]))),(iv 0),(nx x93 2),(nx x93 3),(nx x93 4)] [(nxc k94 0),((GB (nxc k94 1) [] (AD (nx x93 1)) ((AD (nx x93 0))*1))++[T.c t107_112]),(nxc k94 2),(nxc k94 3),(nxc k94 4),(nxc k94 5)])) (
 j103 [(iv (AD (nx x93 0))),(iv (AD (nx x93 1))),(nx x93 2),(nx x93 3),(nx x93 4)] [(nxc k94 0),(nxc k94 1),(nxc k94 2),(nxc k94 3),(nxc k94 4),(nxc k94 5)])) (
 cl2 C 167 DP.sg [(nx x93 2)] [(nxc k94 4)] fun v114 d115=>
 ixW (cnt 8 (nxc k94 2)) (nx x93 3) fun t121_116=>
 ldc (nxc k94 2) [] (((AD t121_116)*8)+1) fun t123_117=>
 cl2 C 121 C0.sg [] [] fun v118 d119=>
 ixW (cnt 8 (nxc k94 2)) (nx x93 3) fun t126_120=>
 stg (nxc k94 2) [] ((AD t126_120)*8) [T.c (.bool false),T.c t123_117,T.c (.int .i64 0),T.c (.int .i64 0),T.c (.int .i64 0),T.c (.int .i64 0),T.l 1 (nxc d119 0),T.c (.bool false)] fun k121=>
 r5 [(iv (AD (nx x93 0))),(iv (AD (nx x93 1)))] [(nxc k94 0),(nxc k94 1),k121,(nxc k94 3),(nxc d115 0),(nxc k94 5)])) [(iv (AD m71)),(iv ((AD (nx x3 1))+((AD l70)*1))),t28_69,(nx v72 0),(.int .i64 0)] [((nxc k4 0)++[T.c t28_69]),(nxc k4 1),k80,(nxc k4 3),(nxc k4 4),(nxc k4 5)])))) (
 K [] [(nxc k4 2),(nxc k4 3),(nxc k4 4),(nxc k4 5),(nxc k4 0)])))) [(iv (cnt 1 ([]++c4))),(iv 0)] [[],([]++c4),(nxc d2 0),(nxc d2 1),(nxc d2 2),(nxc d2 3)])
theorem E9.cl2 {w0:World} {c0 c1 c2 c3 c4:List T} {K:J2} (h:E9.txt ⟨Try.prog,w0⟩ c0 c1 c2 c3 c4 K):Eng.cl2 ⟨Try.prog,w0⟩ 154 E9.sg [] [c0,c1,c2,c3,c4] K:=
 AY (C:=⟨Try.prog,w0⟩) (f:=154) (fn:=Try.f154) [(122,CX.sg),(24,BD.sg),(167,DP.sg),(121,C0.sg)] [(9,[0,1,0,0,8,0,56,120,248,504,1023,2047,4095]),(21,[0,1,0,0,8,0,56,120,248,0,1016,2047,4095])] [(254714,⟨[.p (.j 0) 0, .p (.j 1) 0, .t (.j 2) 1, .s (.j 3) 0 1],[],[.bx [.z, .z, .z, .z], .bx [.t (.j 4) 8, .t (.j 5) 2, .t (.j 6) 1, .t (.j 7) 1], .ls, .ls, .ls, .ls, .ls, .ls]⟩),(4075497,⟨[.p (.j 0) 0, .p (.j 1) 0, .t (.j 2) 1, .s (.j 3) 0 1, .v, .v, .v],[],[.bx [.z, .z, .z, .z], .bx [.t (.j 4) 8, .t (.j 5) 2, .t (.j 6) 1, .t (.j 7) 1], .ls, .ls, .ls, .ls, .ls, .ls]⟩),(1018874,⟨[.p (.j 0) 0, .p (.j 1) 0, .t (.j 2) 1, .s (.j 3) 0 1, .v, .v, .v],[],[.bx [.z, .z, .z, .z], .bx [.t (.j 4) 8, .t (.j 5) 2, .t (.j 6) 1, .t (.j 7) 1], .ls, .ls, .ls, .ls, .ls, .ls]⟩),(124,⟨[.p (.j 0) 0, .p (.j 1) 0, .t (.j 2) 1, .s (.j 3) 0 1],[],[.bx [.z, .z, .z, .z], .bx [.t (.j 4) 8, .t (.j 5) 2, .t (.j 6) 1, .t (.j 7) 1], .ls, .ls, .ls, .ls, .ls, .ls]⟩)] Try.func154 (by kernel_rfl) (by kernel_rfl) (by kernel_rfl) h
def FN.sg:Sg:=⟨[(1,[.t 8 2, .t 2 2, .t 1 2, .t 1 2]),(1,[.v, .v, .v, .v, .v])],[(1,[.t 8, .t 2, .t 1, .t 1]),(1,[.v, .v, .t 1])],[]⟩
def FN.txt (C:Ctx) (a0 a1 a2 a3 a4:Value) (c0 c1 c2 c3:List T) (K:J2):Prop:=
 cl2 C 24 BD.sg [a1] [c0,c1,c2,c3] fun v1 d2=>
 prP (bnI .lss (nx v1 0) (.int .i64 0)) fun t15_4=>
 AX t15_4 (
 K [(.int .i64 1),(.int .i64 0)] [c0,c1,c2,c3,[]]) (
 ixW (cnt 8 c0) (nx v1 0) fun t21_5=>
 ldg c0 [] ((AD t21_5)*8) [.c, .c, .c, .c, .c, .c, .l 1, .c] fun ts6=>
 BK (fun x8 k9=>
 cl2 C 154 E9.sg [] [(nxc k9 0),(nxc k9 1),(nxc k9 2),(nxc k9 3),[T.c (nx x8 1)]] fun v50 d51=>
 K [(.int .i64 0),(.int .i64 0)] [(nxc d51 0),(nxc d51 1),(nxc d51 2),(nxc d51 3),(nxc d51 4)]) fun j10=>
 BK (fun x12 k13=>
 AX (nx x12 1) (
 K [(.int .i64 4),(.int .i64 0)] [(nxc k13 0),(nxc k13 1),(nxc k13 2),(nxc k13 3),[]]) (
 BK (fun x22 k23=>
 AX (nx x22 1) (
 K [(.int .i64 5),(.int .i64 0)] [(nxc k23 0),(nxc k23 1),(nxc k23 2),(nxc k23 3),[]]) (
 prP (bnI .eql (nx x22 2) (.int .i64 2)) fun t72_31=>
 AX t72_31 (
 prP (bnI .add (nx x22 12) (.int .i64 1)) fun t78_32=>
 ixW (cnt 8 (nxc k23 0)) (nx x22 0) fun t79_33=>
 stc (nxc k23 0) [] (((AD t79_33)*8)+3) t78_32 fun k34=>
 cl2 C 153 EG.sg [(nx x22 3)] [k34,(nxc k23 1),(nxc k23 2),(nxc k23 3)] fun v35 d36=>
 K [(.int .i64 0),(.int .i64 0)] [(nxc d36 0),(nxc d36 1),(nxc d36 2),(nxc d36 3),[]]) (
 prP (bnI .eql (nx x22 2) (.int .i64 5)) fun t89_37=>
 AX t89_37 (
 prP (bnI .add (nx x22 13) (.int .i64 1)) fun t95_38=>
 ixW (cnt 8 (nxc k23 0)) (nx x22 0) fun t96_39=>
 stc (nxc k23 0) [] (((AD t96_39)*8)+4) t95_38 fun k40=>
 cl2 C 153 EG.sg [(nx x22 3)] [k40,(nxc k23 1),(nxc k23 2),(nxc k23 3)] fun v41 d42=>
 K [(.int .i64 0),(.int .i64 0)] [(nxc d42 0),(nxc d42 1),(nxc d42 2),(nxc d42 3),[]]) (
 prP (bnI .eql (nx x22 2) (.int .i64 3)) fun t106_43=>
 AX t106_43 (
 prP (bnI .sub (nx x22 12) (.int .i64 1)) fun t112_44=>
 ixW (cnt 8 (nxc k23 0)) (nx x22 0) fun t113_45=>
 stc (nxc k23 0) [] (((AD t113_45)*8)+3) t112_44 fun k46=>
 j10 [(nx x22 2),(nx x22 3),(nx x22 4),(nx x22 5),(nx x22 6),(nx x22 7),(nx x22 8)] [k46,(nxc k23 1),(nxc k23 2),(nxc k23 3)]) (
 prP (bnI .sub (nx x22 13) (.int .i64 1)) fun t28_47=>
 ixW (cnt 8 (nxc k23 0)) (nx x22 0) fun t29_48=>
 stc (nxc k23 0) [] (((AD t29_48)*8)+4) t28_47 fun k49=>
 j10 [(nx x22 2),(nx x22 3),(nx x22 4),(nx x22 5),(nx x22 6),(nx x22 7),(nx x22 8)] [k49,(nxc k23 1),(nxc k23 2),(nxc k23 3)]))))) fun j24=>
 prP (bnI .eql (nx x12 2) (.int .i64 3)) fun t53_25=>
 gE t53_25 (
 gE t53_25 (
 gP t53_25 true (prP (bnI .lss (nx x12 12) (.int .i64 1))) fun t57_26=>
 prP (pk t53_25 t57_26 (.bool false)) fun t58_27=>
 AX t58_27 (
 j24 [(nx x12 0),t58_27,(nx x12 2),(nx x12 3),(nx x12 4),(nx x12 5),(nx x12 6),(nx x12 7),(nx x12 8),(nx x12 9),(nx x12 10),(nx x12 11),(nx x12 12),(nx x12 13),(nx x12 14),(iv (AD (nx x12 15))),(nx x12 16)] [(nxc k13 0),(nxc k13 1),(nxc k13 2),(nxc k13 3)]) (
 prP (bnI .eql (nx x12 2) (.int .i64 6)) fun t61_28=>
 gE t61_28 (
 gE t61_28 (
 gP t61_28 true (prP (bnI .lss (nx x12 13) (.int .i64 1))) fun t65_29=>
 prP (pk t61_28 t65_29 (.bool false)) fun t66_30=>
 j24 [(nx x12 0),t66_30,(nx x12 2),(nx x12 3),(nx x12 4),(nx x12 5),(nx x12 6),(nx x12 7),(nx x12 8),(nx x12 9),(nx x12 10),(nx x12 11),(nx x12 12),(nx x12 13),(nx x12 14),(iv (AD (nx x12 15))),(nx x12 16)] [(nxc k13 0),(nxc k13 1),(nxc k13 2),(nxc k13 3)]))))))) fun j14=>
 prP (bnI .eql a0 (.int .i64 2)) fun t34_15=>
 gE t34_15 (
 gE t34_15 (
 gP t34_15 true (prP (bnI .geq (tv (nxT ts6 3)) (.int .i64 20))) fun t38_16=>
 prP (pk t34_15 t38_16 (.bool false)) fun t39_17=>
 AX t39_17 (
 j14 [(nx v1 0),t39_17,a0,a1,a2,a3,a4,(.int .i64 0),(.int .i64 0),(tv (nxT ts6 0)),(tv (nxT ts6 1)),(tv (nxT ts6 2)),(tv (nxT ts6 3)),(tv (nxT ts6 4)),(tv (nxT ts6 5)),(iv (((AD t21_5)*8)+6)),(tv (nxT ts6 7))] [c0,c1,c2,c3]) (
 prP (bnI .eql a0 (.int .i64 5)) fun t42_18=>
 gE t42_18 (
 gE t42_18 (
 gP t42_18 true (prP (bnI .geq (tv (nxT ts6 4)) (.int .i64 20))) fun t46_19=>
 prP (pk t42_18 t46_19 (.bool false)) fun t47_20=>
 j14 [(nx v1 0),t47_20,a0,a1,a2,a3,a4,(.int .i64 0),(.int .i64 0),(tv (nxT ts6 0)),(tv (nxT ts6 1)),(tv (nxT ts6 2)),(tv (nxT ts6 3)),(tv (nxT ts6 4)),(tv (nxT ts6 5)),(iv (((AD t21_5)*8)+6)),(tv (nxT ts6 7))] [c0,c1,c2,c3]))))))
theorem FN.cl2 {w0:World} {a0 a1 a2 a3 a4:Value} {c0 c1 c2 c3:List T} {K:J2} (h:FN.txt ⟨Try.prog,w0⟩ a0 a1 a2 a3 a4 c0 c1 c2 c3 K):Eng.cl2 ⟨Try.prog,w0⟩ 124 FN.sg [a0,a1,a2,a3,a4] [c0,c1,c2,c3] K:=
 AY (C:=⟨Try.prog,w0⟩) (f:=124) (fn:=Try.f124) [(24,BD.sg),(153,EG.sg),(154,E9.sg)] [] [(124,⟨[.p (.j 0) 0, .p (.j 1) 0, .p (.j 2) 0, .p (.j 3) 0, .v, .p (.j 4) 0, .v],[],[.bx [.t (.j 5) 8, .t (.j 6) 2, .t (.j 7) 1, .t (.j 8) 1], .bx [.v, .v, .v, .v, .v], .bx [.z, .z, .z, .z], .bx [.v, .v, .z], .bx [.v, .v, .v, .v, .v, .v, .n (.j 5) 1 1, .v], .ls, .ls, .ls, .ls]⟩),(499,⟨[.p (.j 0) 0, .p (.j 1) 0, .p (.j 2) 0, .p (.j 3) 0, .v, .p (.j 4) 0, .v],[],[.bx [.t (.j 5) 8, .t (.j 6) 2, .t (.j 7) 1, .t (.j 8) 1], .bx [.v, .v, .v, .v, .v], .bx [.z, .z, .z, .z], .bx [.v, .v, .z], .bx [.v, .v, .v, .v, .v, .v, .n (.j 5) 1 1, .v], .ls, .ls, .ls, .ls]⟩),(31,⟨[.p (.j 0) 0, .p (.j 1) 0, .p (.j 2) 0, .p (.j 3) 0],[],[.bx [.t (.j 4) 8, .t (.j 5) 2, .t (.j 6) 1, .t (.j 7) 1], .bx [.v, .v, .v, .v, .v], .bx [.z, .z, .z, .z], .bx [.v, .v, .z], .ls, .ls, .ls, .ls]⟩)] Try.func124 (by kernel_rfl) (by kernel_rfl) (by kernel_rfl) h
end Go.Proofs.Ytklmcfpgdfibnaa.P
