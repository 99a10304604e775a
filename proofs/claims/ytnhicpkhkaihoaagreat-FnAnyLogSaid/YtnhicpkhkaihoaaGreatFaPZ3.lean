/- A part of the proof. -/
import Derived.Test.YtnhicpkhkaihoaaGreatChecked
import Derived.Test.YtnhicpkhkaihoaaGreatFaPZ2
import Derived.KernelRfl
namespace Go.Proofs.YtnhicpkhkaihoaaGreat.P
open Go Go.Proofs.YtnhicpkhkaihoaaGreat Go.Proofs.YtnhicpkhkaihoaaGreat.Eng
set_option linter.unusedVariables false
set_option maxRecDepth 100000
def DI.sg:Sg:=⟨[(1,[.v, .t 1 0]),(1,[.v, .v, .v, .v, .v]),(1,[.v, .v, .t 1 0])],[(0,[.v]),(1,[.v, .t 1])],[]⟩
def DI.txt (C:Ctx) (a0 a1 a2 a3 a4 a5 a6 a7:Value) (c0 c1:List T) (K:J2):Prop:=
 cl2 C 81 EY.sg [a0] [c0] fun v1 d2=>
 cl2 C 87 HB.sg [a1,a2,a3,a4,a5] [] fun v3 d4=>
 prP (un .not (nx v3 0)) fun t18_6=>
 gE t18_6 (
 gP t18_6 false ((fun K=>cl2 C 88 ES.sg [a6,a7] [c1] fun v7 d8=>K (nx v7 0))) fun t21_9=>
 gP t18_6 false (prP (un .not t21_9)) fun t22_10=>
 prP (pk t18_6 (.bool true) t22_10) fun t23_11=>
 gE t23_11 (
 gP t23_11 false ((fun K=>cl2 C 89 JW.sg [a0] [c0] fun v12 d13=>K (nx v12 0))) fun t26_14=>
 gP t23_11 false (prP (un .not t26_14)) fun t27_15=>
 prP (pk t23_11 (.bool true) t27_15) fun t28_16=>
 AU t28_16 (
 K [(.string {data:= #[]}),(nx v1 0)] [(nxc d2 0)]) (
 cl2 C 90 EA.sg [a1] [] fun v17 d18=>
 prP (bnI .sub a2 a0) fun t37_20=>
 cl2 C 90 EA.sg [t37_20] [] fun v21 d22=>
 prP (bnS .add (nx v17 0) (nx v21 0)) fun t39_24=>
 cl2 C 90 EA.sg [a3] [] fun v25 d26=>
 prP (bnS .add t39_24 (nx v25 0)) fun t43_28=>
 prP (bnI .sub a4 a2) fun t48_29=>
 cl2 C 90 EA.sg [t48_29] [] fun v30 d31=>
 prP (bnS .add t43_28 (nx v30 0)) fun t50_33=>
 BX (fun x35 k36=>
 cl2 C 92 FO.sg [(nx x35 6)] [] fun v55 d56=>
 prP (bnI .sub (nx x35 7) (nx x35 2)) fun t88_58=>
 cl2 C 90 EA.sg [t88_58] [] fun v59 d60=>
 prP (bnS .add (nx v55 0) (nx v59 0)) fun t90_62=>
 cl2 C 92 FO.sg [(iv (cnt 1 c1))] [] fun v63 d64=>
 prP (bnS .add t90_62 (nx v63 0)) fun t95_66=>
 prP (bnS .add (nx x35 0) t95_66) fun t96_67=>
 BG (fun r70 x68 k69=>
 prP (bnI .lss (nx x68 3) (nx x68 2)) fun t103_72=>
 AU t103_72 (
 ixW (cnt 1 c1) (nx x68 3) fun t104_73=>
 ldc c1 [] ((AA t104_73)*1) fun t105_74=>
 prP (bnI .sub t105_74 (nx x68 1)) fun t109_75=>
 cl2 C 90 EA.sg [t109_75] [] fun v76 d77=>
 prP (bnS .add (nx x68 0) (nx v76 0)) fun t111_79=>
 prP (bnI .add (nx x68 3) (.int .i64 1)) fun t113_80=>
 r70 [t111_79,t105_74,(nx x68 2),t113_80,(nx x68 4),(nx x68 5)] [(nxc k69 0)]) (
 K [(nx x68 0),(nx x68 5)] [(nxc k69 0)])) [t96_67,(nx x35 2),(iv (cnt 1 c1)),(.int .i64 0),(nx x35 8),(nx x35 9)] [(nxc k36 0)]) fun j37=>
 cl2 C 91 FE.sg [a5] [c0] fun v38 d39=>
 prP (bnI .geq (nx v38 0) (.int .i64 0)) fun t60_41=>
 AU t60_41 (
 prP (bnI .add (nx v38 0) (.int .i64 1)) fun t63_42=>
 cl2 C 92 FO.sg [t63_42] [] fun v43 d44=>
 prP (bnS .add t50_33 (nx v43 0)) fun t65_46=>
 j37 [t65_46,a1,a2,a3,a4,a5,a6,a7,(.int .i64 0),a2] [(nxc d2 0)]) (
 cl2 C 92 FO.sg [(.int .i64 0)] [] fun v47 d48=>
 cl2 C 93 H3.sg [a5] [] fun v50 d51=>
 prP (bnS .add (nx v47 0) (nx v50 0)) fun t71_53=>
 prP (bnS .add t50_33 t71_53) fun t72_54=>
 apW [T.c a5] true (cnt 1 (nxc d2 0)) (cnt 1 [T.c a5]) 16 (
 j37 [t72_54,a1,a2,a3,a4,a5,a6,a7,(.int .i64 0),a2] [((nxc d2 0)++[T.c a5])])))))
theorem DI.cl2 {w0:World} {a0 a1 a2 a3 a4 a5 a6 a7:Value} {c0 c1:List T} {K:J2} (h:DI.txt ⟨Tryz.prog,w0⟩ a0 a1 a2 a3 a4 a5 a6 a7 c0 c1 K):Eng.cl2 ⟨Tryz.prog,w0⟩ 46 DI.sg [a0,a1,a2,a3,a4,a5,a6,a7] [c0,c1] K:=
 AB (C:=⟨Tryz.prog,w0⟩) (f:=46) (fn:=Tryz.f46) [(81,EY.sg),(87,HB.sg),(88,ES.sg),(89,JW.sg),(90,EA.sg),(91,FE.sg),(92,FO.sg),(93,H3.sg)] [(3,[0,0,3]),(4,[0,1,3,0,8,0,32,120,255,511,0,1024,3583,8191,0,16384,0,65536,245760,515583,1048575,2097151]),(9,[0,0,0,4,14,30,63,127]),(11,[0,0,2,6,0,16,0,64,240,510,1022,0,2048,6144,15358,32766,65535,131071]),(19,[0,0,1,7])] [(63,⟨[.p (.j 0) 0, .p (.j 1) 0, .p (.j 2) 0, .p (.j 3) 0, .v],[],[.bx [.v, .v, .v, .v, .v], .bx [.v, .v, .t (.f 1) 1], .bx [.v, .z], .bx [.v, .t (.j 4) 1], .ls]⟩),(4090,⟨[.p (.j 0) 0, .p (.j 1) 0, .v, .v, .t (.f 1) 1, .v, .v],[],[.bx [.v, .z], .bx [.v, .t (.j 2) 1], .ls]⟩)] Tryz.func46 (by kernel_rfl) (by kernel_rfl) (by kernel_rfl) h
def L8.sg:Sg:=⟨[(0,[.v])],[(0,[.v])],[]⟩
def L8.txt (C:Ctx) (a0:Value) (K:J2):Prop:=
 BG (fun r3 x1 k2=>
 prP (lnS (nx x1 0)) fun t8_5=>
 prP (bnI .lss (nx x1 2) t8_5) fun t9_6=>
 AU t9_6 (
 prP (ix (nx x1 0) (nx x1 2)) fun t15_7=>
 prP (cvI .u32 t15_7) fun t16_8=>
 prP (bnI .xor (nx x1 1) t16_8) fun t17_9=>
 BG (fun r12 x10 k11=>
 prP (bnI .lss (nx x10 3) (.int .i64 8)) fun t19_14=>
 AU t19_14 (
 BX (fun x16 k17=>
 prP (bnI .add (nx x16 3) (.int .i64 1)) fun t28_23=>
 r12 [(nx x16 0),(nx x16 1),(nx x16 2),t28_23] []) fun j18=>
 prP (bnI .and (nx x10 1) (.int .u32 1)) fun t21_19=>
 prP (bnI .shr (nx x10 1) (.int .u64 1)) fun t23_20=>
 prP (bnI .eql t21_19 (.int .u32 1)) fun t25_21=>
 AU t25_21 (
 prP (bnI .xor t23_20 (.int .u32 2197175160)) fun t27_22=>
 j18 [(nx x10 0),t27_22,(nx x10 2),(nx x10 3)] []) (
 j18 [(nx x10 0),t23_20,(nx x10 2),(nx x10 3)] [])) (
 prP (bnI .add (nx x10 2) (.int .i64 1)) fun t11_24=>
 r3 [(nx x10 0),(nx x10 1),t11_24] [])) [(nx x1 0),t17_9,(nx x1 2),(.int .i64 0)] []) (
 prP (un .xor (nx x1 1)) fun t30_25=>
 prP (cvI .i64 t30_25) fun t31_26=>
 K [t31_26] [])) [a0,(.int .u32 4294967295),(.int .i64 0)] []
theorem L8.cl2 {w0:World} {a0:Value} {K:J2} (h:L8.txt ⟨Tryz.prog,w0⟩ a0 K):Eng.cl2 ⟨Tryz.prog,w0⟩ 153 L8.sg [a0] [] K:=
 AB (C:=⟨Tryz.prog,w0⟩) (f:=153) (fn:=Tryz.f153) [] [] [(59699,⟨[.v, .v, .v, .v],[],[]⟩),(7462,⟨[.v, .v, .v, .v],[],[]⟩),(58,⟨[.v, .v, .v],[],[]⟩)] Tryz.func153 (by kernel_rfl) (by kernel_rfl) (by kernel_rfl) h
def JP.sg:Sg:=⟨[(0,[.v]),(0,[.v])],[(0,[.v])],[]⟩
def JP.txt (C:Ctx) (a0 a1:Value) (K:J2):Prop:=
 cl2 C 94 B7.sg [a1,(.int .i64 1),(.int .i64 7)] [] fun v1 d2=>
 prP (un .not (nx v1 0)) fun t9_4=>
 gE t9_4 (
 gE t9_4 (
 gP t9_4 false (prP (bnI .mul (.int .i64 8) a1)) fun t13_5=>
 gP t9_4 false (prP (bnI .shl (.int .i64 1) t13_5)) fun t14_6=>
 gP t9_4 false (prP (bnI .sub t14_6 (.int .i64 1))) fun t15_7=>
 gP t9_4 false ((fun K=>cl2 C 94 B7.sg [a0,(.int .i64 0),t15_7] [] fun v8 d9=>K (nx v8 0))) fun t16_10=>
 gP t9_4 false (prP (un .not t16_10)) fun t17_11=>
 prP (pk t9_4 (.bool true) t17_11) fun t18_12=>
 AU t18_12 (
 K [(.string {data:= #[]})] []) (
 prP (bnI .sub a1 (.int .i64 1)) fun t20_13=>
 BG (fun r16 x14 k15=>
 prP (bnI .geq (nx x14 1) (.int .i64 0)) fun t22_25=>
 AU t22_25 (
 prP (bnI .mul (.int .i64 8) (nx x14 1)) fun t28_26=>
 prP (bnI .shr (nx x14 0) t28_26) fun t29_27=>
 prP (cvI .u8 t29_27) fun t30_28=>
 apW [T.c t30_28] true (cnt 1 (nxc k15 0)) (cnt 1 [T.c t30_28]) 1 (
 prP (bnI .sub (nx x14 1) (.int .i64 1)) fun t24_29=>
 r16 [(nx x14 0),t24_29] [((nxc k15 0)++[T.c t30_28])])) (
 prP (b2T (nxc k15 0)) fun t34_30=>
 K [t34_30] [])) [a0,t20_13] [[]])))
theorem JP.cl2 {w0:World} {a0 a1:Value} {K:J2} (h:JP.txt ⟨Tryz.prog,w0⟩ a0 a1 K):Eng.cl2 ⟨Tryz.prog,w0⟩ 152 JP.sg [a0,a1] [] K:=
 AB (C:=⟨Tryz.prog,w0⟩) (f:=152) (fn:=Tryz.f152) [(94,B7.sg)] [] [(122,⟨[.v, .t (.j 0) 1, .v],[],[.ls]⟩)] Tryz.func152 (by kernel_rfl) (by kernel_rfl) (by kernel_rfl) h
def DK.sg:Sg:=⟨[(0,[.v]),(0,[.v])],[(0,[.v])],[]⟩
def DK.txt (C:Ctx) (a0 a1:Value) (K:J2):Prop:=
 cl2 C 94 B7.sg [a0,(.int .i64 0),(.int .i64 400)] [] fun v1 d2=>
 prP (un .not (nx v1 0)) fun t8_4=>
 gE t8_4 (
 gP t8_4 false (prP (lnS a1)) fun t11_5=>
 gP t8_4 false (prP (bnI .gtr t11_5 (.int .i64 200))) fun t12_6=>
 prP (pk t8_4 (.bool true) t12_6) fun t13_7=>
 AU t13_7 (
 K [(.string {data:= #[]})] []) (
 cl2 C 92 FO.sg [a0] [] fun v8 d9=>
 prP (lnS a1) fun t17_11=>
 cl2 C 92 FO.sg [t17_11] [] fun v12 d13=>
 prP (bnS .add (nx v8 0) (nx v12 0)) fun t19_15=>
 prP (bnS .add t19_15 a1) fun t21_16=>
 cl2 C 153 L8.sg [t21_16] [] fun v17 d18=>
 cl2 C 152 JP.sg [(nx v17 0),(.int .i64 4)] [] fun v20 d21=>
 prP (bnS .add t21_16 (nx v20 0)) fun t26_23=>
 K [t26_23] []))
theorem DK.cl2 {w0:World} {a0 a1:Value} {K:J2} (h:DK.txt ⟨Tryz.prog,w0⟩ a0 a1 K):Eng.cl2 ⟨Tryz.prog,w0⟩ 95 DK.sg [a0,a1] [] K:=
 AB (C:=⟨Tryz.prog,w0⟩) (f:=95) (fn:=Tryz.f95) [(94,B7.sg),(92,FO.sg),(153,L8.sg),(152,JP.sg)] [] [] Tryz.func95 (by kernel_rfl) (by kernel_rfl) (by kernel_rfl) h
def HO.sg:Sg:=⟨[(0,[.t 1 0])],[(0,[.v])],[]⟩
def HO.txt (C:Ctx) (c0:List T) (K:J2):Prop:=
 prP (bnI .gtr (iv (cnt 1 c0)) (.int .i64 400)) fun t8_1=>
 AU t8_1 (
 K [(.string {data:= #[]})] []) (
 BG (fun r4 x2 k3=>
 prP (bnI .lss (nx x2 2) (nx x2 1)) fun t12_6=>
 AU t12_6 (
 ixW (cnt 1 c0) (nx x2 2) fun t14_7=>
 ldc c0 [] ((AA t14_7)*1) fun t15_8=>
 prP (lnS t15_8) fun t17_9=>
 cl2 C 94 B7.sg [t17_9,(.int .i64 1),(.int .i64 200)] [] fun v10 d11=>
 prP (un .not (nx v10 0)) fun t19_13=>
 AU t19_13 (
 K [(.string {data:= #[]})] []) (
 cl2 C 95 DK.sg [(nx x2 2),t15_8] [] fun v14 d15=>
 prP (bnS .add (nx x2 0) (nx v14 0)) fun t24_17=>
 prP (bnI .add (nx x2 2) (.int .i64 1)) fun t25_18=>
 r4 [t24_17,(nx x2 1),t25_18] [])) (
 cl2 C 95 DK.sg [(iv (cnt 1 c0)),(.string {data:= #[]})] [] fun v19 d20=>
 prP (bnS .add (nx x2 0) (nx v19 0)) fun t30_22=>
 K [t30_22] [])) [(.string {data:= #[72,76,79,71,1]}),(iv (cnt 1 c0)),(.int .i64 0)] [])
theorem HO.cl2 {w0:World} {c0:List T} {K:J2} (h:HO.txt ⟨Tryz.prog,w0⟩ c0 K):Eng.cl2 ⟨Tryz.prog,w0⟩ 47 HO.sg [] [c0] K:=
 AB (C:=⟨Tryz.prog,w0⟩) (f:=47) (fn:=Tryz.f47) [(94,B7.sg),(95,DK.sg)] [] [(122,⟨[.t (.f 0) 1, .v, .t (.f 0) 1, .v, .v],[],[]⟩)] Tryz.func47 (by kernel_rfl) (by kernel_rfl) (by kernel_rfl) h
def IZ.sg:Sg:=⟨[(0,[.t 5 0]),(0,[.t 3 0])],[(0,[.v])],[]⟩
def IZ.txt (C:Ctx) (c0 c1:List T) (K:J2):Prop:=
 prP (bnI .neq (iv (cnt 5 c0)) (iv (cnt 3 c1))) fun t15_1=>
 gE t15_1 (
 gE t15_1 (
 gP t15_1 false (prP (bnI .geq (iv (cnt 5 c0)) (.int .i64 400))) fun t19_2=>
 prP (pk t15_1 (.bool true) t19_2) fun t20_3=>
 AU t20_3 (
 K [(.string {data:= #[]})] []) (
 BG (fun r6 x4 k5=>
 prP (bnI .lss (nx x4 1) (nx x4 0)) fun t24_21=>
 AU t24_21 (
 ixW (cnt 5 c0) (nx x4 1) fun t26_22=>
 ldg c0 [] ((AA t26_22)*5) [.c, .c, .c, .c, .c] fun ts23=>
 ixW (cnt 3 c1) (nx x4 1) fun t33_24=>
 ldg c1 [] ((AA t33_24)*3) [.c, .c, .l 1] fun ts25=>
 cl2 C 46 DI.sg [(nx x4 2),(tv (nxT ts23 0)),(tv (nxT ts23 1)),(tv (nxT ts23 2)),(tv (nxT ts23 3)),(tv (nxT ts23 4)),(tv (nxT ts25 0)),(tv (nxT ts25 1))] [(nxc k5 1),(HF c1 [(((AA t33_24)*3)+2)])] fun v26 d27=>
 prP (bnS .eql (nx v26 0) (.string {data:= #[]})) fun t39_28=>
 AU t39_28 (
 K [(.string {data:= #[]})] []) (
 apW [T.c (nx v26 0)] true (cnt 1 (nxc k5 0)) (cnt 1 [T.c (nx v26 0)]) 16 (
 prP (bnI .add (nx x4 1) (.int .i64 1)) fun t45_29=>
 r6 [(nx x4 0),t45_29,(nx v26 1)] [((nxc k5 0)++[T.c (nx v26 0)]),(nxc d27 0)]))) (
 cl2 C 47 HO.sg [] [(nxc k5 0)] fun v30 d31=>
 K [(nx v30 0)] [])) [(iv (cnt 5 c0)),(.int .i64 0),(.int .i64 0)] [[],[]])))
theorem IZ.cl2 {w0:World} {c0 c1:List T} {K:J2} (h:IZ.txt ⟨Tryz.prog,w0⟩ c0 c1 K):Eng.cl2 ⟨Tryz.prog,w0⟩ 17 IZ.sg [] [c0,c1] K:=
 AB (C:=⟨Tryz.prog,w0⟩) (f:=17) (fn:=Tryz.f17) [(46,DI.sg),(47,HO.sg)] [(8,[0,0,0,0,12,28,63,127,255,255,0,1535,4095])] [(250,⟨[.t (.f 1) 3, .t (.j 0) 1, .p (.j 1) 0, .t (.f 0) 5, .v, .v],[],[.ls, .bx [.v, .t (.j 2) 1], .ls]⟩)] Tryz.func17 (by kernel_rfl) (by kernel_rfl) (by kernel_rfl) h
def CL.sg:Sg:=⟨[(0,[.v])],[(0,[.v]),(0,[.v])],[]⟩
def CL.txt (C:Ctx) (a0:Value) (K:J2):Prop:=
 BG (fun r3 x1 k2=>
 prP (bnI .leq (nx x1 1) (.int .i64 7)) fun t8_5=>
 gE t8_5 (
 gE t8_5 (
 gP t8_5 true (prP (lnS (nx x1 0))) fun t12_6=>
 gP t8_5 true (prP (bnI .leq (nx x1 1) t12_6)) fun t13_7=>
 prP (pk t8_5 t13_7 (.bool false)) fun t14_8=>
 AU t14_8 (
 prP (bnI .sub (nx x1 1) (.int .i64 1)) fun t18_9=>
 BG (fun r12 x10 k11=>
 prP (bnI .geq (nx x10 3) (.int .i64 0)) fun t20_14=>
 AU t20_14 (
 prP (bnI .mul (nx x10 2) (.int .i64 128)) fun t24_15=>
 prP (ix (nx x10 0) (nx x10 3)) fun t27_16=>
 prP (cvI .i64 t27_16) fun t28_17=>
 prP (bnI .rem t28_17 (.int .i64 128)) fun t29_18=>
 prP (bnI .add t24_15 t29_18) fun t30_19=>
 prP (bnI .sub (nx x10 3) (.int .i64 1)) fun t22_20=>
 r12 [(nx x10 0),(nx x10 1),t30_19,t22_20] []) (
 cl2 C 136 EI.sg [(nx x10 2)] [] fun v21 d22=>
 prP (scS (nx x10 0) none (some (nx x10 1))) fun t35_24=>
 prP (bnS .eql (nx v21 0) t35_24) fun t36_25=>
 AU t36_25 (
 K [(nx x10 2),(nx x10 1)] []) (
 prP (bnI .add (nx x10 1) (.int .i64 1)) fun t16_26=>
 r3 [(nx x10 0),t16_26] []))) [(nx x1 0),(nx x1 1),(.int .i64 0),t18_9] []) (
 K [(.int .i64 0),(.int .i64 0)] [])))) [a0,(.int .i64 1)] []
theorem CL.cl2 {w0:World} {a0:Value} {K:J2} (h:CL.txt ⟨Tryz.prog,w0⟩ a0 K):Eng.cl2 ⟨Tryz.prog,w0⟩ 101 CL.sg [a0] [] K:=
 AB (C:=⟨Tryz.prog,w0⟩) (f:=101) (fn:=Tryz.f101) [(136,EI.sg)] [(9,[0,1,0,0,12,31])] [(6730,⟨[.v, .v, .v, .v],[],[]⟩),(26,⟨[.v, .v],[],[]⟩)] Tryz.func101 (by kernel_rfl) (by kernel_rfl) (by kernel_rfl) h
def FP.sg:Sg:=⟨[(0,[.v])],[(0,[.v]),(0,[.v]),(0,[.v])],[]⟩
def FP.txt (C:Ctx) (a0:Value) (K:J2):Prop:=
 cl2 C 101 CL.sg [a0] [] fun v1 d2=>
 prP (bnI .eql (nx v1 1) (.int .i64 0)) fun t16_3=>
 AU t16_3 (
 K [(.int .i64 0),(.string {data:= #[]}),(.int .i64 0)] []) (
 prP (scS a0 (some (nx v1 1)) none) fun t20_4=>
 cl2 C 101 CL.sg [t20_4] [] fun v5 d6=>
 prP (bnI .eql (nx v5 1) (.int .i64 0)) fun t25_7=>
 gE t25_7 (
 gP t25_7 false (prP (bnI .gtr (nx v5 0) (.int .i64 200))) fun t28_8=>
 prP (pk t25_7 (.bool true) t28_8) fun t29_9=>
 gE t29_9 (
 gE t29_9 (
 gP t29_9 false (prP (lnS a0)) fun t33_10=>
 gE t29_9 (
 gP t29_9 false (prP (bnI .sub t33_10 (nx v1 1))) fun t35_11=>
 gE t29_9 (
 gP t29_9 false (prP (bnI .sub t35_11 (nx v5 1))) fun t37_12=>
 gP t29_9 false (prP (bnI .sub t37_12 (.int .i64 4))) fun t38_13=>
 gP t29_9 false (prP (bnI .gtr (nx v5 0) t38_13)) fun t39_14=>
 prP (pk t29_9 (.bool true) t39_14) fun t40_15=>
 AU t40_15 (
 K [(.int .i64 0),(.string {data:= #[]}),(.int .i64 0)] []) (
 prP (bnI .add (nx v1 1) (nx v5 1)) fun t44_16=>
 prP (bnI .add (nx v1 1) (nx v5 1)) fun t47_17=>
 prP (bnI .add t47_17 (nx v5 0)) fun t49_18=>
 prP (scS a0 (some t44_16) (some t49_18)) fun t50_19=>
 cl2 C 137 DL.sg [(nx v1 0),t50_19] [] fun v20 d21=>
 prP (bnI .add (nx v1 1) (nx v5 1)) fun t57_23=>
 prP (bnI .add t57_23 (nx v5 0)) fun t59_24=>
 prP (bnI .add t59_24 (.int .i64 4)) fun t60_25=>
 prP (scS a0 none (some t60_25)) fun t61_26=>
 prP (bnS .neq (nx v20 0) t61_26) fun t62_27=>
 AU t62_27 (
 K [(.int .i64 0),(.string {data:= #[]}),(.int .i64 0)] []) (
 prP (bnI .add (nx v1 1) (nx v5 1)) fun t67_28=>
 prP (bnI .add t67_28 (nx v5 0)) fun t69_29=>
 prP (bnI .add t69_29 (.int .i64 4)) fun t70_30=>
 K [(nx v1 0),t50_19,t70_30] []))))))))
theorem FP.cl2 {w0:World} {a0:Value} {K:J2} (h:FP.txt ⟨Tryz.prog,w0⟩ a0 K):Eng.cl2 ⟨Tryz.prog,w0⟩ 98 FP.sg [a0] [] K:=
 AB (C:=⟨Tryz.prog,w0⟩) (f:=98) (fn:=Tryz.f98) [(101,CL.sg),(137,DL.sg)] [(8,[0,0,3,0,0,0,48,0,240,496,1016,2047])] [] Tryz.func98 (by kernel_rfl) (by kernel_rfl) (by kernel_rfl) h
def IV.sg:Sg:=⟨[(0,[.v])],[(0,[.t 1]),(0,[.v])],[]⟩
def IV.txt (C:Ctx) (a0:Value) (K:J2):Prop:=
 cl2 C 97 GS.sg [] [] fun v1 d2=>
 prP (lnS a0) fun t14_4=>
 prP (lnS (nx v1 0)) fun t16_5=>
 prP (bnI .lss t14_4 t16_5) fun t17_6=>
 gE t17_6 (
 gE t17_6 (
 gP t17_6 false (prP (lnS (nx v1 0))) fun t21_7=>
 gP t17_6 false (prP (scS a0 none (some t21_7))) fun t22_8=>
 gE t17_6 (
 gP t17_6 false (prP (bnS .neq t22_8 (nx v1 0))) fun t24_9=>
 prP (pk t17_6 (.bool true) t24_9) fun t25_10=>
 AU t25_10 (
 K [(.int .i64 1)] [[]]) (
 prP (lnS (nx v1 0)) fun t29_11=>
 BG (fun r14 x12 k13=>
 prP (lnS (nx x12 0)) fun t32_16=>
 prP (bnI .lss (nx x12 1) t32_16) fun t33_17=>
 AU t33_17 (
 prP (scS (nx x12 0) (some (nx x12 1)) none) fun t37_18=>
 cl2 C 98 FP.sg [t37_18] [] fun v19 d20=>
 prP (bnI .eql (nx v19 2) (.int .i64 0)) fun t43_21=>
 AU t43_21 (
 K [(.int .i64 2)] [(nxc k13 0)]) (
 prP (bnI .neq (nx v19 0) (iv (cnt 1 (nxc k13 1)))) fun t48_22=>
 AU t48_22 (
 K [(.int .i64 3)] [(nxc k13 0)]) (
 prP (bnI .add (nx x12 1) (nx v19 2)) fun t52_23=>
 prP (bnS .eql (nx v19 1) (.string {data:= #[]})) fun t54_24=>
 AU t54_24 (
 prP (lnS (nx x12 0)) fun t57_25=>
 prP (bnI .lss t52_23 t57_25) fun t58_26=>
 AU t58_26 (
 K [(.int .i64 5)] [(nxc k13 0)]) (
 K [(.int .i64 0)] [(nxc k13 1)])) (
 apW [T.c (nx v19 1)] true (cnt 1 (nxc k13 1)) (cnt 1 [T.c (nx v19 1)]) 16 (
 r14 [(nx x12 0),t52_23] [(nxc k13 0),((nxc k13 1)++[T.c (nx v19 1)])]))))) (
 K [(.int .i64 4)] [(nxc k13 0)])) [a0,t29_11] [[],[]]))))
theorem IV.cl2 {w0:World} {a0:Value} {K:J2} (h:IV.txt ⟨Tryz.prog,w0⟩ a0 K):Eng.cl2 ⟨Tryz.prog,w0⟩ 50 IV.sg [a0] [] K:=
 AB (C:=⟨Tryz.prog,w0⟩) (f:=50) (fn:=Tryz.f50) [(97,GS.sg),(98,FP.sg)] [] [(508,⟨[.v, .t (.j 0) 1, .t (.j 1) 1, .v],[],[.ls, .ls]⟩)] Tryz.func50 (by kernel_rfl) (by kernel_rfl) (by kernel_rfl) h
def K9.sg:Sg:=⟨[(0,[.v])],[(0,[.v])],[]⟩
def K9.txt (C:Ctx) (a0:Value) (K:J2):Prop:=
 prP (bnI .rem a0 (.int .i64 2)) fun t4_1=>
 prP (bnI .eql t4_1 (.int .i64 0)) fun t5_2=>
 AU t5_2 (
 prP (bnI .quo a0 (.int .i64 2)) fun t7_3=>
 K [t7_3] []) (
 prP (bnI .quo a0 (.int .i64 2)) fun t9_4=>
 prP (un .neg t9_4) fun t10_5=>
 prP (bnI .sub t10_5 (.int .i64 1)) fun t11_6=>
 K [t11_6] [])
theorem K9.cl2 {w0:World} {a0:Value} {K:J2} (h:K9.txt ⟨Tryz.prog,w0⟩ a0 K):Eng.cl2 ⟨Tryz.prog,w0⟩ 183 K9.sg [a0] [] K:=
 AB (C:=⟨Tryz.prog,w0⟩) (f:=183) (fn:=Tryz.f183) [] [] [] Tryz.func183 (by kernel_rfl) (by kernel_rfl) (by kernel_rfl) h
def HY.sg:Sg:=⟨[(0,[.v])],[(0,[.v]),(0,[.v])],[]⟩
def HY.txt (C:Ctx) (a0:Value) (K:J2):Prop:=
 cl2 C 101 CL.sg [a0] [] fun v1 d2=>
 prP (bnI .eql (nx v1 1) (.int .i64 0)) fun t12_3=>
 gE t12_3 (
 gP t12_3 false ((fun K=>cl2 C 183 K9.sg [(nx v1 0)] [] fun v4 d5=>K (nx v4 0))) fun t15_6=>
 gP t12_3 false ((fun K=>cl2 C 135 DF.sg [t15_6] [] fun v7 d8=>K (nx v7 0))) fun t16_9=>
 gE t12_3 (
 gE t12_3 (
 gP t12_3 false (prP (scS a0 none (some (nx v1 1)))) fun t19_10=>
 gP t12_3 false (prP (bnS .neq t16_9 t19_10)) fun t20_11=>
 prP (pk t12_3 (.bool true) t20_11) fun t21_12=>
 AU t21_12 (
 K [(.int .i64 0),(.int .i64 0)] []) (
 cl2 C 183 K9.sg [(nx v1 0)] [] fun v13 d14=>
 K [(nx v13 0),(nx v1 1)] []))))
theorem HY.cl2 {w0:World} {a0:Value} {K:J2} (h:HY.txt ⟨Tryz.prog,w0⟩ a0 K):Eng.cl2 ⟨Tryz.prog,w0⟩ 155 HY.sg [a0] [] K:=
 AB (C:=⟨Tryz.prog,w0⟩) (f:=155) (fn:=Tryz.f155) [(101,CL.sg),(183,K9.sg),(135,DF.sg)] [(2,[0,1,3,7,15,31,7,7,199,511,1023])] [] Tryz.func155 (by kernel_rfl) (by kernel_rfl) (by kernel_rfl) h
end Go.Proofs.YtnhicpkhkaihoaaGreat.P
