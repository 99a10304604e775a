/- A part of the proof. -/
import Derived.Test.YtnhicpkhkaihoaaGreatChecked
import Derived.Test.YtnhicpkhkaihoaaGreatFtPZ2
import Derived.KernelRfl
namespace Go.Proofs.YtnhicpkhkaihoaaGreat.P
open Go Go.Proofs.YtnhicpkhkaihoaaGreat Go.Proofs.YtnhicpkhkaihoaaGreat.Eng
set_option linter.unusedVariables false
set_option maxRecDepth 100000
def DE.sg:Sg:=⟨[(1,[.v, .t 1 0]),(1,[.v, .v, .v, .v, .v]),(1,[.v, .v, .t 1 0])],[(0,[.v]),(1,[.v, .t 1])],[]⟩
def DE.txt (C:Ctx) (a0 a1 a2 a3 a4 a5 a6 a7:Value) (c0 c1:List T) (K:J2):Prop:=
 cl2 C 81 EK.sg [a0] [c0] fun v1 d2=>
 cl2 C 87 GW.sg [a1,a2,a3,a4,a5] [] fun v3 d4=>
 prP (un .not (nx v3 0)) fun t18_6=>
 gE t18_6 (
 gP t18_6 false ((fun K=>cl2 C 88 EJ.sg [a6,a7] [c1] fun v7 d8=>K (nx v7 0))) fun t21_9=>
 gP t18_6 false (prP (un .not t21_9)) fun t22_10=>
 prP (pk t18_6 (.bool true) t22_10) fun t23_11=>
 gE t23_11 (
 gP t23_11 false ((fun K=>cl2 C 89 JB.sg [a0] [c0] fun v12 d13=>K (nx v12 0))) fun t26_14=>
 gP t23_11 false (prP (un .not t26_14)) fun t27_15=>
 prP (pk t23_11 (.bool true) t27_15) fun t28_16=>
 AV t28_16 (
 K [(.string {data:= #[]}),(nx v1 0)] [(nxc d2 0)]) (
 cl2 C 90 DW.sg [a1] [] fun v17 d18=>
 prP (bnI .sub a2 a0) fun t37_20=>
 cl2 C 90 DW.sg [t37_20] [] fun v21 d22=>
 prP (bnS .add (nx v17 0) (nx v21 0)) fun t39_24=>
 cl2 C 90 DW.sg [a3] [] fun v25 d26=>
 prP (bnS .add t39_24 (nx v25 0)) fun t43_28=>
 prP (bnI .sub a4 a2) fun t48_29=>
 cl2 C 90 DW.sg [t48_29] [] fun v30 d31=>
 prP (bnS .add t43_28 (nx v30 0)) fun t50_33=>
 BW (fun x35 k36=>
 cl2 C 92 FG.sg [(nx x35 6)] [] fun v55 d56=>
 prP (bnI .sub (nx x35 7) (nx x35 2)) fun t88_58=>
 cl2 C 90 DW.sg [t88_58] [] fun v59 d60=>
 prP (bnS .add (nx v55 0) (nx v59 0)) fun t90_62=>
 cl2 C 92 FG.sg [(iv (cnt 1 c1))] [] fun v63 d64=>
 prP (bnS .add t90_62 (nx v63 0)) fun t95_66=>
 prP (bnS .add (nx x35 0) t95_66) fun t96_67=>
 BC (fun r70 x68 k69=>
 prP (bnI .lss (nx x68 3) (nx x68 2)) fun t103_72=>
 AV t103_72 (
 ixW (cnt 1 c1) (nx x68 3) fun t104_73=>
 ldc c1 [] ((AA t104_73)*1) fun t105_74=>
 prP (bnI .sub t105_74 (nx x68 1)) fun t109_75=>
 cl2 C 90 DW.sg [t109_75] [] fun v76 d77=>
 prP (bnS .add (nx x68 0) (nx v76 0)) fun t111_79=>
 prP (bnI .add (nx x68 3) (.int .i64 1)) fun t113_80=>
 r70 [t111_79,t105_74,(nx x68 2),t113_80,(nx x68 4),(nx x68 5)] [(nxc k69 0)]) (
 K [(nx x68 0),(nx x68 5)] [(nxc k69 0)])) [t96_67,(nx x35 2),(iv (cnt 1 c1)),(.int .i64 0),(nx x35 8),(nx x35 9)] [(nxc k36 0)]) fun j37=>
 cl2 C 91 ET.sg [a5] [c0] fun v38 d39=>
 prP (bnI .geq (nx v38 0) (.int .i64 0)) fun t60_41=>
 AV t60_41 (
 prP (bnI .add (nx v38 0) (.int .i64 1)) fun t63_42=>
 cl2 C 92 FG.sg [t63_42] [] fun v43 d44=>
 prP (bnS .add t50_33 (nx v43 0)) fun t65_46=>
 j37 [t65_46,a1,a2,a3,a4,a5,a6,a7,(.int .i64 0),a2] [(nxc d2 0)]) (
 cl2 C 92 FG.sg [(.int .i64 0)] [] fun v47 d48=>
 cl2 C 93 HR.sg [a5] [] fun v50 d51=>
 prP (bnS .add (nx v47 0) (nx v50 0)) fun t71_53=>
 prP (bnS .add t50_33 t71_53) fun t72_54=>
 apW [T.c a5] true (cnt 1 (nxc d2 0)) (cnt 1 [T.c a5]) 16 (
 j37 [t72_54,a1,a2,a3,a4,a5,a6,a7,(.int .i64 0),a2] [((nxc d2 0)++[T.c a5])])))))
theorem DE.cl2 {w0:World} {a0 a1 a2 a3 a4 a5 a6 a7:Value} {c0 c1:List T} {K:J2} (h:DE.txt ⟨Tryz.prog,w0⟩ a0 a1 a2 a3 a4 a5 a6 a7 c0 c1 K):Eng.cl2 ⟨Tryz.prog,w0⟩ 46 DE.sg [a0,a1,a2,a3,a4,a5,a6,a7] [c0,c1] K:=
 AD (C:=⟨Tryz.prog,w0⟩) (f:=46) (fn:=Tryz.f46) [(81,EK.sg),(87,GW.sg),(88,EJ.sg),(89,JB.sg),(90,DW.sg),(91,ET.sg),(92,FG.sg),(93,HR.sg)] [(3,[0,0,3]),(4,[0,1,3,0,8,0,32,120,255,511,0,1024,3583,8191,0,16384,0,65536,245760,515583,1048575,2097151]),(9,[0,0,0,4,14,30,63,127]),(11,[0,0,2,6,0,16,0,64,240,510,1022,0,2048,6144,15358,32766,65535,131071]),(19,[0,0,1,7])] [(63,⟨[.p (.j 0) 0, .p (.j 1) 0, .p (.j 2) 0, .p (.j 3) 0, .v],[],[.bx [.v, .v, .v, .v, .v], .bx [.v, .v, .t (.f 1) 1], .bx [.v, .z], .bx [.v, .t (.j 4) 1], .ls]⟩),(4090,⟨[.p (.j 0) 0, .p (.j 1) 0, .v, .v, .t (.f 1) 1, .v, .v],[],[.bx [.v, .z], .bx [.v, .t (.j 2) 1], .ls]⟩)] Tryz.func46 (by kernel_rfl) (by kernel_rfl) (by kernel_rfl) h
def LY.sg:Sg:=⟨[(0,[.v])],[(0,[.v])],[]⟩
def LY.txt (C:Ctx) (a0:Value) (K:J2):Prop:=
 BC (fun r3 x1 k2=>
 prP (lnS (nx x1 0)) fun t8_5=>
 prP (bnI .lss (nx x1 2) t8_5) fun t9_6=>
 AV t9_6 (
 prP (ix (nx x1 0) (nx x1 2)) fun t15_7=>
 prP (cvI .u32 t15_7) fun t16_8=>
 prP (bnI .xor (nx x1 1) t16_8) fun t17_9=>
 BC (fun r12 x10 k11=>
 prP (bnI .lss (nx x10 3) (.int .i64 8)) fun t19_14=>
 AV t19_14 (
 BW (fun x16 k17=>
 prP (bnI .add (nx x16 3) (.int .i64 1)) fun t28_23=>
 r12 [(nx x16 0),(nx x16 1),(nx x16 2),t28_23] []) fun j18=>
 prP (bnI .and (nx x10 1) (.int .u32 1)) fun t21_19=>
 prP (bnI .shr (nx x10 1) (.int .u64 1)) fun t23_20=>
 prP (bnI .eql t21_19 (.int .u32 1)) fun t25_21=>
 AV t25_21 (
 prP (bnI .xor t23_20 (.int .u32 2197175160)) fun t27_22=>
 j18 [(nx x10 0),t27_22,(nx x10 2),(nx x10 3)] []) (
 j18 [(nx x10 0),t23_20,(nx x10 2),(nx x10 3)] [])) (
 prP (bnI .add (nx x10 2) (.int .i64 1)) fun t11_24=>
 r3 [(nx x10 0),(nx x10 1),t11_24] [])) [(nx x1 0),t17_9,(nx x1 2),(.int .i64 0)] []) (
 prP (un .xor (nx x1 1)) fun t30_25=>
 prP (cvI .i64 t30_25) fun t31_26=>
 K [t31_26] [])) [a0,(.int .u32 4294967295),(.int .i64 0)] []
theorem LY.cl2 {w0:World} {a0:Value} {K:J2} (h:LY.txt ⟨Tryz.prog,w0⟩ a0 K):Eng.cl2 ⟨Tryz.prog,w0⟩ 153 LY.sg [a0] [] K:=
 AD (C:=⟨Tryz.prog,w0⟩) (f:=153) (fn:=Tryz.f153) [] [] [(59699,⟨[.v, .v, .v, .v],[],[]⟩),(7462,⟨[.v, .v, .v, .v],[],[]⟩),(58,⟨[.v, .v, .v],[],[]⟩)] Tryz.func153 (by kernel_rfl) (by kernel_rfl) (by kernel_rfl) h
def JD.sg:Sg:=⟨[(0,[.v]),(0,[.v])],[(0,[.v])],[]⟩
def JD.txt (C:Ctx) (a0 a1:Value) (K:J2):Prop:=
 cl2 C 94 B6.sg [a1,(.int .i64 1),(.int .i64 7)] [] fun v1 d2=>
 prP (un .not (nx v1 0)) fun t9_4=>
 gE t9_4 (
 gE t9_4 (
 gP t9_4 false (prP (bnI .mul (.int .i64 8) a1)) fun t13_5=>
 gP t9_4 false (prP (bnI .shl (.int .i64 1) t13_5)) fun t14_6=>
 gP t9_4 false (prP (bnI .sub t14_6 (.int .i64 1))) fun t15_7=>
 gP t9_4 false ((fun K=>cl2 C 94 B6.sg [a0,(.int .i64 0),t15_7] [] fun v8 d9=>K (nx v8 0))) fun t16_10=>
 gP t9_4 false (prP (un .not t16_10)) fun t17_11=>
 prP (pk t9_4 (.bool true) t17_11) fun t18_12=>
 AV t18_12 (
 K [(.string {data:= #[]})] []) (
 prP (bnI .sub a1 (.int .i64 1)) fun t20_13=>
 BC (fun r16 x14 k15=>
 prP (bnI .geq (nx x14 1) (.int .i64 0)) fun t22_25=>
 AV t22_25 (
 prP (bnI .mul (.int .i64 8) (nx x14 1)) fun t28_26=>
 prP (bnI .shr (nx x14 0) t28_26) fun t29_27=>
 prP (cvI .u8 t29_27) fun t30_28=>
 apW [T.c t30_28] true (cnt 1 (nxc k15 0)) (cnt 1 [T.c t30_28]) 1 (
 prP (bnI .sub (nx x14 1) (.int .i64 1)) fun t24_29=>
 r16 [(nx x14 0),t24_29] [((nxc k15 0)++[T.c t30_28])])) (
 prP (b2T (nxc k15 0)) fun t34_30=>
 K [t34_30] [])) [a0,t20_13] [[]])))
theorem JD.cl2 {w0:World} {a0 a1:Value} {K:J2} (h:JD.txt ⟨Tryz.prog,w0⟩ a0 a1 K):Eng.cl2 ⟨Tryz.prog,w0⟩ 152 JD.sg [a0,a1] [] K:=
 AD (C:=⟨Tryz.prog,w0⟩) (f:=152) (fn:=Tryz.f152) [(94,B6.sg)] [] [(122,⟨[.v, .t (.j 0) 1, .v],[],[.ls]⟩)] Tryz.func152 (by kernel_rfl) (by kernel_rfl) (by kernel_rfl) h
def DA.sg:Sg:=⟨[(0,[.v]),(0,[.v])],[(0,[.v])],[]⟩
def DA.txt (C:Ctx) (a0 a1:Value) (K:J2):Prop:=
 cl2 C 94 B6.sg [a0,(.int .i64 0),(.int .i64 400)] [] fun v1 d2=>
 prP (un .not (nx v1 0)) fun t8_4=>
 gE t8_4 (
 gP t8_4 false (prP (lnS a1)) fun t11_5=>
 gP t8_4 false (prP (bnI .gtr t11_5 (.int .i64 200))) fun t12_6=>
 prP (pk t8_4 (.bool true) t12_6) fun t13_7=>
 AV t13_7 (
 K [(.string {data:= #[]})] []) (
 cl2 C 92 FG.sg [a0] [] fun v8 d9=>
 prP (lnS a1) fun t17_11=>
 cl2 C 92 FG.sg [t17_11] [] fun v12 d13=>
 prP (bnS .add (nx v8 0) (nx v12 0)) fun t19_15=>
 prP (bnS .add t19_15 a1) fun t21_16=>
 cl2 C 153 LY.sg [t21_16] [] fun v17 d18=>
 cl2 C 152 JD.sg [(nx v17 0),(.int .i64 4)] [] fun v20 d21=>
 prP (bnS .add t21_16 (nx v20 0)) fun t26_23=>
 K [t26_23] []))
theorem DA.cl2 {w0:World} {a0 a1:Value} {K:J2} (h:DA.txt ⟨Tryz.prog,w0⟩ a0 a1 K):Eng.cl2 ⟨Tryz.prog,w0⟩ 95 DA.sg [a0,a1] [] K:=
 AD (C:=⟨Tryz.prog,w0⟩) (f:=95) (fn:=Tryz.f95) [(94,B6.sg),(92,FG.sg),(153,LY.sg),(152,JD.sg)] [] [] Tryz.func95 (by kernel_rfl) (by kernel_rfl) (by kernel_rfl) h
def HJ.sg:Sg:=⟨[(0,[.t 1 0])],[(0,[.v])],[]⟩
def HJ.txt (C:Ctx) (c0:List T) (K:J2):Prop:=
 prP (bnI .gtr (iv (cnt 1 c0)) (.int .i64 400)) fun t8_1=>
 AV t8_1 (
 K [(.string {data:= #[]})] []) (
 BC (fun r4 x2 k3=>
 prP (bnI .lss (nx x2 2) (nx x2 1)) fun t12_6=>
 AV t12_6 (
 ixW (cnt 1 c0) (nx x2 2) fun t14_7=>
 ldc c0 [] ((AA t14_7)*1) fun t15_8=>
 prP (lnS t15_8) fun t17_9=>
 cl2 C 94 B6.sg [t17_9,(.int .i64 1),(.int .i64 200)] [] fun v10 d11=>
 prP (un .not (nx v10 0)) fun t19_13=>
 AV t19_13 (
 K [(.string {data:= #[]})] []) (
 cl2 C 95 DA.sg [(nx x2 2),t15_8] [] fun v14 d15=>
 prP (bnS .add (nx x2 0) (nx v14 0)) fun t24_17=>
 prP (bnI .add (nx x2 2) (.int .i64 1)) fun t25_18=>
 r4 [t24_17,(nx x2 1),t25_18] [])) (
 cl2 C 95 DA.sg [(iv (cnt 1 c0)),(.string {data:= #[]})] [] fun v19 d20=>
 prP (bnS .add (nx x2 0) (nx v19 0)) fun t30_22=>
 K [t30_22] [])) [(.string {data:= #[72,76,79,71,1]}),(iv (cnt 1 c0)),(.int .i64 0)] [])
theorem HJ.cl2 {w0:World} {c0:List T} {K:J2} (h:HJ.txt ⟨Tryz.prog,w0⟩ c0 K):Eng.cl2 ⟨Tryz.prog,w0⟩ 47 HJ.sg [] [c0] K:=
 AD (C:=⟨Tryz.prog,w0⟩) (f:=47) (fn:=Tryz.f47) [(94,B6.sg),(95,DA.sg)] [] [(122,⟨[.t (.f 0) 1, .v, .t (.f 0) 1, .v, .v],[],[]⟩)] Tryz.func47 (by kernel_rfl) (by kernel_rfl) (by kernel_rfl) h
def GV.sg:Sg:=⟨[(0,[.t 5 0]),(0,[.t 3 0])],[(0,[.v])],[]⟩
def GV.txt (C:Ctx) (c0 c1:List T) (K:J2):Prop:=
 prP (bnI .neq (iv (cnt 5 c0)) (iv (cnt 3 c1))) fun t15_1=>
 gE t15_1 (
 gE t15_1 (
 gP t15_1 false (prP (bnI .geq (iv (cnt 5 c0)) (.int .i64 400))) fun t19_2=>
 prP (pk t15_1 (.bool true) t19_2) fun t20_3=>
 AV t20_3 (
 K [(.string {data:= #[]})] []) (
 BC (fun r6 x4 k5=>
 prP (bnI .lss (nx x4 1) (nx x4 0)) fun t24_21=>
 AV t24_21 (
 ixW (cnt 5 c0) (nx x4 1) fun t26_22=>
 ldg c0 [] ((AA t26_22)*5) [.c, .c, .c, .c, .c] fun ts23=>
 ixW (cnt 3 c1) (nx x4 1) fun t33_24=>
 ldg c1 [] ((AA t33_24)*3) [.c, .c, .l 1] fun ts25=>
 cl2 C 46 DE.sg [(nx x4 2),(tv (nxT ts23 0)),(tv (nxT ts23 1)),(tv (nxT ts23 2)),(tv (nxT ts23 3)),(tv (nxT ts23 4)),(tv (nxT ts25 0)),(tv (nxT ts25 1))] [(nxc k5 1),(G4 c1 [(((AA t33_24)*3)+2)])] fun v26 d27=>
 prP (bnS .eql (nx v26 0) (.string {data:= #[]})) fun t39_28=>
 AV t39_28 (
 K [(.string {data:= #[]})] []) (
 apW [T.c (nx v26 0)] true (cnt 1 (nxc k5 0)) (cnt 1 [T.c (nx v26 0)]) 16 (
 prP (bnI .add (nx x4 1) (.int .i64 1)) fun t45_29=>
 r6 [(nx x4 0),t45_29,(nx v26 1)] [((nxc k5 0)++[T.c (nx v26 0)]),(nxc d27 0)]))) (
 cl2 C 47 HJ.sg [] [(nxc k5 0)] fun v30 d31=>
 K [(nx v30 0)] [])) [(iv (cnt 5 c0)),(.int .i64 0),(.int .i64 0)] [[],[]])))
theorem GV.cl2 {w0:World} {c0 c1:List T} {K:J2} (h:GV.txt ⟨Tryz.prog,w0⟩ c0 c1 K):Eng.cl2 ⟨Tryz.prog,w0⟩ 17 GV.sg [] [c0,c1] K:=
 AD (C:=⟨Tryz.prog,w0⟩) (f:=17) (fn:=Tryz.f17) [(46,DE.sg),(47,HJ.sg)] [(8,[0,0,0,0,12,28,63,127,255,255,0,1535,4095])] [(250,⟨[.t (.f 1) 3, .t (.j 0) 1, .p (.j 1) 0, .t (.f 0) 5, .v, .v],[],[.ls, .bx [.v, .t (.j 2) 1], .ls]⟩)] Tryz.func17 (by kernel_rfl) (by kernel_rfl) (by kernel_rfl) h
def I2.sg:Sg:=⟨[(0,[.t 5 0])],[(1,[.v, .t 8, .t 2, .t 1, .t 1, .t 3])],[]⟩
def I2.txt (C:Ctx) (c0:List T) (K:J2):Prop:=
 cl2 C 35 KH.sg [] [c0] fun v1 d2=>
 cl2 C 17 GV.sg [] [c0,(nxc d2 4)] fun v3 d4=>
 K [(nx v3 0)] [(nxc d2 0),(nxc d2 1),(nxc d2 2),(nxc d2 3),(nxc d2 4)]
theorem I2.cl2 {w0:World} {c0:List T} {K:J2} (h:I2.txt ⟨Tryz.prog,w0⟩ c0 K):Eng.cl2 ⟨Tryz.prog,w0⟩ 9 I2.sg [] [c0] K:=
 AD (C:=⟨Tryz.prog,w0⟩) (f:=9) (fn:=Tryz.f9) [(35,KH.sg),(17,GV.sg)] [(2,[0,0,3,0,0,31,63])] [] Tryz.func9 (by kernel_rfl) (by kernel_rfl) (by kernel_rfl) h
end Go.Proofs.YtnhicpkhkaihoaaGreat.P
