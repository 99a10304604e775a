/- A part of the proof. -/
import Derived.Test.YtnhicpkhkaihoaaGreatChecked
import Derived.Test.YtnhicpkhkaihoaaGreatRcPZ2
import Derived.KernelRfl
namespace Go.Proofs.YtnhicpkhkaihoaaGreat.P
open Go Go.Proofs.YtnhicpkhkaihoaaGreat Go.Proofs.YtnhicpkhkaihoaaGreat.Eng
set_option linter.unusedVariables false
set_option maxRecDepth 100000
def EN.sg:Sg:=⟨[(1,[.v, .t 1 0]),(1,[.v, .v, .v, .v, .v]),(1,[.v, .v, .t 1 0])],[(0,[.v]),(1,[.v, .t 1])],[]⟩
def EN.txt (C:Ctx) (a0 a1 a2 a3 a4 a5 a6 a7:Value) (c0 c1:List T) (K:J2):Prop:=
 cl2 C 81 H2.sg [a0] [c0] fun v1 d2=>
 cl2 C 87 GA.sg [a1,a2,a3,a4,a5] [] fun v3 d4=>
 prP (un .not (nx v3 0)) fun t18_6=>
 gE t18_6 (
 gP t18_6 false ((fun K=>cl2 C 88 D7.sg [a6,a7] [c1] fun v7 d8=>K (nx v7 0))) fun t21_9=>
 gP t18_6 false (prP (un .not t21_9)) fun t22_10=>
 prP (pk t18_6 (.bool true) t22_10) fun t23_11=>
 gE t23_11 (
 gP t23_11 false ((fun K=>cl2 C 89 I0.sg [a0] [c0] fun v12 d13=>K (nx v12 0))) fun t26_14=>
 gP t23_11 false (prP (un .not t26_14)) fun t27_15=>
 prP (pk t23_11 (.bool true) t27_15) fun t28_16=>
 AG t28_16 (
 K [(.string {data:= #[]}),(nx v1 0)] [(nxc d2 0)]) (
 cl2 C 90 DL.sg [a1] [] fun v17 d18=>
 prP (bnI .sub a2 a0) fun t37_20=>
 cl2 C 90 DL.sg [t37_20] [] fun v21 d22=>
 prP (bnS .add (nx v17 0) (nx v21 0)) fun t39_24=>
 cl2 C 90 DL.sg [a3] [] fun v25 d26=>
 prP (bnS .add t39_24 (nx v25 0)) fun t43_28=>
 prP (bnI .sub a4 a2) fun t48_29=>
 cl2 C 90 DL.sg [t48_29] [] fun v30 d31=>
 prP (bnS .add t43_28 (nx v30 0)) fun t50_33=>
 BY (fun x35 k36=>
 cl2 C 92 EM.sg [(nx x35 6)] [] fun v55 d56=>
 prP (bnI .sub (nx x35 7) (nx x35 2)) fun t88_58=>
 cl2 C 90 DL.sg [t88_58] [] fun v59 d60=>
 prP (bnS .add (nx v55 0) (nx v59 0)) fun t90_62=>
 cl2 C 92 EM.sg [(iv (cnt 1 c1))] [] fun v63 d64=>
 prP (bnS .add t90_62 (nx v63 0)) fun t95_66=>
 prP (bnS .add (nx x35 0) t95_66) fun t96_67=>
 BB (fun r70 x68 k69=>
 prP (bnI .lss (nx x68 3) (nx x68 2)) fun t103_72=>
 AG t103_72 (
 ixW (cnt 1 c1) (nx x68 3) fun t104_73=>
 ldc c1 [] ((AA t104_73)*1) fun t105_74=>
 prP (bnI .sub t105_74 (nx x68 1)) fun t109_75=>
 cl2 C 90 DL.sg [t109_75] [] fun v76 d77=>
 prP (bnS .add (nx x68 0) (nx v76 0)) fun t111_79=>
 prP (bnI .add (nx x68 3) (.int .i64 1)) fun t113_80=>
 r70 [t111_79,t105_74,(nx x68 2),t113_80,(nx x68 4),(nx x68 5)] [(nxc k69 0)]) (
 K [(nx x68 0),(nx x68 5)] [(nxc k69 0)])) [t96_67,(nx x35 2),(iv (cnt 1 c1)),(.int .i64 0),(nx x35 8),(nx x35 9)] [(nxc k36 0)]) fun j37=>
 cl2 C 91 ED.sg [a5] [c0] fun v38 d39=>
 prP (bnI .geq (nx v38 0) (.int .i64 0)) fun t60_41=>
 AG t60_41 (
 prP (bnI .add (nx v38 0) (.int .i64 1)) fun t63_42=>
 cl2 C 92 EM.sg [t63_42] [] fun v43 d44=>
 prP (bnS .add t50_33 (nx v43 0)) fun t65_46=>
 j37 [t65_46,a1,a2,a3,a4,a5,a6,a7,(.int .i64 0),a2] [(nxc d2 0)]) (
 cl2 C 92 EM.sg [(.int .i64 0)] [] fun v47 d48=>
 cl2 C 93 G7.sg [a5] [] fun v50 d51=>
 prP (bnS .add (nx v47 0) (nx v50 0)) fun t71_53=>
 prP (bnS .add t50_33 t71_53) fun t72_54=>
 apW [T.c a5] true (cnt 1 (nxc d2 0)) (cnt 1 [T.c a5]) 16 (
 j37 [t72_54,a1,a2,a3,a4,a5,a6,a7,(.int .i64 0),a2] [((nxc d2 0)++[T.c a5])])))))
theorem EN.cl2 {w0:World} {a0 a1 a2 a3 a4 a5 a6 a7:Value} {c0 c1:List T} {K:J2} (h:EN.txt ⟨Tryz.prog,w0⟩ a0 a1 a2 a3 a4 a5 a6 a7 c0 c1 K):Eng.cl2 ⟨Tryz.prog,w0⟩ 46 EN.sg [a0,a1,a2,a3,a4,a5,a6,a7] [c0,c1] K:=
 AD (C:=⟨Tryz.prog,w0⟩) (f:=46) (fn:=Tryz.f46) [(81,H2.sg),(87,GA.sg),(88,D7.sg),(89,I0.sg),(90,DL.sg),(91,ED.sg),(92,EM.sg),(93,G7.sg)] [(3,[0,0,3]),(4,[0,1,3,0,8,0,32,120,255,511,0,1024,3583,8191,0,16384,0,65536,245760,515583,1048575,2097151]),(9,[0,0,0,4,14,30,63,127]),(11,[0,0,2,6,0,16,0,64,240,510,1022,0,2048,6144,15358,32766,65535,131071]),(19,[0,0,1,7])] [(63,⟨[.p (.j 0) 0, .p (.j 1) 0, .p (.j 2) 0, .p (.j 3) 0, .v],[],[.bx [.v, .v, .v, .v, .v], .bx [.v, .v, .t (.f 1) 1], .bx [.v, .z], .bx [.v, .t (.j 4) 1], .ls]⟩),(4090,⟨[.p (.j 0) 0, .p (.j 1) 0, .v, .v, .t (.f 1) 1, .v, .v],[],[.bx [.v, .z], .bx [.v, .t (.j 2) 1], .ls]⟩)] Tryz.func46 (by kernel_rfl) (by kernel_rfl) (by kernel_rfl) h
def K2.sg:Sg:=⟨[(0,[.v])],[(0,[.v])],[]⟩
def K2.txt (C:Ctx) (a0:Value) (K:J2):Prop:=
 BB (fun r3 x1 k2=>
 prP (lnS (nx x1 0)) fun t8_5=>
 prP (bnI .lss (nx x1 2) t8_5) fun t9_6=>
 AG t9_6 (
 prP (ix (nx x1 0) (nx x1 2)) fun t15_7=>
 prP (cvI .u32 t15_7) fun t16_8=>
 prP (bnI .xor (nx x1 1) t16_8) fun t17_9=>
 BB (fun r12 x10 k11=>
 prP (bnI .lss (nx x10 3) (.int .i64 8)) fun t19_14=>
 AG t19_14 (
 BY (fun x16 k17=>
 prP (bnI .add (nx x16 3) (.int .i64 1)) fun t28_23=>
 r12 [(nx x16 0),(nx x16 1),(nx x16 2),t28_23] []) fun j18=>
 prP (bnI .and (nx x10 1) (.int .u32 1)) fun t21_19=>
 prP (bnI .shr (nx x10 1) (.int .u64 1)) fun t23_20=>
 prP (bnI .eql t21_19 (.int .u32 1)) fun t25_21=>
 AG t25_21 (
 prP (bnI .xor t23_20 (.int .u32 2197175160)) fun t27_22=>
 j18 [(nx x10 0),t27_22,(nx x10 2),(nx x10 3)] []) (
 j18 [(nx x10 0),t23_20,(nx x10 2),(nx x10 3)] [])) (
 prP (bnI .add (nx x10 2) (.int .i64 1)) fun t11_24=>
 r3 [(nx x10 0),(nx x10 1),t11_24] [])) [(nx x1 0),t17_9,(nx x1 2),(.int .i64 0)] []) (
 prP (un .xor (nx x1 1)) fun t30_25=>
 prP (cvI .i64 t30_25) fun t31_26=>
 K [t31_26] [])) [a0,(.int .u32 4294967295),(.int .i64 0)] []
theorem K2.cl2 {w0:World} {a0:Value} {K:J2} (h:K2.txt ⟨Tryz.prog,w0⟩ a0 K):Eng.cl2 ⟨Tryz.prog,w0⟩ 153 K2.sg [a0] [] K:=
 AD (C:=⟨Tryz.prog,w0⟩) (f:=153) (fn:=Tryz.f153) [] [] [(59699,⟨[.v, .v, .v, .v],[],[]⟩),(7462,⟨[.v, .v, .v, .v],[],[]⟩),(58,⟨[.v, .v, .v],[],[]⟩)] Tryz.func153 (by kernel_rfl) (by kernel_rfl) (by kernel_rfl) h
def IV.sg:Sg:=⟨[(0,[.v]),(0,[.v])],[(0,[.v])],[]⟩
def IV.txt (C:Ctx) (a0 a1:Value) (K:J2):Prop:=
 cl2 C 94 CA.sg [a1,(.int .i64 1),(.int .i64 7)] [] fun v1 d2=>
 prP (un .not (nx v1 0)) fun t9_4=>
 gE t9_4 (
 gE t9_4 (
 gP t9_4 false (prP (bnI .mul (.int .i64 8) a1)) fun t13_5=>
 gP t9_4 false (prP (bnI .shl (.int .i64 1) t13_5)) fun t14_6=>
 gP t9_4 false (prP (bnI .sub t14_6 (.int .i64 1))) fun t15_7=>
 gP t9_4 false ((fun K=>cl2 C 94 CA.sg [a0,(.int .i64 0),t15_7] [] fun v8 d9=>K (nx v8 0))) fun t16_10=>
 gP t9_4 false (prP (un .not t16_10)) fun t17_11=>
 prP (pk t9_4 (.bool true) t17_11) fun t18_12=>
 AG t18_12 (
 K [(.string {data:= #[]})] []) (
 prP (bnI .sub a1 (.int .i64 1)) fun t20_13=>
 BB (fun r16 x14 k15=>
 prP (bnI .geq (nx x14 1) (.int .i64 0)) fun t22_25=>
 AG t22_25 (
 prP (bnI .mul (.int .i64 8) (nx x14 1)) fun t28_26=>
 prP (bnI .shr (nx x14 0) t28_26) fun t29_27=>
 prP (cvI .u8 t29_27) fun t30_28=>
 apW [T.c t30_28] true (cnt 1 (nxc k15 0)) (cnt 1 [T.c t30_28]) 1 (
 prP (bnI .sub (nx x14 1) (.int .i64 1)) fun t24_29=>
 r16 [(nx x14 0),t24_29] [((nxc k15 0)++[T.c t30_28])])) (
 prP (b2T (nxc k15 0)) fun t34_30=>
 K [t34_30] [])) [a0,t20_13] [[]])))
theorem IV.cl2 {w0:World} {a0 a1:Value} {K:J2} (h:IV.txt ⟨Tryz.prog,w0⟩ a0 a1 K):Eng.cl2 ⟨Tryz.prog,w0⟩ 152 IV.sg [a0,a1] [] K:=
 AD (C:=⟨Tryz.prog,w0⟩) (f:=152) (fn:=Tryz.f152) [(94,CA.sg)] [] [(122,⟨[.v, .t (.j 0) 1, .v],[],[.ls]⟩)] Tryz.func152 (by kernel_rfl) (by kernel_rfl) (by kernel_rfl) h
def DW.sg:Sg:=⟨[(0,[.v]),(0,[.v])],[(0,[.v])],[]⟩
def DW.txt (C:Ctx) (a0 a1:Value) (K:J2):Prop:=
 cl2 C 94 CA.sg [a0,(.int .i64 0),(.int .i64 400)] [] fun v1 d2=>
 prP (un .not (nx v1 0)) fun t8_4=>
 gE t8_4 (
 gP t8_4 false (prP (lnS a1)) fun t11_5=>
 gP t8_4 false (prP (bnI .gtr t11_5 (.int .i64 200))) fun t12_6=>
 prP (pk t8_4 (.bool true) t12_6) fun t13_7=>
 AG t13_7 (
 K [(.string {data:= #[]})] []) (
 cl2 C 92 EM.sg [a0] [] fun v8 d9=>
 prP (lnS a1) fun t17_11=>
 cl2 C 92 EM.sg [t17_11] [] fun v12 d13=>
 prP (bnS .add (nx v8 0) (nx v12 0)) fun t19_15=>
 prP (bnS .add t19_15 a1) fun t21_16=>
 cl2 C 153 K2.sg [t21_16] [] fun v17 d18=>
 cl2 C 152 IV.sg [(nx v17 0),(.int .i64 4)] [] fun v20 d21=>
 prP (bnS .add t21_16 (nx v20 0)) fun t26_23=>
 K [t26_23] []))
theorem DW.cl2 {w0:World} {a0 a1:Value} {K:J2} (h:DW.txt ⟨Tryz.prog,w0⟩ a0 a1 K):Eng.cl2 ⟨Tryz.prog,w0⟩ 95 DW.sg [a0,a1] [] K:=
 AD (C:=⟨Tryz.prog,w0⟩) (f:=95) (fn:=Tryz.f95) [(94,CA.sg),(92,EM.sg),(153,K2.sg),(152,IV.sg)] [] [] Tryz.func95 (by kernel_rfl) (by kernel_rfl) (by kernel_rfl) h
def GP.sg:Sg:=⟨[(0,[.t 1 0])],[(0,[.v])],[]⟩
def GP.txt (C:Ctx) (c0:List T) (K:J2):Prop:=
 prP (bnI .gtr (iv (cnt 1 c0)) (.int .i64 400)) fun t8_1=>
 AG t8_1 (
 K [(.string {data:= #[]})] []) (
 BB (fun r4 x2 k3=>
 prP (bnI .lss (nx x2 2) (nx x2 1)) fun t12_6=>
 AG t12_6 (
 ixW (cnt 1 c0) (nx x2 2) fun t14_7=>
 ldc c0 [] ((AA t14_7)*1) fun t15_8=>
 prP (lnS t15_8) fun t17_9=>
 cl2 C 94 CA.sg [t17_9,(.int .i64 1),(.int .i64 200)] [] fun v10 d11=>
 prP (un .not (nx v10 0)) fun t19_13=>
 AG t19_13 (
 K [(.string {data:= #[]})] []) (
 cl2 C 95 DW.sg [(nx x2 2),t15_8] [] fun v14 d15=>
 prP (bnS .add (nx x2 0) (nx v14 0)) fun t24_17=>
 prP (bnI .add (nx x2 2) (.int .i64 1)) fun t25_18=>
 r4 [t24_17,(nx x2 1),t25_18] [])) (
 cl2 C 95 DW.sg [(iv (cnt 1 c0)),(.string {data:= #[]})] [] fun v19 d20=>
 prP (bnS .add (nx x2 0) (nx v19 0)) fun t30_22=>
 K [t30_22] [])) [(.string {data:= #[72,76,79,71,1]}),(iv (cnt 1 c0)),(.int .i64 0)] [])
theorem GP.cl2 {w0:World} {c0:List T} {K:J2} (h:GP.txt ⟨Tryz.prog,w0⟩ c0 K):Eng.cl2 ⟨Tryz.prog,w0⟩ 47 GP.sg [] [c0] K:=
 AD (C:=⟨Tryz.prog,w0⟩) (f:=47) (fn:=Tryz.f47) [(94,CA.sg),(95,DW.sg)] [] [(122,⟨[.t (.f 0) 1, .v, .t (.f 0) 1, .v, .v],[],[]⟩)] Tryz.func47 (by kernel_rfl) (by kernel_rfl) (by kernel_rfl) h
def HW.sg:Sg:=⟨[(0,[.t 5 0]),(0,[.t 3 0])],[(0,[.v])],[]⟩
def HW.txt (C:Ctx) (c0 c1:List T) (K:J2):Prop:=
 prP (bnI .neq (iv (cnt 5 c0)) (iv (cnt 3 c1))) fun t15_1=>
 gE t15_1 (
 gE t15_1 (
 gP t15_1 false (prP (bnI .geq (iv (cnt 5 c0)) (.int .i64 400))) fun t19_2=>
 prP (pk t15_1 (.bool true) t19_2) fun t20_3=>
 AG t20_3 (
 K [(.string {data:= #[]})] []) (
 BB (fun r6 x4 k5=>
 prP (bnI .lss (nx x4 1) (nx x4 0)) fun t24_21=>
 AG t24_21 (
 ixW (cnt 5 c0) (nx x4 1) fun t26_22=>
 ldg c0 [] ((AA t26_22)*5) [.c, .c, .c, .c, .c] fun ts23=>
 ixW (cnt 3 c1) (nx x4 1) fun t33_24=>
 ldg c1 [] ((AA t33_24)*3) [.c, .c, .l 1] fun ts25=>
 cl2 C 46 EN.sg [(nx x4 2),(tv (nxT ts23 0)),(tv (nxT ts23 1)),(tv (nxT ts23 2)),(tv (nxT ts23 3)),(tv (nxT ts23 4)),(tv (nxT ts25 0)),(tv (nxT ts25 1))] [(nxc k5 1),(FE c1 [(((AA t33_24)*3)+2)])] fun v26 d27=>
 prP (bnS .eql (nx v26 0) (.string {data:= #[]})) fun t39_28=>
 AG t39_28 (
 K [(.string {data:= #[]})] []) (
 apW [T.c (nx v26 0)] true (cnt 1 (nxc k5 0)) (cnt 1 [T.c (nx v26 0)]) 16 (
 prP (bnI .add (nx x4 1) (.int .i64 1)) fun t45_29=>
 r6 [(nx x4 0),t45_29,(nx v26 1)] [((nxc k5 0)++[T.c (nx v26 0)]),(nxc d27 0)]))) (
 cl2 C 47 GP.sg [] [(nxc k5 0)] fun v30 d31=>
 K [(nx v30 0)] [])) [(iv (cnt 5 c0)),(.int .i64 0),(.int .i64 0)] [[],[]])))
theorem HW.cl2 {w0:World} {c0 c1:List T} {K:J2} (h:HW.txt ⟨Tryz.prog,w0⟩ c0 c1 K):Eng.cl2 ⟨Tryz.prog,w0⟩ 17 HW.sg [] [c0,c1] K:=
 AD (C:=⟨Tryz.prog,w0⟩) (f:=17) (fn:=Tryz.f17) [(46,EN.sg),(47,GP.sg)] [(8,[0,0,0,0,12,28,63,127,255,255,0,1535,4095])] [(250,⟨[.t (.f 1) 3, .t (.j 0) 1, .p (.j 1) 0, .t (.f 0) 5, .v, .v],[],[.ls, .bx [.v, .t (.j 2) 1], .ls]⟩)] Tryz.func17 (by kernel_rfl) (by kernel_rfl) (by kernel_rfl) h
def H4.sg:Sg:=⟨[(0,[.t 5 0])],[(1,[.v, .t 8, .t 2, .t 1, .t 1, .t 3])],[]⟩
def H4.txt (C:Ctx) (c0:List T) (K:J2):Prop:=
 cl2 C 35 J1.sg [] [c0] fun v1 d2=>
 cl2 C 17 HW.sg [] [c0,(nxc d2 4)] fun v3 d4=>
 K [(nx v3 0)] [(nxc d2 0),(nxc d2 1),(nxc d2 2),(nxc d2 3),(nxc d2 4)]
theorem H4.cl2 {w0:World} {c0:List T} {K:J2} (h:H4.txt ⟨Tryz.prog,w0⟩ c0 K):Eng.cl2 ⟨Tryz.prog,w0⟩ 9 H4.sg [] [c0] K:=
 AD (C:=⟨Tryz.prog,w0⟩) (f:=9) (fn:=Tryz.f9) [(35,J1.sg),(17,HW.sg)] [(2,[0,0,3,0,0,31,63])] [] Tryz.func9 (by kernel_rfl) (by kernel_rfl) (by kernel_rfl) h
def DT.sg:Sg:=⟨[(0,[.t 1 0]),(0,[.t 1 0])],[(0,[.v])],[]⟩
def DT.txt (C:Ctx) (c0 c1:List T) (K:J2):Prop:=
 prP (bnI .neq (iv (cnt 1 c0)) (iv (cnt 1 c1))) fun t10_1=>
 AG t10_1 (
 K [(.bool false)] []) (
 BB (fun r4 x2 k3=>
 prP (bnI .lss (nx x2 0) (iv (cnt 1 c0))) fun t14_6=>
 AG t14_6 (
 ixW (cnt 1 c0) (nx x2 0) fun t19_7=>
 ldc c0 [] ((AA t19_7)*1) fun t20_8=>
 ixW (cnt 1 c1) (nx x2 0) fun t23_9=>
 ldc c1 [] ((AA t23_9)*1) fun t24_10=>
 prP (bnI .neq t20_8 t24_10) fun t25_11=>
 AG t25_11 (
 K [(.bool false)] []) (
 prP (bnI .add (nx x2 0) (.int .i64 1)) fun t16_12=>
 r4 [t16_12] [])) (
 K [(.bool true)] [])) [(.int .i64 0)] [])
theorem DT.cl2 {w0:World} {c0 c1:List T} {K:J2} (h:DT.txt ⟨Tryz.prog,w0⟩ c0 c1 K):Eng.cl2 ⟨Tryz.prog,w0⟩ 111 DT.sg [] [c0,c1] K:=
 AD (C:=⟨Tryz.prog,w0⟩) (f:=111) (fn:=Tryz.f111) [] [(6,[0,0,3,7,0,0,48,112,255])] [(58,⟨[.t (.f 0) 1, .t (.f 1) 1, .v],[],[]⟩)] Tryz.func111 (by kernel_rfl) (by kernel_rfl) (by kernel_rfl) h
def IY.sg:Sg:=⟨[(1,[.v, .v, .v, .v, .v, .v, .t 1 0, .v]),(1,[.v, .v, .v, .v, .v, .v, .t 1 0, .v])],[(0,[.v])],[]⟩
def IY.txt (C:Ctx) (a0 a1 a2 a3 a4 a5 a6 a7 a8 a9 a10 a11 a12 a13:Value) (c0 c1:List T) (K:J2):Prop:=
 prP (bnB .neq a0 a7) fun t9_1=>
 AG t9_1 (
 K [(.bool false)] []) (
 prP (bnI .neq a1 a8) fun t14_2=>
 AG t14_2 (
 K [(.bool false)] []) (
 prP (bnI .neq a2 a9) fun t19_3=>
 AG t19_3 (
 K [(.bool false)] []) (
 prP (bnI .neq a3 a10) fun t24_4=>
 AG t24_4 (
 K [(.bool false)] []) (
 prP (bnI .neq a4 a11) fun t29_5=>
 AG t29_5 (
 K [(.bool false)] []) (
 prP (bnI .neq a5 a12) fun t34_6=>
 AG t34_6 (
 K [(.bool false)] []) (
 cl2 C 111 DT.sg [] [c0,c1] fun v7 d8=>
 prP (un .not (nx v7 0)) fun t40_10=>
 AG t40_10 (
 K [(.bool false)] []) (
 prP (bnB .neq a6 a13) fun t45_11=>
 AG t45_11 (
 K [(.bool false)] []) (
 K [(.bool true)] []))))))))
theorem IY.cl2 {w0:World} {a0 a1 a2 a3 a4 a5 a6 a7 a8 a9 a10 a11 a12 a13:Value} {c0 c1:List T} {K:J2} (h:IY.txt ⟨Tryz.prog,w0⟩ a0 a1 a2 a3 a4 a5 a6 a7 a8 a9 a10 a11 a12 a13 c0 c1 K):Eng.cl2 ⟨Tryz.prog,w0⟩ 164 IY.sg [a0,a1,a2,a3,a4,a5,a6,a7,a8,a9,a10,a11,a12,a13] [c0,c1] K:=
 AD (C:=⟨Tryz.prog,w0⟩) (f:=164) (fn:=Tryz.f164) [(111,DT.sg)] [] [] Tryz.func164 (by kernel_rfl) (by kernel_rfl) (by kernel_rfl) h
def HT.sg:Sg:=⟨[(0,[.t 8 0]),(0,[.t 8 0])],[(0,[.v])],[]⟩
def HT.txt (C:Ctx) (c0 c1:List T) (K:J2):Prop:=
 prP (bnI .neq (iv (cnt 8 c0)) (iv (cnt 8 c1))) fun t10_1=>
 AG t10_1 (
 K [(.bool false)] []) (
 BB (fun r4 x2 k3=>
 prP (bnI .lss (nx x2 0) (iv (cnt 8 c0))) fun t14_6=>
 AG t14_6 (
 ixW (cnt 8 c0) (nx x2 0) fun t19_7=>
 ldg c0 [] ((AA t19_7)*8) [.c, .c, .c, .c, .c, .c, .l 1, .c] fun ts8=>
 ixW (cnt 8 c1) (nx x2 0) fun t23_9=>
 ldg c1 [] ((AA t23_9)*8) [.c, .c, .c, .c, .c, .c, .l 1, .c] fun ts10=>
 cl2 C 164 IY.sg [(tv (nxT ts8 0)),(tv (nxT ts8 1)),(tv (nxT ts8 2)),(tv (nxT ts8 3)),(tv (nxT ts8 4)),(tv (nxT ts8 5)),(tv (nxT ts8 7)),(tv (nxT ts10 0)),(tv (nxT ts10 1)),(tv (nxT ts10 2)),(tv (nxT ts10 3)),(tv (nxT ts10 4)),(tv (nxT ts10 5)),(tv (nxT ts10 7))] [(FE c0 [(((AA t19_7)*8)+6)]),(FE c1 [(((AA t23_9)*8)+6)])] fun v11 d12=>
 prP (un .not (nx v11 0)) fun t26_14=>
 AG t26_14 (
 K [(.bool false)] []) (
 prP (bnI .add (nx x2 0) (.int .i64 1)) fun t16_15=>
 r4 [t16_15] [])) (
 K [(.bool true)] [])) [(.int .i64 0)] [])
theorem HT.cl2 {w0:World} {c0 c1:List T} {K:J2} (h:HT.txt ⟨Tryz.prog,w0⟩ c0 c1 K):Eng.cl2 ⟨Tryz.prog,w0⟩ 109 HT.sg [] [c0,c1] K:=
 AD (C:=⟨Tryz.prog,w0⟩) (f:=109) (fn:=Tryz.f109) [(164,IY.sg)] [(6,[0,0,3,7,0,0,48,112,255,511])] [(58,⟨[.t (.f 0) 8, .t (.f 1) 8, .v],[],[]⟩)] Tryz.func109 (by kernel_rfl) (by kernel_rfl) (by kernel_rfl) h
def HR.sg:Sg:=⟨[(1,[.v, .v]),(1,[.v, .v])],[(0,[.v])],[]⟩
def HR.txt (C:Ctx) (a0 a1 a2 a3:Value) (K:J2):Prop:=
 prP (bnB .neq a0 a2) fun t9_1=>
 AG t9_1 (
 K [(.bool false)] []) (
 prP (bnI .neq a1 a3) fun t14_2=>
 AG t14_2 (
 K [(.bool false)] []) (
 K [(.bool true)] []))
theorem HR.cl2 {w0:World} {a0 a1 a2 a3:Value} {K:J2} (h:HR.txt ⟨Tryz.prog,w0⟩ a0 a1 a2 a3 K):Eng.cl2 ⟨Tryz.prog,w0⟩ 165 HR.sg [a0,a1,a2,a3] [] K:=
 AD (C:=⟨Tryz.prog,w0⟩) (f:=165) (fn:=Tryz.f165) [] [] [] Tryz.func165 (by kernel_rfl) (by kernel_rfl) (by kernel_rfl) h
def GZ.sg:Sg:=⟨[(0,[.t 2 0]),(0,[.t 2 0])],[(0,[.v])],[]⟩
def GZ.txt (C:Ctx) (c0 c1:List T) (K:J2):Prop:=
 prP (bnI .neq (iv (cnt 2 c0)) (iv (cnt 2 c1))) fun t10_1=>
 AG t10_1 (
 K [(.bool false)] []) (
 BB (fun r4 x2 k3=>
 prP (bnI .lss (nx x2 0) (iv (cnt 2 c0))) fun t14_6=>
 AG t14_6 (
 ixW (cnt 2 c0) (nx x2 0) fun t19_7=>
 ldg c0 [] ((AA t19_7)*2) [.c, .c] fun ts8=>
 ixW (cnt 2 c1) (nx x2 0) fun t23_9=>
 ldg c1 [] ((AA t23_9)*2) [.c, .c] fun ts10=>
 cl2 C 165 HR.sg [(tv (nxT ts8 0)),(tv (nxT ts8 1)),(tv (nxT ts10 0)),(tv (nxT ts10 1))] [] fun v11 d12=>
 prP (un .not (nx v11 0)) fun t26_14=>
 AG t26_14 (
 K [(.bool false)] []) (
 prP (bnI .add (nx x2 0) (.int .i64 1)) fun t16_15=>
 r4 [t16_15] [])) (
 K [(.bool true)] [])) [(.int .i64 0)] [])
theorem GZ.cl2 {w0:World} {c0 c1:List T} {K:J2} (h:GZ.txt ⟨Tryz.prog,w0⟩ c0 c1 K):Eng.cl2 ⟨Tryz.prog,w0⟩ 110 GZ.sg [] [c0,c1] K:=
 AD (C:=⟨Tryz.prog,w0⟩) (f:=110) (fn:=Tryz.f110) [(165,HR.sg)] [(6,[0,0,3,7,0,0,48,112,255,511])] [(58,⟨[.t (.f 0) 2, .t (.f 1) 2, .v],[],[]⟩)] Tryz.func110 (by kernel_rfl) (by kernel_rfl) (by kernel_rfl) h
def DY.sg:Sg:=⟨[(0,[.t 1 0]),(0,[.t 1 0])],[(0,[.v])],[]⟩
def DY.txt (C:Ctx) (c0 c1:List T) (K:J2):Prop:=
 prP (bnI .neq (iv (cnt 1 c0)) (iv (cnt 1 c1))) fun t10_1=>
 AG t10_1 (
 K [(.bool false)] []) (
 BB (fun r4 x2 k3=>
 prP (bnI .lss (nx x2 0) (iv (cnt 1 c0))) fun t14_6=>
 AG t14_6 (
 ixW (cnt 1 c0) (nx x2 0) fun t19_7=>
 ldc c0 [] ((AA t19_7)*1) fun t20_8=>
 ixW (cnt 1 c1) (nx x2 0) fun t23_9=>
 ldc c1 [] ((AA t23_9)*1) fun t24_10=>
 prP (bnS .neq t20_8 t24_10) fun t25_11=>
 AG t25_11 (
 K [(.bool false)] []) (
 prP (bnI .add (nx x2 0) (.int .i64 1)) fun t16_12=>
 r4 [t16_12] [])) (
 K [(.bool true)] [])) [(.int .i64 0)] [])
theorem DY.cl2 {w0:World} {c0 c1:List T} {K:J2} (h:DY.txt ⟨Tryz.prog,w0⟩ c0 c1 K):Eng.cl2 ⟨Tryz.prog,w0⟩ 112 DY.sg [] [c0,c1] K:=
 AD (C:=⟨Tryz.prog,w0⟩) (f:=112) (fn:=Tryz.f112) [] [(6,[0,0,3,7,0,0,48,112,255])] [(58,⟨[.t (.f 0) 1, .t (.f 1) 1, .v],[],[]⟩)] Tryz.func112 (by kernel_rfl) (by kernel_rfl) (by kernel_rfl) h
def HX.sg:Sg:=⟨[(1,[.t 8 0, .t 2 0, .t 1 0, .t 1 0]),(1,[.t 8 0, .t 2 0, .t 1 0, .t 1 0])],[(0,[.v])],[]⟩
def HX.txt (C:Ctx) (c0 c1 c2 c3 c4 c5 c6 c7:List T) (K:J2):Prop:=
 cl2 C 109 HT.sg [] [c0,c4] fun v1 d2=>
 prP (un .not (nx v1 0)) fun t10_4=>
 AG t10_4 (
 K [(.bool false)] []) (
 cl2 C 110 GZ.sg [] [c1,c5] fun v5 d6=>
 prP (un .not (nx v5 0)) fun t16_8=>
 AG t16_8 (
 K [(.bool false)] []) (
 cl2 C 111 DT.sg [] [c2,c6] fun v9 d10=>
 prP (un .not (nx v9 0)) fun t22_12=>
 AG t22_12 (
 K [(.bool false)] []) (
 cl2 C 112 DY.sg [] [c3,c7] fun v13 d14=>
 prP (un .not (nx v13 0)) fun t28_16=>
 AG t28_16 (
 K [(.bool false)] []) (
 K [(.bool true)] []))))
theorem HX.cl2 {w0:World} {c0 c1 c2 c3 c4 c5 c6 c7:List T} {K:J2} (h:HX.txt ⟨Tryz.prog,w0⟩ c0 c1 c2 c3 c4 c5 c6 c7 K):Eng.cl2 ⟨Tryz.prog,w0⟩ 61 HX.sg [] [c0,c1,c2,c3,c4,c5,c6,c7] K:=
 AD (C:=⟨Tryz.prog,w0⟩) (f:=61) (fn:=Tryz.f61) [(109,HT.sg),(110,GZ.sg),(111,DT.sg),(112,DY.sg)] [] [] Tryz.func61 (by kernel_rfl) (by kernel_rfl) (by kernel_rfl) h
def FI.sg:Sg:=⟨[(1,[.v, .v, .t 1 0]),(1,[.v, .v, .t 1 0])],[(0,[.v])],[]⟩
def FI.txt (C:Ctx) (a0 a1 a2 a3:Value) (c0 c1:List T) (K:J2):Prop:=
 prP (bnI .neq a0 a2) fun t9_1=>
 AG t9_1 (
 K [(.bool false)] []) (
 prP (bnI .neq a1 a3) fun t14_2=>
 AG t14_2 (
 K [(.bool false)] []) (
 cl2 C 111 DT.sg [] [c0,c1] fun v3 d4=>
 prP (un .not (nx v3 0)) fun t20_6=>
 AG t20_6 (
 K [(.bool false)] []) (
 K [(.bool true)] [])))
theorem FI.cl2 {w0:World} {a0 a1 a2 a3:Value} {c0 c1:List T} {K:J2} (h:FI.txt ⟨Tryz.prog,w0⟩ a0 a1 a2 a3 c0 c1 K):Eng.cl2 ⟨Tryz.prog,w0⟩ 113 FI.sg [a0,a1,a2,a3] [c0,c1] K:=
 AD (C:=⟨Tryz.prog,w0⟩) (f:=113) (fn:=Tryz.f113) [(111,DT.sg)] [] [] Tryz.func113 (by kernel_rfl) (by kernel_rfl) (by kernel_rfl) h
def EK.sg:Sg:=⟨[(0,[.t 3 0]),(0,[.t 3 0])],[(0,[.v])],[]⟩
def EK.txt (C:Ctx) (c0 c1:List T) (K:J2):Prop:=
 prP (bnI .neq (iv (cnt 3 c0)) (iv (cnt 3 c1))) fun t10_1=>
 AG t10_1 (
 K [(.bool false)] []) (
 BB (fun r4 x2 k3=>
 prP (bnI .lss (nx x2 0) (iv (cnt 3 c0))) fun t14_6=>
 AG t14_6 (
 ixW (cnt 3 c0) (nx x2 0) fun t19_7=>
 ldg c0 [] ((AA t19_7)*3) [.c, .c, .l 1] fun ts8=>
 ixW (cnt 3 c1) (nx x2 0) fun t23_9=>
 ldg c1 [] ((AA t23_9)*3) [.c, .c, .l 1] fun ts10=>
 cl2 C 113 FI.sg [(tv (nxT ts8 0)),(tv (nxT ts8 1)),(tv (nxT ts10 0)),(tv (nxT ts10 1))] [(FE c0 [(((AA t19_7)*3)+2)]),(FE c1 [(((AA t23_9)*3)+2)])] fun v11 d12=>
 prP (un .not (nx v11 0)) fun t26_14=>
 AG t26_14 (
 K [(.bool false)] []) (
 prP (bnI .add (nx x2 0) (.int .i64 1)) fun t16_15=>
 r4 [t16_15] [])) (
 K [(.bool true)] [])) [(.int .i64 0)] [])
theorem EK.cl2 {w0:World} {c0 c1:List T} {K:J2} (h:EK.txt ⟨Tryz.prog,w0⟩ c0 c1 K):Eng.cl2 ⟨Tryz.prog,w0⟩ 62 EK.sg [] [c0,c1] K:=
 AD (C:=⟨Tryz.prog,w0⟩) (f:=62) (fn:=Tryz.f62) [(113,FI.sg)] [(6,[0,0,3,7,0,0,48,112,255,511])] [(58,⟨[.t (.f 0) 3, .t (.f 1) 3, .v],[],[]⟩)] Tryz.func62 (by kernel_rfl) (by kernel_rfl) (by kernel_rfl) h
def GB.sg:Sg:=⟨[(1,[.v, .t 8 0, .t 2 0, .t 1 0, .t 1 0, .t 3 0]),(1,[.v, .t 8 0, .t 2 0, .t 1 0, .t 1 0, .t 3 0])],[(0,[.v])],[]⟩
def GB.txt (C:Ctx) (a0 a1:Value) (c0 c1 c2 c3 c4 c5 c6 c7 c8 c9:List T) (K:J2):Prop:=
 prP (bnS .neq a0 a1) fun t9_1=>
 AG t9_1 (
 K [(.bool false)] []) (
 cl2 C 61 HX.sg [] [c0,c1,c2,c3,c5,c6,c7,c8] fun v2 d3=>
 prP (un .not (nx v2 0)) fun t15_5=>
 AG t15_5 (
 K [(.bool false)] []) (
 cl2 C 62 EK.sg [] [c4,c9] fun v6 d7=>
 prP (un .not (nx v6 0)) fun t21_9=>
 AG t21_9 (
 K [(.bool false)] []) (
 K [(.bool true)] [])))
theorem GB.cl2 {w0:World} {a0 a1:Value} {c0 c1 c2 c3 c4 c5 c6 c7 c8 c9:List T} {K:J2} (h:GB.txt ⟨Tryz.prog,w0⟩ a0 a1 c0 c1 c2 c3 c4 c5 c6 c7 c8 c9 K):Eng.cl2 ⟨Tryz.prog,w0⟩ 24 GB.sg [a0,a1] [c0,c1,c2,c3,c4,c5,c6,c7,c8,c9] K:=
 AD (C:=⟨Tryz.prog,w0⟩) (f:=24) (fn:=Tryz.f24) [(61,HX.sg),(62,EK.sg)] [] [] Tryz.func24 (by kernel_rfl) (by kernel_rfl) (by kernel_rfl) h
def J0.sg:Sg:=⟨[(1,[.v, .v, .v, .v, .v]),(1,[.v, .v, .v, .v, .v])],[(0,[.v])],[]⟩
def J0.txt (C:Ctx) (a0 a1 a2 a3 a4 a5 a6 a7 a8 a9:Value) (K:J2):Prop:=
 prP (bnI .neq a0 a5) fun t9_1=>
 AG t9_1 (
 K [(.bool false)] []) (
 prP (bnI .neq a1 a6) fun t14_2=>
 AG t14_2 (
 K [(.bool false)] []) (
 prP (bnI .neq a2 a7) fun t19_3=>
 AG t19_3 (
 K [(.bool false)] []) (
 prP (bnI .neq a3 a8) fun t24_4=>
 AG t24_4 (
 K [(.bool false)] []) (
 prP (bnS .neq a4 a9) fun t29_5=>
 AG t29_5 (
 K [(.bool false)] []) (
 K [(.bool true)] [])))))
theorem J0.cl2 {w0:World} {a0 a1 a2 a3 a4 a5 a6 a7 a8 a9:Value} {K:J2} (h:J0.txt ⟨Tryz.prog,w0⟩ a0 a1 a2 a3 a4 a5 a6 a7 a8 a9 K):Eng.cl2 ⟨Tryz.prog,w0⟩ 63 J0.sg [a0,a1,a2,a3,a4,a5,a6,a7,a8,a9] [] K:=
 AD (C:=⟨Tryz.prog,w0⟩) (f:=63) (fn:=Tryz.f63) [] [] [] Tryz.func63 (by kernel_rfl) (by kernel_rfl) (by kernel_rfl) h
def IP.sg:Sg:=⟨[(0,[.t 5 0]),(0,[.t 5 0])],[(0,[.v])],[]⟩
def IP.txt (C:Ctx) (c0 c1:List T) (K:J2):Prop:=
 prP (bnI .neq (iv (cnt 5 c0)) (iv (cnt 5 c1))) fun t10_1=>
 AG t10_1 (
 K [(.bool false)] []) (
 BB (fun r4 x2 k3=>
 prP (bnI .lss (nx x2 0) (iv (cnt 5 c0))) fun t14_6=>
 AG t14_6 (
 ixW (cnt 5 c0) (nx x2 0) fun t19_7=>
 ldg c0 [] ((AA t19_7)*5) [.c, .c, .c, .c, .c] fun ts8=>
 ixW (cnt 5 c1) (nx x2 0) fun t23_9=>
 ldg c1 [] ((AA t23_9)*5) [.c, .c, .c, .c, .c] fun ts10=>
 cl2 C 63 J0.sg [(tv (nxT ts8 0)),(tv (nxT ts8 1)),(tv (nxT ts8 2)),(tv (nxT ts8 3)),(tv (nxT ts8 4)),(tv (nxT ts10 0)),(tv (nxT ts10 1)),(tv (nxT ts10 2)),(tv (nxT ts10 3)),(tv (nxT ts10 4))] [] fun v11 d12=>
 prP (un .not (nx v11 0)) fun t26_14=>
 AG t26_14 (
 K [(.bool false)] []) (
 prP (bnI .add (nx x2 0) (.int .i64 1)) fun t16_15=>
 r4 [t16_15] [])) (
 K [(.bool true)] [])) [(.int .i64 0)] [])
theorem IP.cl2 {w0:World} {c0 c1:List T} {K:J2} (h:IP.txt ⟨Tryz.prog,w0⟩ c0 c1 K):Eng.cl2 ⟨Tryz.prog,w0⟩ 25 IP.sg [] [c0,c1] K:=
 AD (C:=⟨Tryz.prog,w0⟩) (f:=25) (fn:=Tryz.f25) [(63,J0.sg)] [(6,[0,0,3,7,0,0,48,112,255,511])] [(58,⟨[.t (.f 0) 5, .t (.f 1) 5, .v],[],[]⟩)] Tryz.func25 (by kernel_rfl) (by kernel_rfl) (by kernel_rfl) h
def CH.sg:Sg:=⟨[(0,[.v])],[(0,[.v])],[]⟩
def CH.txt (C:Ctx) (a0:Value) (K:J2):Prop:=
 prP (bnI .leq a0 (.int .i64 0)) fun t5_1=>
 AG t5_1 (
 K [(.string {data:= #[109,48]})] []) (
 BB (fun r4 x2 k3=>
 prP (bnI .gtr (nx x2 0) (.int .i64 0)) fun t7_6=>
 AG t7_6 (
 prP (bnI .rem (nx x2 0) (.int .i64 10)) fun t9_7=>
 prP (bnI .add (.int .i64 48) t9_7) fun t10_8=>
 prP (cvI .u8 t10_8) fun t11_9=>
 prP (b2T [T.c t11_9]) fun t13_10=>
 prP (bnS .add t13_10 (nx x2 1)) fun t15_11=>
 prP (bnI .quo (nx x2 0) (.int .i64 10)) fun t17_12=>
 r4 [t17_12,t15_11] []) (
 prP (bnS .add (.string {data:= #[109]}) (nx x2 1)) fun t19_13=>
 K [t19_13] [])) [a0,(.string {data:= #[]})] [])
theorem CH.cl2 {w0:World} {a0:Value} {K:J2} (h:CH.txt ⟨Tryz.prog,w0⟩ a0 K):Eng.cl2 ⟨Tryz.prog,w0⟩ 64 CH.sg [a0] [] K:=
 AD (C:=⟨Tryz.prog,w0⟩) (f:=64) (fn:=Tryz.f64) [] [] [(60,⟨[.v, .v],[],[]⟩)] Tryz.func64 (by kernel_rfl) (by kernel_rfl) (by kernel_rfl) h
def GX.sg:Sg:=⟨[(0,[.t 5 1]),(0,[.v])],[(0,[.v])],[]⟩
def GX.txt (C:Ctx) (a0:Value) (c0:List T) (K:J2):Prop:=
 BB (fun r3 x1 k2=>
 prP (bnI .lss (nx x1 1) (iv (cnt 5 (nxc k2 0)))) fun t9_5=>
 AG t9_5 (
 ixW (cnt 5 (nxc k2 0)) (nx x1 1) fun t15_6=>
 stc (nxc k2 0) [] ((AA t15_6)*5) (nx x1 0) fun k7=>
 prP (bnI .add (nx x1 0) (.int .i64 1)) fun t18_8=>
 ixW (cnt 5 k7) (nx x1 1) fun t22_9=>
 stc k7 [] (((AA t22_9)*5)+1) t18_8 fun k10=>
 prP (bnI .add t18_8 (.int .i64 1)) fun t25_11=>
 ixW (cnt 5 k10) (nx x1 1) fun t29_12=>
 stc k10 [] (((AA t29_12)*5)+2) t25_11 fun k13=>
 prP (bnI .add t25_11 (.int .i64 1)) fun t32_14=>
 ixW (cnt 5 k13) (nx x1 1) fun t36_15=>
 stc k13 [] (((AA t36_15)*5)+3) t32_14 fun k16=>
 prP (bnI .add t32_14 (.int .i64 1)) fun t39_17=>
 cl2 C 64 CH.sg [t39_17] [] fun v18 d19=>
 ixW (cnt 5 k16) (nx x1 1) fun t44_21=>
 stc k16 [] (((AA t44_21)*5)+4) (nx v18 0) fun k22=>
 prP (bnI .add t39_17 (.int .i64 1)) fun t47_23=>
 prP (bnI .add (nx x1 1) (.int .i64 1)) fun t11_24=>
 r3 [t47_23,t11_24] [k22]) (
 K [(nx x1 0)] [(nxc k2 0)])) [a0,(.int .i64 0)] [c0]
theorem GX.cl2 {w0:World} {a0:Value} {c0:List T} {K:J2} (h:GX.txt ⟨Tryz.prog,w0⟩ a0 c0 K):Eng.cl2 ⟨Tryz.prog,w0⟩ 26 GX.sg [a0] [c0] K:=
 AD (C:=⟨Tryz.prog,w0⟩) (f:=26) (fn:=Tryz.f26) [(64,CH.sg)] [] [(26,⟨[.t (.j 0) 5, .v, .v],[.t (.j 0) 5],[.ls]⟩)] Tryz.func26 (by kernel_rfl) (by kernel_rfl) (by kernel_rfl) h
def CQ.sg:Sg:=⟨[(0,[.t 1 1]),(0,[.v])],[(0,[.v])],[]⟩
def CQ.txt (C:Ctx) (a0:Value) (c0:List T) (K:J2):Prop:=
 BB (fun r3 x1 k2=>
 prP (bnI .lss (nx x1 1) (iv (cnt 1 (nxc k2 0)))) fun t9_5=>
 AG t9_5 (
 ixW (cnt 1 (nxc k2 0)) (nx x1 1) fun t15_6=>
 stc (nxc k2 0) [] ((AA t15_6)*1) (nx x1 0) fun k7=>
 prP (bnI .add (nx x1 0) (.int .i64 1)) fun t17_8=>
 prP (bnI .add (nx x1 1) (.int .i64 1)) fun t11_9=>
 r3 [t17_8,t11_9] [k7]) (
 K [(nx x1 0)] [(nxc k2 0)])) [a0,(.int .i64 0)] [c0]
theorem CQ.cl2 {w0:World} {a0:Value} {c0:List T} {K:J2} (h:CQ.txt ⟨Tryz.prog,w0⟩ a0 c0 K):Eng.cl2 ⟨Tryz.prog,w0⟩ 116 CQ.sg [a0] [c0] K:=
 AD (C:=⟨Tryz.prog,w0⟩) (f:=116) (fn:=Tryz.f116) [] [] [(26,⟨[.t (.j 0) 1, .v, .v],[.t (.j 0) 1],[.ls]⟩)] Tryz.func116 (by kernel_rfl) (by kernel_rfl) (by kernel_rfl) h
def FO.sg:Sg:=⟨[(0,[.t 8 1]),(0,[.v])],[(0,[.v])],[]⟩
def FO.txt (C:Ctx) (a0:Value) (c0:List T) (K:J2):Prop:=
 BB (fun r3 x1 k2=>
 prP (bnI .lss (nx x1 1) (iv (cnt 8 (nxc k2 0)))) fun t9_5=>
 AG t9_5 (
 prP (bnI .rem (nx x1 0) (.int .i64 3)) fun t15_6=>
 prP (bnI .eql t15_6 (.int .i64 0)) fun t16_7=>
 ixW (cnt 8 (nxc k2 0)) (nx x1 1) fun t17_8=>
 stc (nxc k2 0) [] ((AA t17_8)*8) t16_7 fun k9=>
 prP (bnI .add (nx x1 0) (.int .i64 1)) fun t20_10=>
 ixW (cnt 8 k9) (nx x1 1) fun t24_11=>
 stc k9 [] (((AA t24_11)*8)+1) t20_10 fun k12=>
 prP (bnI .add t20_10 (.int .i64 1)) fun t27_13=>
 ixW (cnt 8 k12) (nx x1 1) fun t31_14=>
 stc k12 [] (((AA t31_14)*8)+2) t27_13 fun k15=>
 prP (bnI .add t27_13 (.int .i64 1)) fun t34_16=>
 ixW (cnt 8 k15) (nx x1 1) fun t38_17=>
 stc k15 [] (((AA t38_17)*8)+3) t34_16 fun k18=>
 prP (bnI .add t34_16 (.int .i64 1)) fun t41_19=>
 ixW (cnt 8 k18) (nx x1 1) fun t45_20=>
 stc k18 [] (((AA t45_20)*8)+4) t41_19 fun k21=>
 prP (bnI .add t41_19 (.int .i64 1)) fun t48_22=>
 ixW (cnt 8 k21) (nx x1 1) fun t52_23=>
 stc k21 [] (((AA t52_23)*8)+5) t48_22 fun k24=>
 prP (bnI .add t48_22 (.int .i64 1)) fun t55_25=>
 ixW (cnt 8 k24) (nx x1 1) fun t58_26=>
 ldl k24 [] (((AA t58_26)*8)+6) 1 fun t60_27=>
 cl2 C 116 CQ.sg [t55_25] [(FE k24 [(((AA t58_26)*8)+6)])] fun v28 d29=>
 prP (bnI .rem (nx v28 0) (.int .i64 3)) fun t66_30=>
 prP (bnI .eql t66_30 (.int .i64 0)) fun t67_31=>
 ixW (cnt 8 (IJ k24 [(((AA t58_26)*8)+6)] (nxc d29 0))) (nx x1 1) fun t68_32=>
 stc (IJ k24 [(((AA t58_26)*8)+6)] (nxc d29 0)) [] (((AA t68_32)*8)+7) t67_31 fun k33=>
 prP (bnI .add (nx v28 0) (.int .i64 1)) fun t71_34=>
 prP (bnI .add (nx x1 1) (.int .i64 1)) fun t11_35=>
 r3 [t71_34,t11_35] [k33]) (
 K [(nx x1 0)] [(nxc k2 0)])) [a0,(.int .i64 0)] [c0]
theorem FO.cl2 {w0:World} {a0:Value} {c0:List T} {K:J2} (h:FO.txt ⟨Tryz.prog,w0⟩ a0 c0 K):Eng.cl2 ⟨Tryz.prog,w0⟩ 114 FO.sg [a0] [c0] K:=
 AD (C:=⟨Tryz.prog,w0⟩) (f:=114) (fn:=Tryz.f114) [(116,CQ.sg)] [] [(26,⟨[.t (.j 0) 8, .v, .v],[.t (.j 0) 8],[.ls]⟩)] Tryz.func114 (by kernel_rfl) (by kernel_rfl) (by kernel_rfl) h
def EW.sg:Sg:=⟨[(0,[.t 2 1]),(0,[.v])],[(0,[.v])],[]⟩
def EW.txt (C:Ctx) (a0:Value) (c0:List T) (K:J2):Prop:=
 BB (fun r3 x1 k2=>
 prP (bnI .lss (nx x1 1) (iv (cnt 2 (nxc k2 0)))) fun t9_5=>
 AG t9_5 (
 prP (bnI .rem (nx x1 0) (.int .i64 3)) fun t15_6=>
 prP (bnI .eql t15_6 (.int .i64 0)) fun t16_7=>
 ixW (cnt 2 (nxc k2 0)) (nx x1 1) fun t17_8=>
 stc (nxc k2 0) [] ((AA t17_8)*2) t16_7 fun k9=>
 prP (bnI .add (nx x1 0) (.int .i64 1)) fun t20_10=>
 ixW (cnt 2 k9) (nx x1 1) fun t24_11=>
 stc k9 [] (((AA t24_11)*2)+1) t20_10 fun k12=>
 prP (bnI .add t20_10 (.int .i64 1)) fun t27_13=>
 prP (bnI .add (nx x1 1) (.int .i64 1)) fun t11_14=>
 r3 [t27_13,t11_14] [k12]) (
 K [(nx x1 0)] [(nxc k2 0)])) [a0,(.int .i64 0)] [c0]
theorem EW.cl2 {w0:World} {a0:Value} {c0:List T} {K:J2} (h:EW.txt ⟨Tryz.prog,w0⟩ a0 c0 K):Eng.cl2 ⟨Tryz.prog,w0⟩ 115 EW.sg [a0] [c0] K:=
 AD (C:=⟨Tryz.prog,w0⟩) (f:=115) (fn:=Tryz.f115) [] [] [(26,⟨[.t (.j 0) 2, .v, .v],[.t (.j 0) 2],[.ls]⟩)] Tryz.func115 (by kernel_rfl) (by kernel_rfl) (by kernel_rfl) h
def C2.sg:Sg:=⟨[(0,[.t 1 1]),(0,[.v])],[(0,[.v])],[]⟩
def C2.txt (C:Ctx) (a0:Value) (c0:List T) (K:J2):Prop:=
 BB (fun r3 x1 k2=>
 prP (bnI .lss (nx x1 1) (iv (cnt 1 (nxc k2 0)))) fun t9_5=>
 AG t9_5 (
 cl2 C 64 CH.sg [(nx x1 0)] [] fun v6 d7=>
 ixW (cnt 1 (nxc k2 0)) (nx x1 1) fun t16_9=>
 stc (nxc k2 0) [] ((AA t16_9)*1) (nx v6 0) fun k10=>
 prP (bnI .add (nx x1 0) (.int .i64 1)) fun t18_11=>
 prP (bnI .add (nx x1 1) (.int .i64 1)) fun t11_12=>
 r3 [t18_11,t11_12] [k10]) (
 K [(nx x1 0)] [(nxc k2 0)])) [a0,(.int .i64 0)] [c0]
theorem C2.cl2 {w0:World} {a0:Value} {c0:List T} {K:J2} (h:C2.txt ⟨Tryz.prog,w0⟩ a0 c0 K):Eng.cl2 ⟨Tryz.prog,w0⟩ 117 C2.sg [a0] [c0] K:=
 AD (C:=⟨Tryz.prog,w0⟩) (f:=117) (fn:=Tryz.f117) [(64,CH.sg)] [] [(26,⟨[.t (.j 0) 1, .v, .v],[.t (.j 0) 1],[.ls]⟩)] Tryz.func117 (by kernel_rfl) (by kernel_rfl) (by kernel_rfl) h
def FM.sg:Sg:=⟨[(1,[.t 8 1, .t 2 1, .t 1 1, .t 1 1]),(0,[.v])],[(0,[.v])],[]⟩
def FM.txt (C:Ctx) (a0:Value) (c0 c1 c2 c3:List T) (K:J2):Prop:=
 cl2 C 114 FO.sg [a0] [c0] fun v1 d2=>
 cl2 C 115 EW.sg [(nx v1 0)] [c1] fun v3 d4=>
 cl2 C 116 CQ.sg [(nx v3 0)] [c2] fun v5 d6=>
 cl2 C 117 C2.sg [(nx v5 0)] [c3] fun v7 d8=>
 K [(nx v7 0)] [(nxc d2 0),(nxc d4 0),(nxc d6 0),(nxc d8 0)]
theorem FM.cl2 {w0:World} {a0:Value} {c0 c1 c2 c3:List T} {K:J2} (h:FM.txt ⟨Tryz.prog,w0⟩ a0 c0 c1 c2 c3 K):Eng.cl2 ⟨Tryz.prog,w0⟩ 65 FM.sg [a0] [c0,c1,c2,c3] K:=
 AD (C:=⟨Tryz.prog,w0⟩) (f:=65) (fn:=Tryz.f65) [(114,FO.sg),(115,EW.sg),(116,CQ.sg),(117,C2.sg)] [] [] Tryz.func65 (by kernel_rfl) (by kernel_rfl) (by kernel_rfl) h
def DK.sg:Sg:=⟨[(0,[.t 3 1]),(0,[.v])],[(0,[.v])],[]⟩
def DK.txt (C:Ctx) (a0:Value) (c0:List T) (K:J2):Prop:=
 BB (fun r3 x1 k2=>
 prP (bnI .lss (nx x1 1) (iv (cnt 3 (nxc k2 0)))) fun t9_5=>
 AG t9_5 (
 ixW (cnt 3 (nxc k2 0)) (nx x1 1) fun t15_6=>
 stc (nxc k2 0) [] ((AA t15_6)*3) (nx x1 0) fun k7=>
 prP (bnI .add (nx x1 0) (.int .i64 1)) fun t18_8=>
 ixW (cnt 3 k7) (nx x1 1) fun t22_9=>
 stc k7 [] (((AA t22_9)*3)+1) t18_8 fun k10=>
 prP (bnI .add t18_8 (.int .i64 1)) fun t25_11=>
 ixW (cnt 3 k10) (nx x1 1) fun t28_12=>
 ldl k10 [] (((AA t28_12)*3)+2) 1 fun t30_13=>
 cl2 C 116 CQ.sg [t25_11] [(FE k10 [(((AA t28_12)*3)+2)])] fun v14 d15=>
 prP (bnI .add (nx x1 1) (.int .i64 1)) fun t11_16=>
 r3 [(nx v14 0),t11_16] [(IJ k10 [(((AA t28_12)*3)+2)] (nxc d15 0))]) (
 K [(nx x1 0)] [(nxc k2 0)])) [a0,(.int .i64 0)] [c0]
theorem DK.cl2 {w0:World} {a0:Value} {c0:List T} {K:J2} (h:DK.txt ⟨Tryz.prog,w0⟩ a0 c0 K):Eng.cl2 ⟨Tryz.prog,w0⟩ 66 DK.sg [a0] [c0] K:=
 AD (C:=⟨Tryz.prog,w0⟩) (f:=66) (fn:=Tryz.f66) [(116,CQ.sg)] [] [(26,⟨[.t (.j 0) 3, .v, .v],[.t (.j 0) 3],[.ls]⟩)] Tryz.func66 (by kernel_rfl) (by kernel_rfl) (by kernel_rfl) h
def G4.sg:Sg:=⟨[(1,[.v, .t 8 1, .t 2 1, .t 1 1, .t 1 1, .t 3 1]),(0,[.v])],[(0,[.v])],[]⟩
def G4.txt (C:Ctx) (a0 a1:Value) (c0 c1 c2 c3 c4:List T) (K:J2):Prop:=
 cl2 C 65 FM.sg [a1] [c0,c1,c2,c3] fun v1 d2=>
 cl2 C 66 DK.sg [(nx v1 0)] [c4] fun v3 d4=>
 K [(nx v3 0)] [(nxc d2 0),(nxc d2 1),(nxc d2 2),(nxc d2 3),(nxc d4 0)]
theorem G4.cl2 {w0:World} {a0 a1:Value} {c0 c1 c2 c3 c4:List T} {K:J2} (h:G4.txt ⟨Tryz.prog,w0⟩ a0 a1 c0 c1 c2 c3 c4 K):Eng.cl2 ⟨Tryz.prog,w0⟩ 27 G4.sg [a0,a1] [c0,c1,c2,c3,c4] K:=
 AD (C:=⟨Tryz.prog,w0⟩) (f:=27) (fn:=Tryz.f27) [(65,FM.sg),(66,DK.sg)] [] [] Tryz.func27 (by kernel_rfl) (by kernel_rfl) (by kernel_rfl) h
def C1.sg:Sg:=⟨[(0,[.t 1 0]),(0,[.v])],[(0,[.v])],[]⟩
def C1.txt (C:Ctx) (a0:Value) (c0:List T) (K:J2):Prop:=
 BB (fun r3 x1 k2=>
 prP (bnI .lss (nx x1 1) (iv (cnt 1 c0))) fun t9_5=>
 AG t9_5 (
 ixW (cnt 1 c0) (nx x1 1) fun t14_6=>
 ldc c0 [] ((AA t14_6)*1) fun t15_7=>
 prP (bnI .neq t15_7 (nx x1 0)) fun t17_8=>
 AG t17_8 (
 K [(.int .i64 (-1))] []) (
 prP (bnI .add (nx x1 0) (.int .i64 1)) fun t19_9=>
 prP (bnI .add (nx x1 1) (.int .i64 1)) fun t11_10=>
 r3 [t19_9,t11_10] [])) (
 K [(nx x1 0)] [])) [a0,(.int .i64 0)] []
theorem C1.cl2 {w0:World} {a0:Value} {c0:List T} {K:J2} (h:C1.txt ⟨Tryz.prog,w0⟩ a0 c0 K):Eng.cl2 ⟨Tryz.prog,w0⟩ 120 C1.sg [a0] [c0] K:=
 AD (C:=⟨Tryz.prog,w0⟩) (f:=120) (fn:=Tryz.f120) [] [] [(26,⟨[.t (.f 0) 1, .v, .v],[],[]⟩)] Tryz.func120 (by kernel_rfl) (by kernel_rfl) (by kernel_rfl) h
def FQ.sg:Sg:=⟨[(0,[.t 8 0]),(0,[.v])],[(0,[.v])],[]⟩
def FQ.txt (C:Ctx) (a0:Value) (c0:List T) (K:J2):Prop:=
 BB (fun r3 x1 k2=>
 prP (bnI .lss (nx x1 1) (iv (cnt 8 c0))) fun t9_5=>
 AG t9_5 (
 ixW (cnt 8 c0) (nx x1 1) fun t14_6=>
 ldc c0 [] ((AA t14_6)*8) fun t16_7=>
 prP (bnI .rem (nx x1 0) (.int .i64 3)) fun t18_8=>
 prP (bnI .eql t18_8 (.int .i64 0)) fun t19_9=>
 prP (bnB .neq t16_7 t19_9) fun t20_10=>
 AG t20_10 (
 K [(.int .i64 (-1))] []) (
 prP (bnI .add (nx x1 0) (.int .i64 1)) fun t22_11=>
 ixW (cnt 8 c0) (nx x1 1) fun t25_12=>
 ldc c0 [] (((AA t25_12)*8)+1) fun t27_13=>
 prP (bnI .neq t27_13 t22_11) fun t29_14=>
 AG t29_14 (
 K [(.int .i64 (-1))] []) (
 prP (bnI .add t22_11 (.int .i64 1)) fun t31_15=>
 ixW (cnt 8 c0) (nx x1 1) fun t34_16=>
 ldc c0 [] (((AA t34_16)*8)+2) fun t36_17=>
 prP (bnI .neq t36_17 t31_15) fun t38_18=>
 AG t38_18 (
 K [(.int .i64 (-1))] []) (
 prP (bnI .add t31_15 (.int .i64 1)) fun t40_19=>
 ixW (cnt 8 c0) (nx x1 1) fun t43_20=>
 ldc c0 [] (((AA t43_20)*8)+3) fun t45_21=>
 prP (bnI .neq t45_21 t40_19) fun t47_22=>
 AG t47_22 (
 K [(.int .i64 (-1))] []) (
 prP (bnI .add t40_19 (.int .i64 1)) fun t49_23=>
 ixW (cnt 8 c0) (nx x1 1) fun t52_24=>
 ldc c0 [] (((AA t52_24)*8)+4) fun t54_25=>
 prP (bnI .neq t54_25 t49_23) fun t56_26=>
 AG t56_26 (
 K [(.int .i64 (-1))] []) (
 prP (bnI .add t49_23 (.int .i64 1)) fun t58_27=>
 ixW (cnt 8 c0) (nx x1 1) fun t61_28=>
 ldc c0 [] (((AA t61_28)*8)+5) fun t63_29=>
 prP (bnI .neq t63_29 t58_27) fun t65_30=>
 AG t65_30 (
 K [(.int .i64 (-1))] []) (
 prP (bnI .add t58_27 (.int .i64 1)) fun t67_31=>
 ixW (cnt 8 c0) (nx x1 1) fun t70_32=>
 ldl c0 [] (((AA t70_32)*8)+6) 1 fun t72_33=>
 cl2 C 120 C1.sg [t67_31] [(FE c0 [(((AA t70_32)*8)+6)])] fun v34 d35=>
 prP (bnI .lss (nx v34 0) (.int .i64 0)) fun t76_37=>
 AG t76_37 (
 K [(.int .i64 (-1))] []) (
 ixW (cnt 8 c0) (nx x1 1) fun t79_38=>
 ldc c0 [] (((AA t79_38)*8)+7) fun t81_39=>
 prP (bnI .rem (nx v34 0) (.int .i64 3)) fun t83_40=>
 prP (bnI .eql t83_40 (.int .i64 0)) fun t84_41=>
 prP (bnB .neq t81_39 t84_41) fun t85_42=>
 AG t85_42 (
 K [(.int .i64 (-1))] []) (
 prP (bnI .add (nx v34 0) (.int .i64 1)) fun t87_43=>
 prP (bnI .add (nx x1 1) (.int .i64 1)) fun t11_44=>
 r3 [t87_43,t11_44] []))))))))) (
 K [(nx x1 0)] [])) [a0,(.int .i64 0)] []
theorem FQ.cl2 {w0:World} {a0:Value} {c0:List T} {K:J2} (h:FQ.txt ⟨Tryz.prog,w0⟩ a0 c0 K):Eng.cl2 ⟨Tryz.prog,w0⟩ 118 FQ.sg [a0] [c0] K:=
 AD (C:=⟨Tryz.prog,w0⟩) (f:=118) (fn:=Tryz.f118) [(120,C1.sg)] [] [(26,⟨[.t (.f 0) 8, .v, .v],[],[]⟩)] Tryz.func118 (by kernel_rfl) (by kernel_rfl) (by kernel_rfl) h
def EP.sg:Sg:=⟨[(0,[.t 2 0]),(0,[.v])],[(0,[.v])],[]⟩
def EP.txt (C:Ctx) (a0:Value) (c0:List T) (K:J2):Prop:=
 BB (fun r3 x1 k2=>
 prP (bnI .lss (nx x1 1) (iv (cnt 2 c0))) fun t9_5=>
 AG t9_5 (
 ixW (cnt 2 c0) (nx x1 1) fun t14_6=>
 ldc c0 [] ((AA t14_6)*2) fun t16_7=>
 prP (bnI .rem (nx x1 0) (.int .i64 3)) fun t18_8=>
 prP (bnI .eql t18_8 (.int .i64 0)) fun t19_9=>
 prP (bnB .neq t16_7 t19_9) fun t20_10=>
 AG t20_10 (
 K [(.int .i64 (-1))] []) (
 prP (bnI .add (nx x1 0) (.int .i64 1)) fun t22_11=>
 ixW (cnt 2 c0) (nx x1 1) fun t25_12=>
 ldc c0 [] (((AA t25_12)*2)+1) fun t27_13=>
 prP (bnI .neq t27_13 t22_11) fun t29_14=>
 AG t29_14 (
 K [(.int .i64 (-1))] []) (
 prP (bnI .add t22_11 (.int .i64 1)) fun t31_15=>
 prP (bnI .add (nx x1 1) (.int .i64 1)) fun t11_16=>
 r3 [t31_15,t11_16] []))) (
 K [(nx x1 0)] [])) [a0,(.int .i64 0)] []
theorem EP.cl2 {w0:World} {a0:Value} {c0:List T} {K:J2} (h:EP.txt ⟨Tryz.prog,w0⟩ a0 c0 K):Eng.cl2 ⟨Tryz.prog,w0⟩ 119 EP.sg [a0] [c0] K:=
 AD (C:=⟨Tryz.prog,w0⟩) (f:=119) (fn:=Tryz.f119) [] [] [(26,⟨[.t (.f 0) 2, .v, .v],[],[]⟩)] Tryz.func119 (by kernel_rfl) (by kernel_rfl) (by kernel_rfl) h
def C3.sg:Sg:=⟨[(0,[.t 1 0]),(0,[.v])],[(0,[.v])],[]⟩
def C3.txt (C:Ctx) (a0:Value) (c0:List T) (K:J2):Prop:=
 BB (fun r3 x1 k2=>
 prP (bnI .lss (nx x1 1) (iv (cnt 1 c0))) fun t9_5=>
 AG t9_5 (
 ixW (cnt 1 c0) (nx x1 1) fun t14_6=>
 ldc c0 [] ((AA t14_6)*1) fun t15_7=>
 cl2 C 64 CH.sg [(nx x1 0)] [] fun v8 d9=>
 prP (bnS .neq t15_7 (nx v8 0)) fun t18_11=>
 AG t18_11 (
 K [(.int .i64 (-1))] []) (
 prP (bnI .add (nx x1 0) (.int .i64 1)) fun t20_12=>
 prP (bnI .add (nx x1 1) (.int .i64 1)) fun t11_13=>
 r3 [t20_12,t11_13] [])) (
 K [(nx x1 0)] [])) [a0,(.int .i64 0)] []
theorem C3.cl2 {w0:World} {a0:Value} {c0:List T} {K:J2} (h:C3.txt ⟨Tryz.prog,w0⟩ a0 c0 K):Eng.cl2 ⟨Tryz.prog,w0⟩ 121 C3.sg [a0] [c0] K:=
 AD (C:=⟨Tryz.prog,w0⟩) (f:=121) (fn:=Tryz.f121) [(64,CH.sg)] [(4,[0,0,3,7,0,16,63])] [(26,⟨[.t (.f 0) 1, .v, .v],[],[]⟩)] Tryz.func121 (by kernel_rfl) (by kernel_rfl) (by kernel_rfl) h
def FV.sg:Sg:=⟨[(1,[.t 8 0, .t 2 0, .t 1 0, .t 1 0]),(0,[.v])],[(0,[.v])],[]⟩
def FV.txt (C:Ctx) (a0:Value) (c0 c1 c2 c3:List T) (K:J2):Prop:=
 cl2 C 118 FQ.sg [a0] [c0] fun v1 d2=>
 prP (bnI .lss (nx v1 0) (.int .i64 0)) fun t10_4=>
 AG t10_4 (
 K [(.int .i64 (-1))] []) (
 cl2 C 119 EP.sg [(nx v1 0)] [c1] fun v5 d6=>
 prP (bnI .lss (nx v5 0) (.int .i64 0)) fun t16_8=>
 AG t16_8 (
 K [(.int .i64 (-1))] []) (
 cl2 C 120 C1.sg [(nx v5 0)] [c2] fun v9 d10=>
 prP (bnI .lss (nx v9 0) (.int .i64 0)) fun t22_12=>
 AG t22_12 (
 K [(.int .i64 (-1))] []) (
 cl2 C 121 C3.sg [(nx v9 0)] [c3] fun v13 d14=>
 prP (bnI .lss (nx v13 0) (.int .i64 0)) fun t28_16=>
 AG t28_16 (
 K [(.int .i64 (-1))] []) (
 K [(nx v13 0)] []))))
theorem FV.cl2 {w0:World} {a0:Value} {c0 c1 c2 c3:List T} {K:J2} (h:FV.txt ⟨Tryz.prog,w0⟩ a0 c0 c1 c2 c3 K):Eng.cl2 ⟨Tryz.prog,w0⟩ 67 FV.sg [a0] [c0,c1,c2,c3] K:=
 AD (C:=⟨Tryz.prog,w0⟩) (f:=67) (fn:=Tryz.f67) [(118,FQ.sg),(119,EP.sg),(120,C1.sg),(121,C3.sg)] [] [] Tryz.func67 (by kernel_rfl) (by kernel_rfl) (by kernel_rfl) h
def DM.sg:Sg:=⟨[(0,[.t 3 0]),(0,[.v])],[(0,[.v])],[]⟩
def DM.txt (C:Ctx) (a0:Value) (c0:List T) (K:J2):Prop:=
 BB (fun r3 x1 k2=>
 prP (bnI .lss (nx x1 1) (iv (cnt 3 c0))) fun t9_5=>
 AG t9_5 (
 ixW (cnt 3 c0) (nx x1 1) fun t14_6=>
 ldc c0 [] ((AA t14_6)*3) fun t16_7=>
 prP (bnI .neq t16_7 (nx x1 0)) fun t18_8=>
 AG t18_8 (
 K [(.int .i64 (-1))] []) (
 prP (bnI .add (nx x1 0) (.int .i64 1)) fun t20_9=>
 ixW (cnt 3 c0) (nx x1 1) fun t23_10=>
 ldc c0 [] (((AA t23_10)*3)+1) fun t25_11=>
 prP (bnI .neq t25_11 t20_9) fun t27_12=>
 AG t27_12 (
 K [(.int .i64 (-1))] []) (
 prP (bnI .add t20_9 (.int .i64 1)) fun t29_13=>
 ixW (cnt 3 c0) (nx x1 1) fun t32_14=>
 ldl c0 [] (((AA t32_14)*3)+2) 1 fun t34_15=>
 cl2 C 120 C1.sg [t29_13] [(FE c0 [(((AA t32_14)*3)+2)])] fun v16 d17=>
 prP (bnI .lss (nx v16 0) (.int .i64 0)) fun t38_19=>
 AG t38_19 (
 K [(.int .i64 (-1))] []) (
 prP (bnI .add (nx x1 1) (.int .i64 1)) fun t11_20=>
 r3 [(nx v16 0),t11_20] [])))) (
 K [(nx x1 0)] [])) [a0,(.int .i64 0)] []
theorem DM.cl2 {w0:World} {a0:Value} {c0:List T} {K:J2} (h:DM.txt ⟨Tryz.prog,w0⟩ a0 c0 K):Eng.cl2 ⟨Tryz.prog,w0⟩ 68 DM.sg [a0] [c0] K:=
 AD (C:=⟨Tryz.prog,w0⟩) (f:=68) (fn:=Tryz.f68) [(120,C1.sg)] [] [(26,⟨[.t (.f 0) 3, .v, .v],[],[]⟩)] Tryz.func68 (by kernel_rfl) (by kernel_rfl) (by kernel_rfl) h
def FZ.sg:Sg:=⟨[(1,[.v, .t 8 0, .t 2 0, .t 1 0, .t 1 0, .t 3 0]),(0,[.v])],[(0,[.v])],[]⟩
def FZ.txt (C:Ctx) (a0 a1:Value) (c0 c1 c2 c3 c4:List T) (K:J2):Prop:=
 cl2 C 67 FV.sg [a1] [c0,c1,c2,c3] fun v1 d2=>
 prP (bnI .lss (nx v1 0) (.int .i64 0)) fun t10_4=>
 AG t10_4 (
 K [(.int .i64 (-1))] []) (
 cl2 C 68 DM.sg [(nx v1 0)] [c4] fun v5 d6=>
 prP (bnI .lss (nx v5 0) (.int .i64 0)) fun t16_8=>
 AG t16_8 (
 K [(.int .i64 (-1))] []) (
 K [(nx v5 0)] []))
theorem FZ.cl2 {w0:World} {a0 a1:Value} {c0 c1 c2 c3 c4:List T} {K:J2} (h:FZ.txt ⟨Tryz.prog,w0⟩ a0 a1 c0 c1 c2 c3 c4 K):Eng.cl2 ⟨Tryz.prog,w0⟩ 28 FZ.sg [a0,a1] [c0,c1,c2,c3,c4] K:=
 AD (C:=⟨Tryz.prog,w0⟩) (f:=28) (fn:=Tryz.f28) [(67,FV.sg),(68,DM.sg)] [] [] Tryz.func28 (by kernel_rfl) (by kernel_rfl) (by kernel_rfl) h
def DB.sg:Sg:=⟨[(0,[.t 5 0])],[(0,[.v])],[]⟩
def DB.txt (C:Ctx) (c0:List T) (K:J2):Prop:=
 cl2 C 22 IN.sg [(.int .i64 1048576)] [c0] fun v1 d2=>
 prP (bnI .lss (nx v1 0) (.int .i64 0)) fun t15_4=>
 AG t15_4 (
 K [(.bool true)] []) (
 cl2 C 23 GI.sg [] [c0] fun v5 d6=>
 cl2 C 10 IM.sg [] [(nxc d6 0)] fun v7 d8=>
 cl2 C 23 GI.sg [] [c0] fun v9 d10=>
 cl2 C 9 H4.sg [] [(nxc d10 0)] fun v11 d12=>
 cl2 C 24 GB.sg [(nx v11 0),(nx v7 0)] [(nxc d12 0),(nxc d12 1),(nxc d12 2),(nxc d12 3),(nxc d12 4),(nxc d8 0),(nxc d8 1),(nxc d8 2),(nxc d8 3),(nxc d8 4)] fun v13 d14=>
 prP (un .not (nx v13 0)) fun t26_16=>
 AG t26_16 (
 K [(.bool false)] []) (
 cl2 C 23 GI.sg [] [c0] fun v17 d18=>
 cl2 C 25 IP.sg [] [(nxc d10 0),(nxc d18 0)] fun v19 d20=>
 prP (un .not (nx v19 0)) fun t31_22=>
 AG t31_22 (
 K [(.bool false)] []) (
 cl2 C 26 GX.sg [(.int .i64 1)] [(nxc d10 0)] fun v23 d24=>
 prP (bnI .lss (nx v23 0) (.int .i64 0)) fun t36_25=>
 gE t36_25 (
 gE t36_25 (
 gP t36_25 false ((fun K=>cl2 C 24 GB.sg [(nx v11 0),(nx v7 0)] [(nxc d12 0),(nxc d12 1),(nxc d12 2),(nxc d12 3),(nxc d12 4),(nxc d8 0),(nxc d8 1),(nxc d8 2),(nxc d8 3),(nxc d8 4)] fun v26 d27=>K (nx v26 0))) fun t40_28=>
 gP t36_25 false (prP (un .not t40_28)) fun t41_29=>
 prP (pk t36_25 (.bool true) t41_29) fun t42_30=>
 AG t42_30 (
 K [(.bool false)] []) (
 cl2 C 27 G4.sg [(nx v11 0),(.int .i64 1)] [(nxc d12 0),(nxc d12 1),(nxc d12 2),(nxc d12 3),(nxc d12 4)] fun v31 d32=>
 cl2 C 28 FZ.sg [(nx v11 0),(.int .i64 1)] [(nxc d32 0),(nxc d32 1),(nxc d32 2),(nxc d32 3),(nxc d32 4)] fun v33 d34=>
 prP (bnI .lss (nx v33 0) (.int .i64 0)) fun t50_36=>
 AG t50_36 (
 K [(.bool false)] []) (
 prP (bnI .neq (nx v33 0) (nx v31 0)) fun t53_37=>
 AG t53_37 (
 K [(.bool false)] []) (
 cl2 C 23 GI.sg [] [c0] fun v38 d39=>
 cl2 C 9 H4.sg [] [(nxc d39 0)] fun v40 d41=>
 cl2 C 24 GB.sg [(nx v40 0),(nx v7 0)] [(nxc d41 0),(nxc d41 1),(nxc d41 2),(nxc d41 3),(nxc d41 4),(nxc d8 0),(nxc d8 1),(nxc d8 2),(nxc d8 3),(nxc d8 4)] fun v42 d43=>
 prP (un .not (nx v42 0)) fun t60_45=>
 AG t60_45 (
 K [(.bool false)] []) (
 cl2 C 28 FZ.sg [(nx v11 0),(.int .i64 1)] [(nxc d32 0),(nxc d32 1),(nxc d32 2),(nxc d32 3),(nxc d32 4)] fun v46 d47=>
 prP (bnI .lss (nx v46 0) (.int .i64 0)) fun t65_49=>
 AG t65_49 (
 K [(.bool false)] []) (
 prP (bnI .neq (nx v46 0) (nx v31 0)) fun t68_50=>
 AG t68_50 (
 K [(.bool false)] []) (
 K [(.bool true)] [])))))))))))
theorem DB.cl2 {w0:World} {c0:List T} {K:J2} (h:DB.txt ⟨Tryz.prog,w0⟩ c0 K):Eng.cl2 ⟨Tryz.prog,w0⟩ 5 DB.sg [] [c0] K:=
 AD (C:=⟨Tryz.prog,w0⟩) (f:=5) (fn:=Tryz.f5) [(22,IN.sg),(23,GI.sg),(10,IM.sg),(9,H4.sg),(24,GB.sg),(25,IP.sg),(26,GX.sg),(27,G4.sg),(28,FZ.sg)] [] [] Tryz.func5 (by kernel_rfl) (by kernel_rfl) (by kernel_rfl) h
end Go.Proofs.YtnhicpkhkaihoaaGreat.P
