/- A part of the proof. -/
import Derived.Test.YtnhicpkhkaihoaaGreatChecked
import Derived.Test.YtnhicpkhkaihoaaGreatRpPZ2
import Derived.KernelRfl
namespace Go.Proofs.YtnhicpkhkaihoaaGreat.P
open Go Go.Proofs.YtnhicpkhkaihoaaGreat Go.Proofs.YtnhicpkhkaihoaaGreat.Eng
set_option linter.unusedVariables false
set_option maxRecDepth 100000
def EJ.sg:Sg:=⟨[(1,[.v, .t 1 0]),(1,[.v, .v, .v, .v, .v]),(1,[.v, .v, .t 1 0])],[(0,[.v]),(1,[.v, .t 1])],[]⟩
def EJ.txt (C:Ctx) (a0 a1 a2 a3 a4 a5 a6 a7:Value) (c0 c1:List T) (K:J2):Prop:=
 cl2 C 81 EP.sg [a0] [c0] fun v1 d2=>
 cl2 C 87 G6.sg [a1,a2,a3,a4,a5] [] fun v3 d4=>
 prP (un .not (nx v3 0)) fun t18_6=>
 gE t18_6 (
 gP t18_6 false ((fun K=>cl2 C 88 EM.sg [a6,a7] [c1] fun v7 d8=>K (nx v7 0))) fun t21_9=>
 gP t18_6 false (prP (un .not t21_9)) fun t22_10=>
 prP (pk t18_6 (.bool true) t22_10) fun t23_11=>
 gE t23_11 (
 gP t23_11 false ((fun K=>cl2 C 89 JX.sg [a0] [c0] fun v12 d13=>K (nx v12 0))) fun t26_14=>
 gP t23_11 false (prP (un .not t26_14)) fun t27_15=>
 prP (pk t23_11 (.bool true) t27_15) fun t28_16=>
 AG t28_16 (
 K [(.string {data:= #[]}),(nx v1 0)] [(nxc d2 0)]) (
 cl2 C 90 D5.sg [a1] [] fun v17 d18=>
 prP (bnI .sub a2 a0) fun t37_20=>
 cl2 C 90 D5.sg [t37_20] [] fun v21 d22=>
 prP (bnS .add (nx v17 0) (nx v21 0)) fun t39_24=>
 cl2 C 90 D5.sg [a3] [] fun v25 d26=>
 prP (bnS .add t39_24 (nx v25 0)) fun t43_28=>
 prP (bnI .sub a4 a2) fun t48_29=>
 cl2 C 90 D5.sg [t48_29] [] fun v30 d31=>
 prP (bnS .add t43_28 (nx v30 0)) fun t50_33=>
 B6 (fun x35 k36=>
 cl2 C 92 FL.sg [(nx x35 6)] [] fun v55 d56=>
 prP (bnI .sub (nx x35 7) (nx x35 2)) fun t88_58=>
 cl2 C 90 D5.sg [t88_58] [] fun v59 d60=>
 prP (bnS .add (nx v55 0) (nx v59 0)) fun t90_62=>
 cl2 C 92 FL.sg [(iv (cnt 1 c1))] [] fun v63 d64=>
 prP (bnS .add t90_62 (nx v63 0)) fun t95_66=>
 prP (bnS .add (nx x35 0) t95_66) fun t96_67=>
 BA (fun r70 x68 k69=>
 prP (bnI .lss (nx x68 3) (nx x68 2)) fun t103_72=>
 AG t103_72 (
 ixW (cnt 1 c1) (nx x68 3) fun t104_73=>
 ldc c1 [] ((AA t104_73)*1) fun t105_74=>
 prP (bnI .sub t105_74 (nx x68 1)) fun t109_75=>
 cl2 C 90 D5.sg [t109_75] [] fun v76 d77=>
 prP (bnS .add (nx x68 0) (nx v76 0)) fun t111_79=>
 prP (bnI .add (nx x68 3) (.int .i64 1)) fun t113_80=>
 r70 [t111_79,t105_74,(nx x68 2),t113_80,(nx x68 4),(nx x68 5)] [(nxc k69 0)]) (
 K [(nx x68 0),(nx x68 5)] [(nxc k69 0)])) [t96_67,(nx x35 2),(iv (cnt 1 c1)),(.int .i64 0),(nx x35 8),(nx x35 9)] [(nxc k36 0)]) fun j37=>
 cl2 C 91 FB.sg [a5] [c0] fun v38 d39=>
 prP (bnI .geq (nx v38 0) (.int .i64 0)) fun t60_41=>
 AG t60_41 (
 prP (bnI .add (nx v38 0) (.int .i64 1)) fun t63_42=>
 cl2 C 92 FL.sg [t63_42] [] fun v43 d44=>
 prP (bnS .add t50_33 (nx v43 0)) fun t65_46=>
 j37 [t65_46,a1,a2,a3,a4,a5,a6,a7,(.int .i64 0),a2] [(nxc d2 0)]) (
 cl2 C 92 FL.sg [(.int .i64 0)] [] fun v47 d48=>
 cl2 C 93 H4.sg [a5] [] fun v50 d51=>
 prP (bnS .add (nx v47 0) (nx v50 0)) fun t71_53=>
 prP (bnS .add t50_33 t71_53) fun t72_54=>
 apW [T.c a5] true (cnt 1 (nxc d2 0)) (cnt 1 [T.c a5]) 16 (
 j37 [t72_54,a1,a2,a3,a4,a5,a6,a7,(.int .i64 0),a2] [((nxc d2 0)++[T.c a5])])))))
theorem EJ.cl2 {w0:World} {a0 a1 a2 a3 a4 a5 a6 a7:Value} {c0 c1:List T} {K:J2} (h:EJ.txt ⟨Tryz.prog,w0⟩ a0 a1 a2 a3 a4 a5 a6 a7 c0 c1 K):Eng.cl2 ⟨Tryz.prog,w0⟩ 46 EJ.sg [a0,a1,a2,a3,a4,a5,a6,a7] [c0,c1] K:=
 AB (C:=⟨Tryz.prog,w0⟩) (f:=46) (fn:=Tryz.f46) [(81,EP.sg),(87,G6.sg),(88,EM.sg),(89,JX.sg),(90,D5.sg),(91,FB.sg),(92,FL.sg),(93,H4.sg)] [(3,[0,0,3]),(4,[0,1,3,0,8,0,32,120,255,511,0,1024,3583,8191,0,16384,0,65536,245760,515583,1048575,2097151]),(9,[0,0,0,4,14,30,63,127]),(11,[0,0,2,6,0,16,0,64,240,510,1022,0,2048,6144,15358,32766,65535,131071]),(19,[0,0,1,7])] [(63,⟨[.p (.j 0) 0, .p (.j 1) 0, .p (.j 2) 0, .p (.j 3) 0, .v],[],[.bx [.v, .v, .v, .v, .v], .bx [.v, .v, .t (.f 1) 1], .bx [.v, .z], .bx [.v, .t (.j 4) 1], .ls]⟩),(4090,⟨[.p (.j 0) 0, .p (.j 1) 0, .v, .v, .t (.f 1) 1, .v, .v],[],[.bx [.v, .z], .bx [.v, .t (.j 2) 1], .ls]⟩)] Tryz.func46 (by kernel_rfl) (by kernel_rfl) (by kernel_rfl) h
def ME.sg:Sg:=⟨[(0,[.v])],[(0,[.v])],[]⟩
def ME.txt (C:Ctx) (a0:Value) (K:J2):Prop:=
 BA (fun r3 x1 k2=>
 prP (lnS (nx x1 0)) fun t8_5=>
 prP (bnI .lss (nx x1 2) t8_5) fun t9_6=>
 AG t9_6 (
 prP (ix (nx x1 0) (nx x1 2)) fun t15_7=>
 prP (cvI .u32 t15_7) fun t16_8=>
 prP (bnI .xor (nx x1 1) t16_8) fun t17_9=>
 BA (fun r12 x10 k11=>
 prP (bnI .lss (nx x10 3) (.int .i64 8)) fun t19_14=>
 AG t19_14 (
 B6 (fun x16 k17=>
 prP (bnI .add (nx x16 3) (.int .i64 1)) fun t28_23=>
 r12 [(nx x16 0),(nx x16 1),(nx x16 2),t28_23] []) fun j18=>
 prP (bnI .and (nx x10 1) (.int .u32 1)) fun t21_19=>
 prP (bnI .shr (nx x10 1) (.int .u64 1)) fun t23_20=>
 prP (bnI .eql t21_19 (.int .u32 1)) fun t25_21=>
 AG t25_21 (
 prP (bnI .xor t23_20 (.int .u32 2197175160)) fun t27_22=>
 j18 [(nx x10 0),t27_22,(nx x10 2),(nx x10 3)] []) (
 j18 [(nx x10 0),t23_20,(nx x10 2),(nx x10 3)] [])) (
 prP (bnI .add (nx x10 2) (.int .i64 1)) fun t11_24=>
 r3 [(nx x10 0),(nx x10 1),t11_24] [])) [(nx x1 0),t17_9,(nx x1 2),(.int .i64 0)] []) (
 prP (un .xor (nx x1 1)) fun t30_25=>
 prP (cvI .i64 t30_25) fun t31_26=>
 K [t31_26] [])) [a0,(.int .u32 4294967295),(.int .i64 0)] []
theorem ME.cl2 {w0:World} {a0:Value} {K:J2} (h:ME.txt ⟨Tryz.prog,w0⟩ a0 K):Eng.cl2 ⟨Tryz.prog,w0⟩ 153 ME.sg [a0] [] K:=
 AB (C:=⟨Tryz.prog,w0⟩) (f:=153) (fn:=Tryz.f153) [] [] [(59699,⟨[.v, .v, .v, .v],[],[]⟩),(7462,⟨[.v, .v, .v, .v],[],[]⟩),(58,⟨[.v, .v, .v],[],[]⟩)] Tryz.func153 (by kernel_rfl) (by kernel_rfl) (by kernel_rfl) h
def JW.sg:Sg:=⟨[(0,[.v]),(0,[.v])],[(0,[.v])],[]⟩
def JW.txt (C:Ctx) (a0 a1:Value) (K:J2):Prop:=
 cl2 C 94 B9.sg [a1,(.int .i64 1),(.int .i64 7)] [] fun v1 d2=>
 prP (un .not (nx v1 0)) fun t9_4=>
 gE t9_4 (
 gE t9_4 (
 gP t9_4 false (prP (bnI .mul (.int .i64 8) a1)) fun t13_5=>
 gP t9_4 false (prP (bnI .shl (.int .i64 1) t13_5)) fun t14_6=>
 gP t9_4 false (prP (bnI .sub t14_6 (.int .i64 1))) fun t15_7=>
 gP t9_4 false ((fun K=>cl2 C 94 B9.sg [a0,(.int .i64 0),t15_7] [] fun v8 d9=>K (nx v8 0))) fun t16_10=>
 gP t9_4 false (prP (un .not t16_10)) fun t17_11=>
 prP (pk t9_4 (.bool true) t17_11) fun t18_12=>
 AG t18_12 (
 K [(.string {data:= #[]})] []) (
 prP (bnI .sub a1 (.int .i64 1)) fun t20_13=>
 BA (fun r16 x14 k15=>
 prP (bnI .geq (nx x14 1) (.int .i64 0)) fun t22_25=>
 AG t22_25 (
 prP (bnI .mul (.int .i64 8) (nx x14 1)) fun t28_26=>
 prP (bnI .shr (nx x14 0) t28_26) fun t29_27=>
 prP (cvI .u8 t29_27) fun t30_28=>
 apW [T.c t30_28] true (cnt 1 (nxc k15 0)) (cnt 1 [T.c t30_28]) 1 (
 prP (bnI .sub (nx x14 1) (.int .i64 1)) fun t24_29=>
 r16 [(nx x14 0),t24_29] [((nxc k15 0)++[T.c t30_28])])) (
 prP (b2T (nxc k15 0)) fun t34_30=>
 K [t34_30] [])) [a0,t20_13] [[]])))
theorem JW.cl2 {w0:World} {a0 a1:Value} {K:J2} (h:JW.txt ⟨Tryz.prog,w0⟩ a0 a1 K):Eng.cl2 ⟨Tryz.prog,w0⟩ 152 JW.sg [a0,a1] [] K:=
 AB (C:=⟨Tryz.prog,w0⟩) (f:=152) (fn:=Tryz.f152) [(94,B9.sg)] [] [(122,⟨[.v, .t (.j 0) 1, .v],[],[.ls]⟩)] Tryz.func152 (by kernel_rfl) (by kernel_rfl) (by kernel_rfl) h
def FG.sg:Sg:=⟨[(0,[.v]),(0,[.v])],[(0,[.v])],[]⟩
def FG.txt (C:Ctx) (a0 a1:Value) (K:J2):Prop:=
 cl2 C 94 B9.sg [a0,(.int .i64 0),(.int .i64 400)] [] fun v1 d2=>
 prP (un .not (nx v1 0)) fun t8_4=>
 gE t8_4 (
 gP t8_4 false (prP (lnS a1)) fun t11_5=>
 gP t8_4 false (prP (bnI .gtr t11_5 (.int .i64 200))) fun t12_6=>
 prP (pk t8_4 (.bool true) t12_6) fun t13_7=>
 AG t13_7 (
 K [(.string {data:= #[]})] []) (
 cl2 C 92 FL.sg [a0] [] fun v8 d9=>
 prP (lnS a1) fun t17_11=>
 cl2 C 92 FL.sg [t17_11] [] fun v12 d13=>
 prP (bnS .add (nx v8 0) (nx v12 0)) fun t19_15=>
 prP (bnS .add t19_15 a1) fun t21_16=>
 cl2 C 153 ME.sg [t21_16] [] fun v17 d18=>
 cl2 C 152 JW.sg [(nx v17 0),(.int .i64 4)] [] fun v20 d21=>
 prP (bnS .add t21_16 (nx v20 0)) fun t26_23=>
 K [t26_23] []))
theorem FG.cl2 {w0:World} {a0 a1:Value} {K:J2} (h:FG.txt ⟨Tryz.prog,w0⟩ a0 a1 K):Eng.cl2 ⟨Tryz.prog,w0⟩ 95 FG.sg [a0,a1] [] K:=
 AB (C:=⟨Tryz.prog,w0⟩) (f:=95) (fn:=Tryz.f95) [(94,B9.sg),(92,FL.sg),(153,ME.sg),(152,JW.sg)] [] [] Tryz.func95 (by kernel_rfl) (by kernel_rfl) (by kernel_rfl) h
def ED.sg:Sg:=⟨[(0,[.t 1 0]),(0,[.t 1 0])],[(0,[.v])],[]⟩
def ED.txt (C:Ctx) (c0 c1:List T) (K:J2):Prop:=
 prP (bnI .neq (iv (cnt 1 c0)) (iv (cnt 1 c1))) fun t10_1=>
 AG t10_1 (
 K [(.bool false)] []) (
 BA (fun r4 x2 k3=>
 prP (bnI .lss (nx x2 0) (iv (cnt 1 c0))) fun t14_6=>
 AG t14_6 (
 ixW (cnt 1 c0) (nx x2 0) fun t19_7=>
 ldc c0 [] ((AA t19_7)*1) fun t20_8=>
 ixW (cnt 1 c1) (nx x2 0) fun t23_9=>
 ldc c1 [] ((AA t23_9)*1) fun t24_10=>
 prP (bnI .neq t20_8 t24_10) fun t25_11=>
 AG t25_11 (
 K [(.bool false)] []) (
 prP (bnI .add (nx x2 0) (.int .i64 1)) fun t16_12=>
 r4 [t16_12] [])) (
 K [(.bool true)] [])) [(.int .i64 0)] [])
theorem ED.cl2 {w0:World} {c0 c1:List T} {K:J2} (h:ED.txt ⟨Tryz.prog,w0⟩ c0 c1 K):Eng.cl2 ⟨Tryz.prog,w0⟩ 111 ED.sg [] [c0,c1] K:=
 AB (C:=⟨Tryz.prog,w0⟩) (f:=111) (fn:=Tryz.f111) [] [(6,[0,0,3,7,0,0,48,112,255])] [(58,⟨[.t (.f 0) 1, .t (.f 1) 1, .v],[],[]⟩)] Tryz.func111 (by kernel_rfl) (by kernel_rfl) (by kernel_rfl) h
def KA.sg:Sg:=⟨[(1,[.v, .v, .v, .v, .v, .v, .t 1 0, .v]),(1,[.v, .v, .v, .v, .v, .v, .t 1 0, .v])],[(0,[.v])],[]⟩
def KA.txt (C:Ctx) (a0 a1 a2 a3 a4 a5 a6 a7 a8 a9 a10 a11 a12 a13:Value) (c0 c1:List T) (K:J2):Prop:=
 prP (bnB .neq a0 a7) fun t9_1=>
 AG t9_1 (
 K [(.bool false)] []) (
 prP (bnI .neq a1 a8) fun t14_2=>
 AG t14_2 (
 K [(.bool false)] []) (
 prP (bnI .neq a2 a9) fun t19_3=>
 AG t19_3 (
 K [(.bool false)] []) (
 prP (bnI .neq a3 a10) fun t24_4=>
 AG t24_4 (
 K [(.bool false)] []) (
 prP (bnI .neq a4 a11) fun t29_5=>
 AG t29_5 (
 K [(.bool false)] []) (
 prP (bnI .neq a5 a12) fun t34_6=>
 AG t34_6 (
 K [(.bool false)] []) (
 cl2 C 111 ED.sg [] [c0,c1] fun v7 d8=>
 prP (un .not (nx v7 0)) fun t40_10=>
 AG t40_10 (
 K [(.bool false)] []) (
 prP (bnB .neq a6 a13) fun t45_11=>
 AG t45_11 (
 K [(.bool false)] []) (
 K [(.bool true)] []))))))))
theorem KA.cl2 {w0:World} {a0 a1 a2 a3 a4 a5 a6 a7 a8 a9 a10 a11 a12 a13:Value} {c0 c1:List T} {K:J2} (h:KA.txt ⟨Tryz.prog,w0⟩ a0 a1 a2 a3 a4 a5 a6 a7 a8 a9 a10 a11 a12 a13 c0 c1 K):Eng.cl2 ⟨Tryz.prog,w0⟩ 164 KA.sg [a0,a1,a2,a3,a4,a5,a6,a7,a8,a9,a10,a11,a12,a13] [c0,c1] K:=
 AB (C:=⟨Tryz.prog,w0⟩) (f:=164) (fn:=Tryz.f164) [(111,ED.sg)] [] [] Tryz.func164 (by kernel_rfl) (by kernel_rfl) (by kernel_rfl) h
def IS.sg:Sg:=⟨[(0,[.t 8 0]),(0,[.t 8 0])],[(0,[.v])],[]⟩
def IS.txt (C:Ctx) (c0 c1:List T) (K:J2):Prop:=
 prP (bnI .neq (iv (cnt 8 c0)) (iv (cnt 8 c1))) fun t10_1=>
 AG t10_1 (
 K [(.bool false)] []) (
 BA (fun r4 x2 k3=>
 prP (bnI .lss (nx x2 0) (iv (cnt 8 c0))) fun t14_6=>
 AG t14_6 (
 ixW (cnt 8 c0) (nx x2 0) fun t19_7=>
 ldg c0 [] ((AA t19_7)*8) [.c, .c, .c, .c, .c, .c, .l 1, .c] fun ts8=>
 ixW (cnt 8 c1) (nx x2 0) fun t23_9=>
 ldg c1 [] ((AA t23_9)*8) [.c, .c, .c, .c, .c, .c, .l 1, .c] fun ts10=>
 cl2 C 164 KA.sg [(tv (nxT ts8 0)),(tv (nxT ts8 1)),(tv (nxT ts8 2)),(tv (nxT ts8 3)),(tv (nxT ts8 4)),(tv (nxT ts8 5)),(tv (nxT ts8 7)),(tv (nxT ts10 0)),(tv (nxT ts10 1)),(tv (nxT ts10 2)),(tv (nxT ts10 3)),(tv (nxT ts10 4)),(tv (nxT ts10 5)),(tv (nxT ts10 7))] [(F4 c0 [(((AA t19_7)*8)+6)]),(F4 c1 [(((AA t23_9)*8)+6)])] fun v11 d12=>
 prP (un .not (nx v11 0)) fun t26_14=>
 AG t26_14 (
 K [(.bool false)] []) (
 prP (bnI .add (nx x2 0) (.int .i64 1)) fun t16_15=>
 r4 [t16_15] [])) (
 K [(.bool true)] [])) [(.int .i64 0)] [])
theorem IS.cl2 {w0:World} {c0 c1:List T} {K:J2} (h:IS.txt ⟨Tryz.prog,w0⟩ c0 c1 K):Eng.cl2 ⟨Tryz.prog,w0⟩ 109 IS.sg [] [c0,c1] K:=
 AB (C:=⟨Tryz.prog,w0⟩) (f:=109) (fn:=Tryz.f109) [(164,KA.sg)] [(6,[0,0,3,7,0,0,48,112,255,511])] [(58,⟨[.t (.f 0) 8, .t (.f 1) 8, .v],[],[]⟩)] Tryz.func109 (by kernel_rfl) (by kernel_rfl) (by kernel_rfl) h
def IL.sg:Sg:=⟨[(1,[.v, .v]),(1,[.v, .v])],[(0,[.v])],[]⟩
def IL.txt (C:Ctx) (a0 a1 a2 a3:Value) (K:J2):Prop:=
 prP (bnB .neq a0 a2) fun t9_1=>
 AG t9_1 (
 K [(.bool false)] []) (
 prP (bnI .neq a1 a3) fun t14_2=>
 AG t14_2 (
 K [(.bool false)] []) (
 K [(.bool true)] []))
theorem IL.cl2 {w0:World} {a0 a1 a2 a3:Value} {K:J2} (h:IL.txt ⟨Tryz.prog,w0⟩ a0 a1 a2 a3 K):Eng.cl2 ⟨Tryz.prog,w0⟩ 165 IL.sg [a0,a1,a2,a3] [] K:=
 AB (C:=⟨Tryz.prog,w0⟩) (f:=165) (fn:=Tryz.f165) [] [] [] Tryz.func165 (by kernel_rfl) (by kernel_rfl) (by kernel_rfl) h
def HX.sg:Sg:=⟨[(0,[.t 2 0]),(0,[.t 2 0])],[(0,[.v])],[]⟩
def HX.txt (C:Ctx) (c0 c1:List T) (K:J2):Prop:=
 prP (bnI .neq (iv (cnt 2 c0)) (iv (cnt 2 c1))) fun t10_1=>
 AG t10_1 (
 K [(.bool false)] []) (
 BA (fun r4 x2 k3=>
 prP (bnI .lss (nx x2 0) (iv (cnt 2 c0))) fun t14_6=>
 AG t14_6 (
 ixW (cnt 2 c0) (nx x2 0) fun t19_7=>
 ldg c0 [] ((AA t19_7)*2) [.c, .c] fun ts8=>
 ixW (cnt 2 c1) (nx x2 0) fun t23_9=>
 ldg c1 [] ((AA t23_9)*2) [.c, .c] fun ts10=>
 cl2 C 165 IL.sg [(tv (nxT ts8 0)),(tv (nxT ts8 1)),(tv (nxT ts10 0)),(tv (nxT ts10 1))] [] fun v11 d12=>
 prP (un .not (nx v11 0)) fun t26_14=>
 AG t26_14 (
 K [(.bool false)] []) (
 prP (bnI .add (nx x2 0) (.int .i64 1)) fun t16_15=>
 r4 [t16_15] [])) (
 K [(.bool true)] [])) [(.int .i64 0)] [])
theorem HX.cl2 {w0:World} {c0 c1:List T} {K:J2} (h:HX.txt ⟨Tryz.prog,w0⟩ c0 c1 K):Eng.cl2 ⟨Tryz.prog,w0⟩ 110 HX.sg [] [c0,c1] K:=
 AB (C:=⟨Tryz.prog,w0⟩) (f:=110) (fn:=Tryz.f110) [(165,IL.sg)] [(6,[0,0,3,7,0,0,48,112,255,511])] [(58,⟨[.t (.f 0) 2, .t (.f 1) 2, .v],[],[]⟩)] Tryz.func110 (by kernel_rfl) (by kernel_rfl) (by kernel_rfl) h
def EI.sg:Sg:=⟨[(0,[.t 1 0]),(0,[.t 1 0])],[(0,[.v])],[]⟩
def EI.txt (C:Ctx) (c0 c1:List T) (K:J2):Prop:=
 prP (bnI .neq (iv (cnt 1 c0)) (iv (cnt 1 c1))) fun t10_1=>
 AG t10_1 (
 K [(.bool false)] []) (
 BA (fun r4 x2 k3=>
 prP (bnI .lss (nx x2 0) (iv (cnt 1 c0))) fun t14_6=>
 AG t14_6 (
 ixW (cnt 1 c0) (nx x2 0) fun t19_7=>
 ldc c0 [] ((AA t19_7)*1) fun t20_8=>
 ixW (cnt 1 c1) (nx x2 0) fun t23_9=>
 ldc c1 [] ((AA t23_9)*1) fun t24_10=>
 prP (bnS .neq t20_8 t24_10) fun t25_11=>
 AG t25_11 (
 K [(.bool false)] []) (
 prP (bnI .add (nx x2 0) (.int .i64 1)) fun t16_12=>
 r4 [t16_12] [])) (
 K [(.bool true)] [])) [(.int .i64 0)] [])
theorem EI.cl2 {w0:World} {c0 c1:List T} {K:J2} (h:EI.txt ⟨Tryz.prog,w0⟩ c0 c1 K):Eng.cl2 ⟨Tryz.prog,w0⟩ 112 EI.sg [] [c0,c1] K:=
 AB (C:=⟨Tryz.prog,w0⟩) (f:=112) (fn:=Tryz.f112) [] [(6,[0,0,3,7,0,0,48,112,255])] [(58,⟨[.t (.f 0) 1, .t (.f 1) 1, .v],[],[]⟩)] Tryz.func112 (by kernel_rfl) (by kernel_rfl) (by kernel_rfl) h
def I2.sg:Sg:=⟨[(1,[.t 8 0, .t 2 0, .t 1 0, .t 1 0]),(1,[.t 8 0, .t 2 0, .t 1 0, .t 1 0])],[(0,[.v])],[]⟩
def I2.txt (C:Ctx) (c0 c1 c2 c3 c4 c5 c6 c7:List T) (K:J2):Prop:=
 cl2 C 109 IS.sg [] [c0,c4] fun v1 d2=>
 prP (un .not (nx v1 0)) fun t10_4=>
 AG t10_4 (
 K [(.bool false)] []) (
 cl2 C 110 HX.sg [] [c1,c5] fun v5 d6=>
 prP (un .not (nx v5 0)) fun t16_8=>
 AG t16_8 (
 K [(.bool false)] []) (
 cl2 C 111 ED.sg [] [c2,c6] fun v9 d10=>
 prP (un .not (nx v9 0)) fun t22_12=>
 AG t22_12 (
 K [(.bool false)] []) (
 cl2 C 112 EI.sg [] [c3,c7] fun v13 d14=>
 prP (un .not (nx v13 0)) fun t28_16=>
 AG t28_16 (
 K [(.bool false)] []) (
 K [(.bool true)] []))))
theorem I2.cl2 {w0:World} {c0 c1 c2 c3 c4 c5 c6 c7:List T} {K:J2} (h:I2.txt ⟨Tryz.prog,w0⟩ c0 c1 c2 c3 c4 c5 c6 c7 K):Eng.cl2 ⟨Tryz.prog,w0⟩ 61 I2.sg [] [c0,c1,c2,c3,c4,c5,c6,c7] K:=
 AB (C:=⟨Tryz.prog,w0⟩) (f:=61) (fn:=Tryz.f61) [(109,IS.sg),(110,HX.sg),(111,ED.sg),(112,EI.sg)] [] [] Tryz.func61 (by kernel_rfl) (by kernel_rfl) (by kernel_rfl) h
def GG.sg:Sg:=⟨[(1,[.v, .v, .t 1 0]),(1,[.v, .v, .t 1 0])],[(0,[.v])],[]⟩
def GG.txt (C:Ctx) (a0 a1 a2 a3:Value) (c0 c1:List T) (K:J2):Prop:=
 prP (bnI .neq a0 a2) fun t9_1=>
 AG t9_1 (
 K [(.bool false)] []) (
 prP (bnI .neq a1 a3) fun t14_2=>
 AG t14_2 (
 K [(.bool false)] []) (
 cl2 C 111 ED.sg [] [c0,c1] fun v3 d4=>
 prP (un .not (nx v3 0)) fun t20_6=>
 AG t20_6 (
 K [(.bool false)] []) (
 K [(.bool true)] [])))
theorem GG.cl2 {w0:World} {a0 a1 a2 a3:Value} {c0 c1:List T} {K:J2} (h:GG.txt ⟨Tryz.prog,w0⟩ a0 a1 a2 a3 c0 c1 K):Eng.cl2 ⟨Tryz.prog,w0⟩ 113 GG.sg [a0,a1,a2,a3] [c0,c1] K:=
 AB (C:=⟨Tryz.prog,w0⟩) (f:=113) (fn:=Tryz.f113) [(111,ED.sg)] [] [] Tryz.func113 (by kernel_rfl) (by kernel_rfl) (by kernel_rfl) h
def FF.sg:Sg:=⟨[(0,[.t 3 0]),(0,[.t 3 0])],[(0,[.v])],[]⟩
def FF.txt (C:Ctx) (c0 c1:List T) (K:J2):Prop:=
 prP (bnI .neq (iv (cnt 3 c0)) (iv (cnt 3 c1))) fun t10_1=>
 AG t10_1 (
 K [(.bool false)] []) (
 BA (fun r4 x2 k3=>
 prP (bnI .lss (nx x2 0) (iv (cnt 3 c0))) fun t14_6=>
 AG t14_6 (
 ixW (cnt 3 c0) (nx x2 0) fun t19_7=>
 ldg c0 [] ((AA t19_7)*3) [.c, .c, .l 1] fun ts8=>
 ixW (cnt 3 c1) (nx x2 0) fun t23_9=>
 ldg c1 [] ((AA t23_9)*3) [.c, .c, .l 1] fun ts10=>
 cl2 C 113 GG.sg [(tv (nxT ts8 0)),(tv (nxT ts8 1)),(tv (nxT ts10 0)),(tv (nxT ts10 1))] [(F4 c0 [(((AA t19_7)*3)+2)]),(F4 c1 [(((AA t23_9)*3)+2)])] fun v11 d12=>
 prP (un .not (nx v11 0)) fun t26_14=>
 AG t26_14 (
 K [(.bool false)] []) (
 prP (bnI .add (nx x2 0) (.int .i64 1)) fun t16_15=>
 r4 [t16_15] [])) (
 K [(.bool true)] [])) [(.int .i64 0)] [])
theorem FF.cl2 {w0:World} {c0 c1:List T} {K:J2} (h:FF.txt ⟨Tryz.prog,w0⟩ c0 c1 K):Eng.cl2 ⟨Tryz.prog,w0⟩ 62 FF.sg [] [c0,c1] K:=
 AB (C:=⟨Tryz.prog,w0⟩) (f:=62) (fn:=Tryz.f62) [(113,GG.sg)] [(6,[0,0,3,7,0,0,48,112,255,511])] [(58,⟨[.t (.f 0) 3, .t (.f 1) 3, .v],[],[]⟩)] Tryz.func62 (by kernel_rfl) (by kernel_rfl) (by kernel_rfl) h
def K5.sg:Sg:=⟨[(1,[.v, .v, .v, .v, .v]),(1,[.v, .v, .v, .v, .v])],[(0,[.v])],[]⟩
def K5.txt (C:Ctx) (a0 a1 a2 a3 a4 a5 a6 a7 a8 a9:Value) (K:J2):Prop:=
 prP (bnI .neq a0 a5) fun t9_1=>
 AG t9_1 (
 K [(.bool false)] []) (
 prP (bnI .neq a1 a6) fun t14_2=>
 AG t14_2 (
 K [(.bool false)] []) (
 prP (bnI .neq a2 a7) fun t19_3=>
 AG t19_3 (
 K [(.bool false)] []) (
 prP (bnI .neq a3 a8) fun t24_4=>
 AG t24_4 (
 K [(.bool false)] []) (
 prP (bnS .neq a4 a9) fun t29_5=>
 AG t29_5 (
 K [(.bool false)] []) (
 K [(.bool true)] [])))))
theorem K5.cl2 {w0:World} {a0 a1 a2 a3 a4 a5 a6 a7 a8 a9:Value} {K:J2} (h:K5.txt ⟨Tryz.prog,w0⟩ a0 a1 a2 a3 a4 a5 a6 a7 a8 a9 K):Eng.cl2 ⟨Tryz.prog,w0⟩ 63 K5.sg [a0,a1,a2,a3,a4,a5,a6,a7,a8,a9] [] K:=
 AB (C:=⟨Tryz.prog,w0⟩) (f:=63) (fn:=Tryz.f63) [] [] [] Tryz.func63 (by kernel_rfl) (by kernel_rfl) (by kernel_rfl) h
def JY.sg:Sg:=⟨[(0,[.t 5 0]),(0,[.t 5 0])],[(0,[.v])],[]⟩
def JY.txt (C:Ctx) (c0 c1:List T) (K:J2):Prop:=
 prP (bnI .neq (iv (cnt 5 c0)) (iv (cnt 5 c1))) fun t10_1=>
 AG t10_1 (
 K [(.bool false)] []) (
 BA (fun r4 x2 k3=>
 prP (bnI .lss (nx x2 0) (iv (cnt 5 c0))) fun t14_6=>
 AG t14_6 (
 ixW (cnt 5 c0) (nx x2 0) fun t19_7=>
 ldg c0 [] ((AA t19_7)*5) [.c, .c, .c, .c, .c] fun ts8=>
 ixW (cnt 5 c1) (nx x2 0) fun t23_9=>
 ldg c1 [] ((AA t23_9)*5) [.c, .c, .c, .c, .c] fun ts10=>
 cl2 C 63 K5.sg [(tv (nxT ts8 0)),(tv (nxT ts8 1)),(tv (nxT ts8 2)),(tv (nxT ts8 3)),(tv (nxT ts8 4)),(tv (nxT ts10 0)),(tv (nxT ts10 1)),(tv (nxT ts10 2)),(tv (nxT ts10 3)),(tv (nxT ts10 4))] [] fun v11 d12=>
 prP (un .not (nx v11 0)) fun t26_14=>
 AG t26_14 (
 K [(.bool false)] []) (
 prP (bnI .add (nx x2 0) (.int .i64 1)) fun t16_15=>
 r4 [t16_15] [])) (
 K [(.bool true)] [])) [(.int .i64 0)] [])
theorem JY.cl2 {w0:World} {c0 c1:List T} {K:J2} (h:JY.txt ⟨Tryz.prog,w0⟩ c0 c1 K):Eng.cl2 ⟨Tryz.prog,w0⟩ 25 JY.sg [] [c0,c1] K:=
 AB (C:=⟨Tryz.prog,w0⟩) (f:=25) (fn:=Tryz.f25) [(63,K5.sg)] [(6,[0,0,3,7,0,0,48,112,255,511])] [(58,⟨[.t (.f 0) 5, .t (.f 1) 5, .v],[],[]⟩)] Tryz.func25 (by kernel_rfl) (by kernel_rfl) (by kernel_rfl) h
def CD.sg:Sg:=⟨[(0,[.v])],[(0,[.v])],[]⟩
def CD.txt (C:Ctx) (a0:Value) (K:J2):Prop:=
 prP (bnI .leq a0 (.int .i64 0)) fun t5_1=>
 AG t5_1 (
 K [(.string {data:= #[109,48]})] []) (
 BA (fun r4 x2 k3=>
 prP (bnI .gtr (nx x2 0) (.int .i64 0)) fun t7_6=>
 AG t7_6 (
 prP (bnI .rem (nx x2 0) (.int .i64 10)) fun t9_7=>
 prP (bnI .add (.int .i64 48) t9_7) fun t10_8=>
 prP (cvI .u8 t10_8) fun t11_9=>
 prP (b2T [T.c t11_9]) fun t13_10=>
 prP (bnS .add t13_10 (nx x2 1)) fun t15_11=>
 prP (bnI .quo (nx x2 0) (.int .i64 10)) fun t17_12=>
 r4 [t17_12,t15_11] []) (
 prP (bnS .add (.string {data:= #[109]}) (nx x2 1)) fun t19_13=>
 K [t19_13] [])) [a0,(.string {data:= #[]})] [])
theorem CD.cl2 {w0:World} {a0:Value} {K:J2} (h:CD.txt ⟨Tryz.prog,w0⟩ a0 K):Eng.cl2 ⟨Tryz.prog,w0⟩ 64 CD.sg [a0] [] K:=
 AB (C:=⟨Tryz.prog,w0⟩) (f:=64) (fn:=Tryz.f64) [] [] [(60,⟨[.v, .v],[],[]⟩)] Tryz.func64 (by kernel_rfl) (by kernel_rfl) (by kernel_rfl) h
def HT.sg:Sg:=⟨[(0,[.t 5 1]),(0,[.v])],[(0,[.v])],[]⟩
def HT.txt (C:Ctx) (a0:Value) (c0:List T) (K:J2):Prop:=
 BA (fun r3 x1 k2=>
 prP (bnI .lss (nx x1 1) (iv (cnt 5 (nxc k2 0)))) fun t9_5=>
 AG t9_5 (
 ixW (cnt 5 (nxc k2 0)) (nx x1 1) fun t15_6=>
 stc (nxc k2 0) [] ((AA t15_6)*5) (nx x1 0) fun k7=>
 prP (bnI .add (nx x1 0) (.int .i64 1)) fun t18_8=>
 ixW (cnt 5 k7) (nx x1 1) fun t22_9=>
 stc k7 [] (((AA t22_9)*5)+1) t18_8 fun k10=>
 prP (bnI .add t18_8 (.int .i64 1)) fun t25_11=>
 ixW (cnt 5 k10) (nx x1 1) fun t29_12=>
 stc k10 [] (((AA t29_12)*5)+2) t25_11 fun k13=>
 prP (bnI .add t25_11 (.int .i64 1)) fun t32_14=>
 ixW (cnt 5 k13) (nx x1 1) fun t36_15=>
 stc k13 [] (((AA t36_15)*5)+3) t32_14 fun k16=>
 prP (bnI .add t32_14 (.int .i64 1)) fun t39_17=>
 cl2 C 64 CD.sg [t39_17] [] fun v18 d19=>
 ixW (cnt 5 k16) (nx x1 1) fun t44_21=>
 stc k16 [] (((AA t44_21)*5)+4) (nx v18 0) fun k22=>
 prP (bnI .add t39_17 (.int .i64 1)) fun t47_23=>
 prP (bnI .add (nx x1 1) (.int .i64 1)) fun t11_24=>
 r3 [t47_23,t11_24] [k22]) (
 K [(nx x1 0)] [(nxc k2 0)])) [a0,(.int .i64 0)] [c0]
theorem HT.cl2 {w0:World} {a0:Value} {c0:List T} {K:J2} (h:HT.txt ⟨Tryz.prog,w0⟩ a0 c0 K):Eng.cl2 ⟨Tryz.prog,w0⟩ 26 HT.sg [a0] [c0] K:=
 AB (C:=⟨Tryz.prog,w0⟩) (f:=26) (fn:=Tryz.f26) [(64,CD.sg)] [] [(26,⟨[.t (.j 0) 5, .v, .v],[.t (.j 0) 5],[.ls]⟩)] Tryz.func26 (by kernel_rfl) (by kernel_rfl) (by kernel_rfl) h
def C5.sg:Sg:=⟨[(0,[.t 1 1]),(0,[.v])],[(0,[.v])],[]⟩
def C5.txt (C:Ctx) (a0:Value) (c0:List T) (K:J2):Prop:=
 BA (fun r3 x1 k2=>
 prP (bnI .lss (nx x1 1) (iv (cnt 1 (nxc k2 0)))) fun t9_5=>
 AG t9_5 (
 ixW (cnt 1 (nxc k2 0)) (nx x1 1) fun t15_6=>
 stc (nxc k2 0) [] ((AA t15_6)*1) (nx x1 0) fun k7=>
 prP (bnI .add (nx x1 0) (.int .i64 1)) fun t17_8=>
 prP (bnI .add (nx x1 1) (.int .i64 1)) fun t11_9=>
 r3 [t17_8,t11_9] [k7]) (
 K [(nx x1 0)] [(nxc k2 0)])) [a0,(.int .i64 0)] [c0]
theorem C5.cl2 {w0:World} {a0:Value} {c0:List T} {K:J2} (h:C5.txt ⟨Tryz.prog,w0⟩ a0 c0 K):Eng.cl2 ⟨Tryz.prog,w0⟩ 116 C5.sg [a0] [c0] K:=
 AB (C:=⟨Tryz.prog,w0⟩) (f:=116) (fn:=Tryz.f116) [] [] [(26,⟨[.t (.j 0) 1, .v, .v],[.t (.j 0) 1],[.ls]⟩)] Tryz.func116 (by kernel_rfl) (by kernel_rfl) (by kernel_rfl) h
def GF.sg:Sg:=⟨[(0,[.t 8 1]),(0,[.v])],[(0,[.v])],[]⟩
def GF.txt (C:Ctx) (a0:Value) (c0:List T) (K:J2):Prop:=
 BA (fun r3 x1 k2=>
 prP (bnI .lss (nx x1 1) (iv (cnt 8 (nxc k2 0)))) fun t9_5=>
 AG t9_5 (
 prP (bnI .rem (nx x1 0) (.int .i64 3)) fun t15_6=>
 prP (bnI .eql t15_6 (.int .i64 0)) fun t16_7=>
 ixW (cnt 8 (nxc k2 0)) (nx x1 1) fun t17_8=>
 stc (nxc k2 0) [] ((AA t17_8)*8) t16_7 fun k9=>
 prP (bnI .add (nx x1 0) (.int .i64 1)) fun t20_10=>
 ixW (cnt 8 k9) (nx x1 1) fun t24_11=>
 stc k9 [] (((AA t24_11)*8)+1) t20_10 fun k12=>
 prP (bnI .add t20_10 (.int .i64 1)) fun t27_13=>
 ixW (cnt 8 k12) (nx x1 1) fun t31_14=>
 stc k12 [] (((AA t31_14)*8)+2) t27_13 fun k15=>
 prP (bnI .add t27_13 (.int .i64 1)) fun t34_16=>
 ixW (cnt 8 k15) (nx x1 1) fun t38_17=>
 stc k15 [] (((AA t38_17)*8)+3) t34_16 fun k18=>
 prP (bnI .add t34_16 (.int .i64 1)) fun t41_19=>
 ixW (cnt 8 k18) (nx x1 1) fun t45_20=>
 stc k18 [] (((AA t45_20)*8)+4) t41_19 fun k21=>
 prP (bnI .add t41_19 (.int .i64 1)) fun t48_22=>
 ixW (cnt 8 k21) (nx x1 1) fun t52_23=>
 stc k21 [] (((AA t52_23)*8)+5) t48_22 fun k24=>
 prP (bnI .add t48_22 (.int .i64 1)) fun t55_25=>
 ixW (cnt 8 k24) (nx x1 1) fun t58_26=>
 ldl k24 [] (((AA t58_26)*8)+6) 1 fun t60_27=>
 cl2 C 116 C5.sg [t55_25] [(F4 k24 [(((AA t58_26)*8)+6)])] fun v28 d29=>
 prP (bnI .rem (nx v28 0) (.int .i64 3)) fun t66_30=>
 prP (bnI .eql t66_30 (.int .i64 0)) fun t67_31=>
 ixW (cnt 8 (JT k24 [(((AA t58_26)*8)+6)] (nxc d29 0))) (nx x1 1) fun t68_32=>
 stc (JT k24 [(((AA t58_26)*8)+6)] (nxc d29 0)) [] (((AA t68_32)*8)+7) t67_31 fun k33=>
 prP (bnI .add (nx v28 0) (.int .i64 1)) fun t71_34=>
 prP (bnI .add (nx x1 1) (.int .i64 1)) fun t11_35=>
 r3 [t71_34,t11_35] [k33]) (
 K [(nx x1 0)] [(nxc k2 0)])) [a0,(.int .i64 0)] [c0]
theorem GF.cl2 {w0:World} {a0:Value} {c0:List T} {K:J2} (h:GF.txt ⟨Tryz.prog,w0⟩ a0 c0 K):Eng.cl2 ⟨Tryz.prog,w0⟩ 114 GF.sg [a0] [c0] K:=
 AB (C:=⟨Tryz.prog,w0⟩) (f:=114) (fn:=Tryz.f114) [(116,C5.sg)] [] [(26,⟨[.t (.j 0) 8, .v, .v],[.t (.j 0) 8],[.ls]⟩)] Tryz.func114 (by kernel_rfl) (by kernel_rfl) (by kernel_rfl) h
def FP.sg:Sg:=⟨[(0,[.t 2 1]),(0,[.v])],[(0,[.v])],[]⟩
def FP.txt (C:Ctx) (a0:Value) (c0:List T) (K:J2):Prop:=
 BA (fun r3 x1 k2=>
 prP (bnI .lss (nx x1 1) (iv (cnt 2 (nxc k2 0)))) fun t9_5=>
 AG t9_5 (
 prP (bnI .rem (nx x1 0) (.int .i64 3)) fun t15_6=>
 prP (bnI .eql t15_6 (.int .i64 0)) fun t16_7=>
 ixW (cnt 2 (nxc k2 0)) (nx x1 1) fun t17_8=>
 stc (nxc k2 0) [] ((AA t17_8)*2) t16_7 fun k9=>
 prP (bnI .add (nx x1 0) (.int .i64 1)) fun t20_10=>
 ixW (cnt 2 k9) (nx x1 1) fun t24_11=>
 stc k9 [] (((AA t24_11)*2)+1) t20_10 fun k12=>
 prP (bnI .add t20_10 (.int .i64 1)) fun t27_13=>
 prP (bnI .add (nx x1 1) (.int .i64 1)) fun t11_14=>
 r3 [t27_13,t11_14] [k12]) (
 K [(nx x1 0)] [(nxc k2 0)])) [a0,(.int .i64 0)] [c0]
theorem FP.cl2 {w0:World} {a0:Value} {c0:List T} {K:J2} (h:FP.txt ⟨Tryz.prog,w0⟩ a0 c0 K):Eng.cl2 ⟨Tryz.prog,w0⟩ 115 FP.sg [a0] [c0] K:=
 AB (C:=⟨Tryz.prog,w0⟩) (f:=115) (fn:=Tryz.f115) [] [] [(26,⟨[.t (.j 0) 2, .v, .v],[.t (.j 0) 2],[.ls]⟩)] Tryz.func115 (by kernel_rfl) (by kernel_rfl) (by kernel_rfl) h
def DI.sg:Sg:=⟨[(0,[.t 1 1]),(0,[.v])],[(0,[.v])],[]⟩
def DI.txt (C:Ctx) (a0:Value) (c0:List T) (K:J2):Prop:=
 BA (fun r3 x1 k2=>
 prP (bnI .lss (nx x1 1) (iv (cnt 1 (nxc k2 0)))) fun t9_5=>
 AG t9_5 (
 cl2 C 64 CD.sg [(nx x1 0)] [] fun v6 d7=>
 ixW (cnt 1 (nxc k2 0)) (nx x1 1) fun t16_9=>
 stc (nxc k2 0) [] ((AA t16_9)*1) (nx v6 0) fun k10=>
 prP (bnI .add (nx x1 0) (.int .i64 1)) fun t18_11=>
 prP (bnI .add (nx x1 1) (.int .i64 1)) fun t11_12=>
 r3 [t18_11,t11_12] [k10]) (
 K [(nx x1 0)] [(nxc k2 0)])) [a0,(.int .i64 0)] [c0]
theorem DI.cl2 {w0:World} {a0:Value} {c0:List T} {K:J2} (h:DI.txt ⟨Tryz.prog,w0⟩ a0 c0 K):Eng.cl2 ⟨Tryz.prog,w0⟩ 117 DI.sg [a0] [c0] K:=
 AB (C:=⟨Tryz.prog,w0⟩) (f:=117) (fn:=Tryz.f117) [(64,CD.sg)] [] [(26,⟨[.t (.j 0) 1, .v, .v],[.t (.j 0) 1],[.ls]⟩)] Tryz.func117 (by kernel_rfl) (by kernel_rfl) (by kernel_rfl) h
def GU.sg:Sg:=⟨[(1,[.t 8 1, .t 2 1, .t 1 1, .t 1 1]),(0,[.v])],[(0,[.v])],[]⟩
def GU.txt (C:Ctx) (a0:Value) (c0 c1 c2 c3:List T) (K:J2):Prop:=
 cl2 C 114 GF.sg [a0] [c0] fun v1 d2=>
 cl2 C 115 FP.sg [(nx v1 0)] [c1] fun v3 d4=>
 cl2 C 116 C5.sg [(nx v3 0)] [c2] fun v5 d6=>
 cl2 C 117 DI.sg [(nx v5 0)] [c3] fun v7 d8=>
 K [(nx v7 0)] [(nxc d2 0),(nxc d4 0),(nxc d6 0),(nxc d8 0)]
theorem GU.cl2 {w0:World} {a0:Value} {c0 c1 c2 c3:List T} {K:J2} (h:GU.txt ⟨Tryz.prog,w0⟩ a0 c0 c1 c2 c3 K):Eng.cl2 ⟨Tryz.prog,w0⟩ 65 GU.sg [a0] [c0,c1,c2,c3] K:=
 AB (C:=⟨Tryz.prog,w0⟩) (f:=65) (fn:=Tryz.f65) [(114,GF.sg),(115,FP.sg),(116,C5.sg),(117,DI.sg)] [] [] Tryz.func65 (by kernel_rfl) (by kernel_rfl) (by kernel_rfl) h
def DX.sg:Sg:=⟨[(0,[.t 3 1]),(0,[.v])],[(0,[.v])],[]⟩
def DX.txt (C:Ctx) (a0:Value) (c0:List T) (K:J2):Prop:=
 BA (fun r3 x1 k2=>
 prP (bnI .lss (nx x1 1) (iv (cnt 3 (nxc k2 0)))) fun t9_5=>
 AG t9_5 (
 ixW (cnt 3 (nxc k2 0)) (nx x1 1) fun t15_6=>
 stc (nxc k2 0) [] ((AA t15_6)*3) (nx x1 0) fun k7=>
 prP (bnI .add (nx x1 0) (.int .i64 1)) fun t18_8=>
 ixW (cnt 3 k7) (nx x1 1) fun t22_9=>
 stc k7 [] (((AA t22_9)*3)+1) t18_8 fun k10=>
 prP (bnI .add t18_8 (.int .i64 1)) fun t25_11=>
 ixW (cnt 3 k10) (nx x1 1) fun t28_12=>
 ldl k10 [] (((AA t28_12)*3)+2) 1 fun t30_13=>
 cl2 C 116 C5.sg [t25_11] [(F4 k10 [(((AA t28_12)*3)+2)])] fun v14 d15=>
 prP (bnI .add (nx x1 1) (.int .i64 1)) fun t11_16=>
 r3 [(nx v14 0),t11_16] [(JT k10 [(((AA t28_12)*3)+2)] (nxc d15 0))]) (
 K [(nx x1 0)] [(nxc k2 0)])) [a0,(.int .i64 0)] [c0]
theorem DX.cl2 {w0:World} {a0:Value} {c0:List T} {K:J2} (h:DX.txt ⟨Tryz.prog,w0⟩ a0 c0 K):Eng.cl2 ⟨Tryz.prog,w0⟩ 66 DX.sg [a0] [c0] K:=
 AB (C:=⟨Tryz.prog,w0⟩) (f:=66) (fn:=Tryz.f66) [(116,C5.sg)] [] [(26,⟨[.t (.j 0) 3, .v, .v],[.t (.j 0) 3],[.ls]⟩)] Tryz.func66 (by kernel_rfl) (by kernel_rfl) (by kernel_rfl) h
def DH.sg:Sg:=⟨[(0,[.t 1 0]),(0,[.v])],[(0,[.v])],[]⟩
def DH.txt (C:Ctx) (a0:Value) (c0:List T) (K:J2):Prop:=
 BA (fun r3 x1 k2=>
 prP (bnI .lss (nx x1 1) (iv (cnt 1 c0))) fun t9_5=>
 AG t9_5 (
 ixW (cnt 1 c0) (nx x1 1) fun t14_6=>
 ldc c0 [] ((AA t14_6)*1) fun t15_7=>
 prP (bnI .neq t15_7 (nx x1 0)) fun t17_8=>
 AG t17_8 (
 K [(.int .i64 (-1))] []) (
 prP (bnI .add (nx x1 0) (.int .i64 1)) fun t19_9=>
 prP (bnI .add (nx x1 1) (.int .i64 1)) fun t11_10=>
 r3 [t19_9,t11_10] [])) (
 K [(nx x1 0)] [])) [a0,(.int .i64 0)] []
theorem DH.cl2 {w0:World} {a0:Value} {c0:List T} {K:J2} (h:DH.txt ⟨Tryz.prog,w0⟩ a0 c0 K):Eng.cl2 ⟨Tryz.prog,w0⟩ 120 DH.sg [a0] [c0] K:=
 AB (C:=⟨Tryz.prog,w0⟩) (f:=120) (fn:=Tryz.f120) [] [] [(26,⟨[.t (.f 0) 1, .v, .v],[],[]⟩)] Tryz.func120 (by kernel_rfl) (by kernel_rfl) (by kernel_rfl) h
def GL.sg:Sg:=⟨[(0,[.t 8 0]),(0,[.v])],[(0,[.v])],[]⟩
def GL.txt (C:Ctx) (a0:Value) (c0:List T) (K:J2):Prop:=
 BA (fun r3 x1 k2=>
 prP (bnI .lss (nx x1 1) (iv (cnt 8 c0))) fun t9_5=>
 AG t9_5 (
 ixW (cnt 8 c0) (nx x1 1) fun t14_6=>
 ldc c0 [] ((AA t14_6)*8) fun t16_7=>
 prP (bnI .rem (nx x1 0) (.int .i64 3)) fun t18_8=>
 prP (bnI .eql t18_8 (.int .i64 0)) fun t19_9=>
 prP (bnB .neq t16_7 t19_9) fun t20_10=>
 AG t20_10 (
 K [(.int .i64 (-1))] []) (
 prP (bnI .add (nx x1 0) (.int .i64 1)) fun t22_11=>
 ixW (cnt 8 c0) (nx x1 1) fun t25_12=>
 ldc c0 [] (((AA t25_12)*8)+1) fun t27_13=>
 prP (bnI .neq t27_13 t22_11) fun t29_14=>
 AG t29_14 (
 K [(.int .i64 (-1))] []) (
 prP (bnI .add t22_11 (.int .i64 1)) fun t31_15=>
 ixW (cnt 8 c0) (nx x1 1) fun t34_16=>
 ldc c0 [] (((AA t34_16)*8)+2) fun t36_17=>
 prP (bnI .neq t36_17 t31_15) fun t38_18=>
 AG t38_18 (
 K [(.int .i64 (-1))] []) (
 prP (bnI .add t31_15 (.int .i64 1)) fun t40_19=>
 ixW (cnt 8 c0) (nx x1 1) fun t43_20=>
 ldc c0 [] (((AA t43_20)*8)+3) fun t45_21=>
 prP (bnI .neq t45_21 t40_19) fun t47_22=>
 AG t47_22 (
 K [(.int .i64 (-1))] []) (
 prP (bnI .add t40_19 (.int .i64 1)) fun t49_23=>
 ixW (cnt 8 c0) (nx x1 1) fun t52_24=>
 ldc c0 [] (((AA t52_24)*8)+4) fun t54_25=>
 prP (bnI .neq t54_25 t49_23) fun t56_26=>
 AG t56_26 (
 K [(.int .i64 (-1))] []) (
 prP (bnI .add t49_23 (.int .i64 1)) fun t58_27=>
 ixW (cnt 8 c0) (nx x1 1) fun t61_28=>
 ldc c0 [] (((AA t61_28)*8)+5) fun t63_29=>
 prP (bnI .neq t63_29 t58_27) fun t65_30=>
 AG t65_30 (
 K [(.int .i64 (-1))] []) (
 prP (bnI .add t58_27 (.int .i64 1)) fun t67_31=>
 ixW (cnt 8 c0) (nx x1 1) fun t70_32=>
 ldl c0 [] (((AA t70_32)*8)+6) 1 fun t72_33=>
 cl2 C 120 DH.sg [t67_31] [(F4 c0 [(((AA t70_32)*8)+6)])] fun v34 d35=>
 prP (bnI .lss (nx v34 0) (.int .i64 0)) fun t76_37=>
 AG t76_37 (
 K [(.int .i64 (-1))] []) (
 ixW (cnt 8 c0) (nx x1 1) fun t79_38=>
 ldc c0 [] (((AA t79_38)*8)+7) fun t81_39=>
 prP (bnI .rem (nx v34 0) (.int .i64 3)) fun t83_40=>
 prP (bnI .eql t83_40 (.int .i64 0)) fun t84_41=>
 prP (bnB .neq t81_39 t84_41) fun t85_42=>
 AG t85_42 (
 K [(.int .i64 (-1))] []) (
 prP (bnI .add (nx v34 0) (.int .i64 1)) fun t87_43=>
 prP (bnI .add (nx x1 1) (.int .i64 1)) fun t11_44=>
 r3 [t87_43,t11_44] []))))))))) (
 K [(nx x1 0)] [])) [a0,(.int .i64 0)] []
theorem GL.cl2 {w0:World} {a0:Value} {c0:List T} {K:J2} (h:GL.txt ⟨Tryz.prog,w0⟩ a0 c0 K):Eng.cl2 ⟨Tryz.prog,w0⟩ 118 GL.sg [a0] [c0] K:=
 AB (C:=⟨Tryz.prog,w0⟩) (f:=118) (fn:=Tryz.f118) [(120,DH.sg)] [] [(26,⟨[.t (.f 0) 8, .v, .v],[],[]⟩)] Tryz.func118 (by kernel_rfl) (by kernel_rfl) (by kernel_rfl) h
def FN.sg:Sg:=⟨[(0,[.t 2 0]),(0,[.v])],[(0,[.v])],[]⟩
def FN.txt (C:Ctx) (a0:Value) (c0:List T) (K:J2):Prop:=
 BA (fun r3 x1 k2=>
 prP (bnI .lss (nx x1 1) (iv (cnt 2 c0))) fun t9_5=>
 AG t9_5 (
 ixW (cnt 2 c0) (nx x1 1) fun t14_6=>
 ldc c0 [] ((AA t14_6)*2) fun t16_7=>
 prP (bnI .rem (nx x1 0) (.int .i64 3)) fun t18_8=>
 prP (bnI .eql t18_8 (.int .i64 0)) fun t19_9=>
 prP (bnB .neq t16_7 t19_9) fun t20_10=>
 AG t20_10 (
 K [(.int .i64 (-1))] []) (
 prP (bnI .add (nx x1 0) (.int .i64 1)) fun t22_11=>
 ixW (cnt 2 c0) (nx x1 1) fun t25_12=>
 ldc c0 [] (((AA t25_12)*2)+1) fun t27_13=>
 prP (bnI .neq t27_13 t22_11) fun t29_14=>
 AG t29_14 (
 K [(.int .i64 (-1))] []) (
 prP (bnI .add t22_11 (.int .i64 1)) fun t31_15=>
 prP (bnI .add (nx x1 1) (.int .i64 1)) fun t11_16=>
 r3 [t31_15,t11_16] []))) (
 K [(nx x1 0)] [])) [a0,(.int .i64 0)] []
theorem FN.cl2 {w0:World} {a0:Value} {c0:List T} {K:J2} (h:FN.txt ⟨Tryz.prog,w0⟩ a0 c0 K):Eng.cl2 ⟨Tryz.prog,w0⟩ 119 FN.sg [a0] [c0] K:=
 AB (C:=⟨Tryz.prog,w0⟩) (f:=119) (fn:=Tryz.f119) [] [] [(26,⟨[.t (.f 0) 2, .v, .v],[],[]⟩)] Tryz.func119 (by kernel_rfl) (by kernel_rfl) (by kernel_rfl) h
def DG.sg:Sg:=⟨[(0,[.t 1 0]),(0,[.v])],[(0,[.v])],[]⟩
def DG.txt (C:Ctx) (a0:Value) (c0:List T) (K:J2):Prop:=
 BA (fun r3 x1 k2=>
 prP (bnI .lss (nx x1 1) (iv (cnt 1 c0))) fun t9_5=>
 AG t9_5 (
 ixW (cnt 1 c0) (nx x1 1) fun t14_6=>
 ldc c0 [] ((AA t14_6)*1) fun t15_7=>
 cl2 C 64 CD.sg [(nx x1 0)] [] fun v8 d9=>
 prP (bnS .neq t15_7 (nx v8 0)) fun t18_11=>
 AG t18_11 (
 K [(.int .i64 (-1))] []) (
 prP (bnI .add (nx x1 0) (.int .i64 1)) fun t20_12=>
 prP (bnI .add (nx x1 1) (.int .i64 1)) fun t11_13=>
 r3 [t20_12,t11_13] [])) (
 K [(nx x1 0)] [])) [a0,(.int .i64 0)] []
theorem DG.cl2 {w0:World} {a0:Value} {c0:List T} {K:J2} (h:DG.txt ⟨Tryz.prog,w0⟩ a0 c0 K):Eng.cl2 ⟨Tryz.prog,w0⟩ 121 DG.sg [a0] [c0] K:=
 AB (C:=⟨Tryz.prog,w0⟩) (f:=121) (fn:=Tryz.f121) [(64,CD.sg)] [(4,[0,0,3,7,0,16,63])] [(26,⟨[.t (.f 0) 1, .v, .v],[],[]⟩)] Tryz.func121 (by kernel_rfl) (by kernel_rfl) (by kernel_rfl) h
def GO.sg:Sg:=⟨[(1,[.t 8 0, .t 2 0, .t 1 0, .t 1 0]),(0,[.v])],[(0,[.v])],[]⟩
def GO.txt (C:Ctx) (a0:Value) (c0 c1 c2 c3:List T) (K:J2):Prop:=
 cl2 C 118 GL.sg [a0] [c0] fun v1 d2=>
 prP (bnI .lss (nx v1 0) (.int .i64 0)) fun t10_4=>
 AG t10_4 (
 K [(.int .i64 (-1))] []) (
 cl2 C 119 FN.sg [(nx v1 0)] [c1] fun v5 d6=>
 prP (bnI .lss (nx v5 0) (.int .i64 0)) fun t16_8=>
 AG t16_8 (
 K [(.int .i64 (-1))] []) (
 cl2 C 120 DH.sg [(nx v5 0)] [c2] fun v9 d10=>
 prP (bnI .lss (nx v9 0) (.int .i64 0)) fun t22_12=>
 AG t22_12 (
 K [(.int .i64 (-1))] []) (
 cl2 C 121 DG.sg [(nx v9 0)] [c3] fun v13 d14=>
 prP (bnI .lss (nx v13 0) (.int .i64 0)) fun t28_16=>
 AG t28_16 (
 K [(.int .i64 (-1))] []) (
 K [(nx v13 0)] []))))
theorem GO.cl2 {w0:World} {a0:Value} {c0 c1 c2 c3:List T} {K:J2} (h:GO.txt ⟨Tryz.prog,w0⟩ a0 c0 c1 c2 c3 K):Eng.cl2 ⟨Tryz.prog,w0⟩ 67 GO.sg [a0] [c0,c1,c2,c3] K:=
 AB (C:=⟨Tryz.prog,w0⟩) (f:=67) (fn:=Tryz.f67) [(118,GL.sg),(119,FN.sg),(120,DH.sg),(121,DG.sg)] [] [] Tryz.func67 (by kernel_rfl) (by kernel_rfl) (by kernel_rfl) h
def DW.sg:Sg:=⟨[(0,[.t 3 0]),(0,[.v])],[(0,[.v])],[]⟩
def DW.txt (C:Ctx) (a0:Value) (c0:List T) (K:J2):Prop:=
 BA (fun r3 x1 k2=>
 prP (bnI .lss (nx x1 1) (iv (cnt 3 c0))) fun t9_5=>
 AG t9_5 (
 ixW (cnt 3 c0) (nx x1 1) fun t14_6=>
 ldc c0 [] ((AA t14_6)*3) fun t16_7=>
 prP (bnI .neq t16_7 (nx x1 0)) fun t18_8=>
 AG t18_8 (
 K [(.int .i64 (-1))] []) (
 prP (bnI .add (nx x1 0) (.int .i64 1)) fun t20_9=>
 ixW (cnt 3 c0) (nx x1 1) fun t23_10=>
 ldc c0 [] (((AA t23_10)*3)+1) fun t25_11=>
 prP (bnI .neq t25_11 t20_9) fun t27_12=>
 AG t27_12 (
 K [(.int .i64 (-1))] []) (
 prP (bnI .add t20_9 (.int .i64 1)) fun t29_13=>
 ixW (cnt 3 c0) (nx x1 1) fun t32_14=>
 ldl c0 [] (((AA t32_14)*3)+2) 1 fun t34_15=>
 cl2 C 120 DH.sg [t29_13] [(F4 c0 [(((AA t32_14)*3)+2)])] fun v16 d17=>
 prP (bnI .lss (nx v16 0) (.int .i64 0)) fun t38_19=>
 AG t38_19 (
 K [(.int .i64 (-1))] []) (
 prP (bnI .add (nx x1 1) (.int .i64 1)) fun t11_20=>
 r3 [(nx v16 0),t11_20] [])))) (
 K [(nx x1 0)] [])) [a0,(.int .i64 0)] []
theorem DW.cl2 {w0:World} {a0:Value} {c0:List T} {K:J2} (h:DW.txt ⟨Tryz.prog,w0⟩ a0 c0 K):Eng.cl2 ⟨Tryz.prog,w0⟩ 68 DW.sg [a0] [c0] K:=
 AB (C:=⟨Tryz.prog,w0⟩) (f:=68) (fn:=Tryz.f68) [(120,DH.sg)] [] [(26,⟨[.t (.f 0) 3, .v, .v],[],[]⟩)] Tryz.func68 (by kernel_rfl) (by kernel_rfl) (by kernel_rfl) h
def CE.sg:Sg:=⟨[(0,[.v])],[(0,[.v]),(0,[.v])],[]⟩
def CE.txt (C:Ctx) (a0:Value) (K:J2):Prop:=
 BA (fun r3 x1 k2=>
 prP (bnI .leq (nx x1 1) (.int .i64 7)) fun t8_5=>
 gE t8_5 (
 gE t8_5 (
 gP t8_5 true (prP (lnS (nx x1 0))) fun t12_6=>
 gP t8_5 true (prP (bnI .leq (nx x1 1) t12_6)) fun t13_7=>
 prP (pk t8_5 t13_7 (.bool false)) fun t14_8=>
 AG t14_8 (
 prP (bnI .sub (nx x1 1) (.int .i64 1)) fun t18_9=>
 BA (fun r12 x10 k11=>
 prP (bnI .geq (nx x10 3) (.int .i64 0)) fun t20_14=>
 AG t20_14 (
 prP (bnI .mul (nx x10 2) (.int .i64 128)) fun t24_15=>
 prP (ix (nx x10 0) (nx x10 3)) fun t27_16=>
 prP (cvI .i64 t27_16) fun t28_17=>
 prP (bnI .rem t28_17 (.int .i64 128)) fun t29_18=>
 prP (bnI .add t24_15 t29_18) fun t30_19=>
 prP (bnI .sub (nx x10 3) (.int .i64 1)) fun t22_20=>
 r12 [(nx x10 0),(nx x10 1),t30_19,t22_20] []) (
 cl2 C 136 D9.sg [(nx x10 2)] [] fun v21 d22=>
 prP (scS (nx x10 0) none (some (nx x10 1))) fun t35_24=>
 prP (bnS .eql (nx v21 0) t35_24) fun t36_25=>
 AG t36_25 (
 K [(nx x10 2),(nx x10 1)] []) (
 prP (bnI .add (nx x10 1) (.int .i64 1)) fun t16_26=>
 r3 [(nx x10 0),t16_26] []))) [(nx x1 0),(nx x1 1),(.int .i64 0),t18_9] []) (
 K [(.int .i64 0),(.int .i64 0)] [])))) [a0,(.int .i64 1)] []
theorem CE.cl2 {w0:World} {a0:Value} {K:J2} (h:CE.txt ⟨Tryz.prog,w0⟩ a0 K):Eng.cl2 ⟨Tryz.prog,w0⟩ 101 CE.sg [a0] [] K:=
 AB (C:=⟨Tryz.prog,w0⟩) (f:=101) (fn:=Tryz.f101) [(136,D9.sg)] [(9,[0,1,0,0,12,31])] [(6730,⟨[.v, .v, .v, .v],[],[]⟩),(26,⟨[.v, .v],[],[]⟩)] Tryz.func101 (by kernel_rfl) (by kernel_rfl) (by kernel_rfl) h
def FV.sg:Sg:=⟨[(0,[.v])],[(0,[.v]),(0,[.v]),(0,[.v])],[]⟩
def FV.txt (C:Ctx) (a0:Value) (K:J2):Prop:=
 cl2 C 101 CE.sg [a0] [] fun v1 d2=>
 prP (bnI .eql (nx v1 1) (.int .i64 0)) fun t16_3=>
 AG t16_3 (
 K [(.int .i64 0),(.string {data:= #[]}),(.int .i64 0)] []) (
 prP (scS a0 (some (nx v1 1)) none) fun t20_4=>
 cl2 C 101 CE.sg [t20_4] [] fun v5 d6=>
 prP (bnI .eql (nx v5 1) (.int .i64 0)) fun t25_7=>
 gE t25_7 (
 gP t25_7 false (prP (bnI .gtr (nx v5 0) (.int .i64 200))) fun t28_8=>
 prP (pk t25_7 (.bool true) t28_8) fun t29_9=>
 gE t29_9 (
 gE t29_9 (
 gP t29_9 false (prP (lnS a0)) fun t33_10=>
 gE t29_9 (
 gP t29_9 false (prP (bnI .sub t33_10 (nx v1 1))) fun t35_11=>
 gE t29_9 (
 gP t29_9 false (prP (bnI .sub t35_11 (nx v5 1))) fun t37_12=>
 gP t29_9 false (prP (bnI .sub t37_12 (.int .i64 4))) fun t38_13=>
 gP t29_9 false (prP (bnI .gtr (nx v5 0) t38_13)) fun t39_14=>
 prP (pk t29_9 (.bool true) t39_14) fun t40_15=>
 AG t40_15 (
 K [(.int .i64 0),(.string {data:= #[]}),(.int .i64 0)] []) (
 prP (bnI .add (nx v1 1) (nx v5 1)) fun t44_16=>
 prP (bnI .add (nx v1 1) (nx v5 1)) fun t47_17=>
 prP (bnI .add t47_17 (nx v5 0)) fun t49_18=>
 prP (scS a0 (some t44_16) (some t49_18)) fun t50_19=>
 cl2 C 137 FO.sg [(nx v1 0),t50_19] [] fun v20 d21=>
 prP (bnI .add (nx v1 1) (nx v5 1)) fun t57_23=>
 prP (bnI .add t57_23 (nx v5 0)) fun t59_24=>
 prP (bnI .add t59_24 (.int .i64 4)) fun t60_25=>
 prP (scS a0 none (some t60_25)) fun t61_26=>
 prP (bnS .neq (nx v20 0) t61_26) fun t62_27=>
 AG t62_27 (
 K [(.int .i64 0),(.string {data:= #[]}),(.int .i64 0)] []) (
 prP (bnI .add (nx v1 1) (nx v5 1)) fun t67_28=>
 prP (bnI .add t67_28 (nx v5 0)) fun t69_29=>
 prP (bnI .add t69_29 (.int .i64 4)) fun t70_30=>
 K [(nx v1 0),t50_19,t70_30] []))))))))
theorem FV.cl2 {w0:World} {a0:Value} {K:J2} (h:FV.txt ⟨Tryz.prog,w0⟩ a0 K):Eng.cl2 ⟨Tryz.prog,w0⟩ 98 FV.sg [a0] [] K:=
 AB (C:=⟨Tryz.prog,w0⟩) (f:=98) (fn:=Tryz.f98) [(101,CE.sg),(137,FO.sg)] [(8,[0,0,3,0,0,0,48,0,240,496,1016,2047])] [] Tryz.func98 (by kernel_rfl) (by kernel_rfl) (by kernel_rfl) h
def IT.sg:Sg:=⟨[(0,[.v])],[(0,[.t 1]),(0,[.v])],[]⟩
def IT.txt (C:Ctx) (a0:Value) (K:J2):Prop:=
 cl2 C 97 J1.sg [] [] fun v1 d2=>
 prP (lnS a0) fun t14_4=>
 prP (lnS (nx v1 0)) fun t16_5=>
 prP (bnI .lss t14_4 t16_5) fun t17_6=>
 gE t17_6 (
 gE t17_6 (
 gP t17_6 false (prP (lnS (nx v1 0))) fun t21_7=>
 gP t17_6 false (prP (scS a0 none (some t21_7))) fun t22_8=>
 gE t17_6 (
 gP t17_6 false (prP (bnS .neq t22_8 (nx v1 0))) fun t24_9=>
 prP (pk t17_6 (.bool true) t24_9) fun t25_10=>
 AG t25_10 (
 K [(.int .i64 1)] [[]]) (
 prP (lnS (nx v1 0)) fun t29_11=>
 BA (fun r14 x12 k13=>
 prP (lnS (nx x12 0)) fun t32_16=>
 prP (bnI .lss (nx x12 1) t32_16) fun t33_17=>
 AG t33_17 (
 prP (scS (nx x12 0) (some (nx x12 1)) none) fun t37_18=>
 cl2 C 98 FV.sg [t37_18] [] fun v19 d20=>
 prP (bnI .eql (nx v19 2) (.int .i64 0)) fun t43_21=>
 AG t43_21 (
 K [(.int .i64 2)] [(nxc k13 0)]) (
 prP (bnI .neq (nx v19 0) (iv (cnt 1 (nxc k13 1)))) fun t48_22=>
 AG t48_22 (
 K [(.int .i64 3)] [(nxc k13 0)]) (
 prP (bnI .add (nx x12 1) (nx v19 2)) fun t52_23=>
 prP (bnS .eql (nx v19 1) (.string {data:= #[]})) fun t54_24=>
 AG t54_24 (
 prP (lnS (nx x12 0)) fun t57_25=>
 prP (bnI .lss t52_23 t57_25) fun t58_26=>
 AG t58_26 (
 K [(.int .i64 5)] [(nxc k13 0)]) (
 K [(.int .i64 0)] [(nxc k13 1)])) (
 apW [T.c (nx v19 1)] true (cnt 1 (nxc k13 1)) (cnt 1 [T.c (nx v19 1)]) 16 (
 r14 [(nx x12 0),t52_23] [(nxc k13 0),((nxc k13 1)++[T.c (nx v19 1)])]))))) (
 K [(.int .i64 4)] [(nxc k13 0)])) [a0,t29_11] [[],[]]))))
theorem IT.cl2 {w0:World} {a0:Value} {K:J2} (h:IT.txt ⟨Tryz.prog,w0⟩ a0 K):Eng.cl2 ⟨Tryz.prog,w0⟩ 50 IT.sg [a0] [] K:=
 AB (C:=⟨Tryz.prog,w0⟩) (f:=50) (fn:=Tryz.f50) [(97,J1.sg),(98,FV.sg)] [] [(508,⟨[.v, .t (.j 0) 1, .t (.j 1) 1, .v],[],[.ls, .ls]⟩)] Tryz.func50 (by kernel_rfl) (by kernel_rfl) (by kernel_rfl) h
def LH.sg:Sg:=⟨[(0,[.v])],[(0,[.v])],[]⟩
def LH.txt (C:Ctx) (a0:Value) (K:J2):Prop:=
 prP (bnI .rem a0 (.int .i64 2)) fun t4_1=>
 prP (bnI .eql t4_1 (.int .i64 0)) fun t5_2=>
 AG t5_2 (
 prP (bnI .quo a0 (.int .i64 2)) fun t7_3=>
 K [t7_3] []) (
 prP (bnI .quo a0 (.int .i64 2)) fun t9_4=>
 prP (un .neg t9_4) fun t10_5=>
 prP (bnI .sub t10_5 (.int .i64 1)) fun t11_6=>
 K [t11_6] [])
theorem LH.cl2 {w0:World} {a0:Value} {K:J2} (h:LH.txt ⟨Tryz.prog,w0⟩ a0 K):Eng.cl2 ⟨Tryz.prog,w0⟩ 183 LH.sg [a0] [] K:=
 AB (C:=⟨Tryz.prog,w0⟩) (f:=183) (fn:=Tryz.f183) [] [] [] Tryz.func183 (by kernel_rfl) (by kernel_rfl) (by kernel_rfl) h
def HN.sg:Sg:=⟨[(0,[.v])],[(0,[.v]),(0,[.v])],[]⟩
def HN.txt (C:Ctx) (a0:Value) (K:J2):Prop:=
 cl2 C 101 CE.sg [a0] [] fun v1 d2=>
 prP (bnI .eql (nx v1 1) (.int .i64 0)) fun t12_3=>
 gE t12_3 (
 gP t12_3 false ((fun K=>cl2 C 183 LH.sg [(nx v1 0)] [] fun v4 d5=>K (nx v4 0))) fun t15_6=>
 gP t12_3 false ((fun K=>cl2 C 135 DA.sg [t15_6] [] fun v7 d8=>K (nx v7 0))) fun t16_9=>
 gE t12_3 (
 gE t12_3 (
 gP t12_3 false (prP (scS a0 none (some (nx v1 1)))) fun t19_10=>
 gP t12_3 false (prP (bnS .neq t16_9 t19_10)) fun t20_11=>
 prP (pk t12_3 (.bool true) t20_11) fun t21_12=>
 AG t21_12 (
 K [(.int .i64 0),(.int .i64 0)] []) (
 cl2 C 183 LH.sg [(nx v1 0)] [] fun v13 d14=>
 K [(nx v13 0),(nx v1 1)] []))))
theorem HN.cl2 {w0:World} {a0:Value} {K:J2} (h:HN.txt ⟨Tryz.prog,w0⟩ a0 K):Eng.cl2 ⟨Tryz.prog,w0⟩ 155 HN.sg [a0] [] K:=
 AB (C:=⟨Tryz.prog,w0⟩) (f:=155) (fn:=Tryz.f155) [(101,CE.sg),(183,LH.sg),(135,DA.sg)] [(2,[0,1,3,7,15,31,7,7,199,511,1023])] [] Tryz.func155 (by kernel_rfl) (by kernel_rfl) (by kernel_rfl) h
end Go.Proofs.YtnhicpkhkaihoaaGreat.P
