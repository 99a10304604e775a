/- A part of the proof. -/
import Derived.Test.YtnhicpkhkaihoaaChecked
import Derived.Test.YtnhicpkhkaihoaaEvPZ0
import Derived.KernelRfl
namespace Go.Proofs.Ytnhicpkhkaihoaa.P
open Go Go.Proofs.Ytnhicpkhkaihoaa Go.Proofs.Ytnhicpkhkaihoaa.Eng
set_option linter.unusedVariables false
set_option maxRecDepth 100000
def EE.sg:Sg:=⟨[(1,[.v, .t 1 0])],[(0,[.v])],[]⟩
def EE.txt (C:Ctx) (a0:Value) (c0:List T) (K:J2):Prop:=
 BG (fun r3 x1 k2=>
 prP (bnI .lss (nx x1 0) (iv (cnt 1 c0))) fun t9_5=>
 AI t9_5 (
 ixW (cnt 1 c0) (nx x1 0) fun t15_6=>
 ldc c0 [] ((AA t15_6)*1) fun t16_7=>
 prP (lnS t16_7) fun t17_8=>
 prP (bnI .gtr t17_8 (.int .i64 8)) fun t18_9=>
 AI t18_9 (
 K [(.bool false)] []) (
 BG (fun r12 x10 k11=>
 prP (bnI .lss (nx x10 1) (nx x10 0)) fun t21_14=>
 AI t21_14 (
 ixW (cnt 1 c0) (nx x10 1) fun t27_15=>
 ldc c0 [] ((AA t27_15)*1) fun t28_16=>
 ixW (cnt 1 c0) (nx x10 0) fun t32_17=>
 ldc c0 [] ((AA t32_17)*1) fun t33_18=>
 prP (bnS .eql t28_16 t33_18) fun t34_19=>
 AI t34_19 (
 K [(.bool false)] []) (
 prP (bnI .add (nx x10 1) (.int .i64 1)) fun t23_20=>
 r12 [(nx x10 0),t23_20,(nx x10 2)] [])) (
 prP (bnI .add (nx x10 0) (.int .i64 1)) fun t11_21=>
 r3 [t11_21,(nx x10 2)] [])) [(nx x1 0),(.int .i64 0),(nx x1 1)] [])) (
 cl2 C 154 BE.sg [(nx x1 1),(.int .i64 (-1000000000)),(.int .i64 1000000000)] [] fun v22 d23=>
 gE (nx v22 0) (
 gE (nx v22 0) (
 gE (nx v22 0) (
 gP (nx v22 0) true (prP (bnI .leq (iv (cnt 1 c0)) (.int .i64 400))) fun t42_25=>
 prP (pk (nx v22 0) t42_25 (.bool false)) fun t43_26=>
 K [t43_26] []))))) [(.int .i64 0),a0] []
theorem EE.cl2 {w0:World} {a0:Value} {c0:List T} {K:J2} (h:EE.txt ⟨Try.prog,w0⟩ a0 c0 K):Eng.cl2 ⟨Try.prog,w0⟩ 120 EE.sg [a0] [c0] K:=
 AD (C:=⟨Try.prog,w0⟩) (f:=120) (fn:=Try.f120) [(154,BE.sg)] [(9,[0,1,0,7,15,0,32,0,224,480,1023])] [(3366,⟨[.p (.j 0) 0, .v, .v],[],[.bx [.v, .t (.f 0) 1]]⟩),(26,⟨[.p (.j 0) 0, .v],[],[.bx [.v, .t (.f 0) 1]]⟩)] Try.func120 (by kernel_rfl) (by kernel_rfl) (by kernel_rfl) h
def EM.sg:Sg:=⟨[(0,[.v])],[(0,[.v])],[]⟩
def EM.txt (C:Ctx) (a0:Value) (K:J2):Prop:=
 cl2 C 154 BE.sg [a0,(.int .i64 0),(.int .i64 562949953421311)] [] fun v1 d2=>
 prP (un .not (nx v1 0)) fun t6_4=>
 AI t6_4 (
 K [(.string {data:= #[]})] []) (
 BG (fun r7 x5 k6=>
 prP (bnI .geq (nx x5 0) (.int .i64 128)) fun t9_9=>
 AI t9_9 (
 prP (bnI .rem (nx x5 0) (.int .i64 128)) fun t12_10=>
 prP (bnI .add (.int .i64 128) t12_10) fun t13_11=>
 prP (cvI .u8 t13_11) fun t14_12=>
 apW [T.c t14_12] true (cnt 1 (nxc k6 0)) (cnt 1 [T.c t14_12]) 1 (
 prP (bnI .quo (nx x5 0) (.int .i64 128)) fun t18_13=>
 r7 [t18_13] [((nxc k6 0)++[T.c t14_12])])) (
 prP (cvI .u8 (nx x5 0)) fun t21_14=>
 apW [T.c t21_14] true (cnt 1 (nxc k6 0)) (cnt 1 [T.c t21_14]) 1 (
 prP (b2T ((nxc k6 0)++[T.c t21_14])) fun t24_15=>
 K [t24_15] []))) [a0] [[]])
theorem EM.cl2 {w0:World} {a0:Value} {K:J2} (h:EM.txt ⟨Try.prog,w0⟩ a0 K):Eng.cl2 ⟨Try.prog,w0⟩ 123 EM.sg [a0] [] K:=
 AD (C:=⟨Try.prog,w0⟩) (f:=123) (fn:=Try.f123) [(154,BE.sg)] [] [(60,⟨[.v, .t (.j 0) 1],[],[.ls]⟩)] Try.func123 (by kernel_rfl) (by kernel_rfl) (by kernel_rfl) h
def FT.sg:Sg:=⟨[(0,[.v])],[(0,[.v])],[]⟩
def FT.txt (C:Ctx) (a0:Value) (K:J2):Prop:=
 prP (lnS a0) fun t4_1=>
 prP (bnI .gtr t4_1 (.int .i64 8)) fun t5_2=>
 AI t5_2 (
 K [(.string {data:= #[]})] []) (
 prP (lnS a0) fun t7_3=>
 cl2 C 123 EM.sg [t7_3] [] fun v4 d5=>
 prP (bnS .add (nx v4 0) a0) fun t10_7=>
 K [t10_7] [])
theorem FT.cl2 {w0:World} {a0:Value} {K:J2} (h:FT.txt ⟨Try.prog,w0⟩ a0 K):Eng.cl2 ⟨Try.prog,w0⟩ 178 FT.sg [a0] [] K:=
 AD (C:=⟨Try.prog,w0⟩) (f:=178) (fn:=Try.f178) [(123,EM.sg)] [] [] Try.func178 (by kernel_rfl) (by kernel_rfl) (by kernel_rfl) h
def FH.sg:Sg:=⟨[(1,[.v, .t 1 0]),(0,[.v])],[(0,[.v]),(1,[.v, .t 1])],[]⟩
def FH.txt (C:Ctx) (a0 a1:Value) (c0:List T) (K:J2):Prop:=
 apW c0 true (cnt 1 []) (cnt 1 c0) 16 (
 BG (fun r3 x1 k2=>
 prP (bnI .lss (nx x1 1) (iv (cnt 1 c0))) fun t19_5=>
 AI t19_5 (
 ixW (cnt 1 c0) (nx x1 1) fun t25_6=>
 ldc c0 [] ((AA t25_6)*1) fun t26_7=>
 prP (bnS .eql t26_7 (nx x1 0)) fun t28_8=>
 AI t28_8 (
 prP (bnI .add (nx x1 1) (.int .i64 1)) fun t30_9=>
 cl2 C 123 EM.sg [t30_9] [] fun v10 d11=>
 K [(nx v10 0),(nx x1 4)] [(nxc k2 0)]) (
 prP (bnI .add (nx x1 1) (.int .i64 1)) fun t21_13=>
 r3 [(nx x1 0),t21_13,(nx x1 2),(nx x1 3),(nx x1 4)] [(nxc k2 0)])) (
 apW [T.c (nx x1 0)] true (cnt 1 (nxc k2 0)) (cnt 1 [T.c (nx x1 0)]) 16 (
 cl2 C 123 EM.sg [(.int .i64 0)] [] fun v14 d15=>
 cl2 C 178 FT.sg [(nx x1 0)] [] fun v17 d18=>
 prP (bnS .add (nx v14 0) (nx v17 0)) fun t42_20=>
 K [t42_20,(nx x1 4)] [((nxc k2 0)++[T.c (nx x1 0)])]))) [a1,(.int .i64 0),a0,(.int .i64 0),a0] [([]++c0)])
theorem FH.cl2 {w0:World} {a0 a1:Value} {c0:List T} {K:J2} (h:FH.txt ⟨Try.prog,w0⟩ a0 a1 c0 K):Eng.cl2 ⟨Try.prog,w0⟩ 121 FH.sg [a0,a1] [c0] K:=
 AD (C:=⟨Try.prog,w0⟩) (f:=121) (fn:=Try.f121) [(123,EM.sg),(178,FT.sg)] [(1,[0,1,0,0,8,28,63,0,255]),(6,[0,1,3,0,7,31]),(8,[0,0,3,7,0,15,63])] [(58,⟨[.v, .p (.j 0) 0, .p (.j 1) 0, .p (.j 2) 0, .v],[],[.bx [.v, .t (.f 0) 1], .bx [.v, .z], .bx [.v, .t (.j 3) 1], .ls]⟩)] Try.func121 (by kernel_rfl) (by kernel_rfl) (by kernel_rfl) h
def KB.sg:Sg:=⟨[(0,[.v])],[(0,[.v])],[]⟩
def KB.txt (C:Ctx) (a0:Value) (K:J2):Prop:=
 cl2 C 154 BE.sg [a0,(.int .i64 (-100000000000000)),(.int .i64 100000000000000)] [] fun v1 d2=>
 prP (un .not (nx v1 0)) fun t5_4=>
 AI t5_4 (
 K [(.int .i64 (-1))] []) (
 prP (bnI .lss a0 (.int .i64 0)) fun t7_5=>
 AI t7_5 (
 prP (bnI .mul (.int .i64 (-2)) a0) fun t9_6=>
 prP (bnI .sub t9_6 (.int .i64 1)) fun t10_7=>
 K [t10_7] []) (
 prP (bnI .mul (.int .i64 2) a0) fun t12_8=>
 K [t12_8] []))
theorem KB.cl2 {w0:World} {a0:Value} {K:J2} (h:KB.txt ⟨Try.prog,w0⟩ a0 K):Eng.cl2 ⟨Try.prog,w0⟩ 179 KB.sg [a0] [] K:=
 AD (C:=⟨Try.prog,w0⟩) (f:=179) (fn:=Try.f179) [(154,BE.sg)] [] [] Try.func179 (by kernel_rfl) (by kernel_rfl) (by kernel_rfl) h
def C3.sg:Sg:=⟨[(0,[.v])],[(0,[.v])],[]⟩
def C3.txt (C:Ctx) (a0:Value) (K:J2):Prop:=
 cl2 C 179 KB.sg [a0] [] fun v1 d2=>
 prP (bnI .lss (nx v1 0) (.int .i64 0)) fun t7_4=>
 AI t7_4 (
 K [(.string {data:= #[]})] []) (
 cl2 C 123 EM.sg [(nx v1 0)] [] fun v5 d6=>
 K [(nx v5 0)] [])
theorem C3.cl2 {w0:World} {a0:Value} {K:J2} (h:C3.txt ⟨Try.prog,w0⟩ a0 K):Eng.cl2 ⟨Try.prog,w0⟩ 122 C3.sg [a0] [] K:=
 AD (C:=⟨Try.prog,w0⟩) (f:=122) (fn:=Try.f122) [(179,KB.sg),(123,EM.sg)] [] [] Try.func122 (by kernel_rfl) (by kernel_rfl) (by kernel_rfl) h
def CN.sg:Sg:=⟨[(1,[.v, .t 1 0]),(1,[.v, .v, .v, .v, .v]),(1,[.v, .v, .t 1 0])],[(0,[.v]),(1,[.v, .t 1])],[]⟩
def CN.txt (C:Ctx) (a0 a1 a2 a3 a4 a5 a6 a7:Value) (c0 c1:List T) (K:J2):Prop:=
 cl2 C 118 EN.sg [a1,a2,a3,a4,a5] [] fun v1 d2=>
 prP (un .not (nx v1 0)) fun t15_4=>
 gE t15_4 (
 gP t15_4 false ((fun K=>cl2 C 119 C6.sg [a6,a7] [c1] fun v5 d6=>K (nx v5 0))) fun t18_7=>
 gP t15_4 false (prP (un .not t18_7)) fun t19_8=>
 prP (pk t15_4 (.bool true) t19_8) fun t20_9=>
 gE t20_9 (
 gP t20_9 false ((fun K=>cl2 C 120 EE.sg [a0] [c0] fun v10 d11=>K (nx v10 0))) fun t23_12=>
 gP t20_9 false (prP (un .not t23_12)) fun t24_13=>
 prP (pk t20_9 (.bool true) t24_13) fun t25_14=>
 AI t25_14 (
 apW c0 true (cnt 1 []) (cnt 1 c0) 16 (
 K [(.string {data:= #[]}),a0] [([]++c0)])) (
 cl2 C 121 FH.sg [a0,a5] [c0] fun v15 d16=>
 cl2 C 122 C3.sg [a1] [] fun v17 d18=>
 prP (bnI .sub a2 a0) fun t47_20=>
 cl2 C 122 C3.sg [t47_20] [] fun v21 d22=>
 prP (bnS .add (nx v17 0) (nx v21 0)) fun t49_24=>
 cl2 C 122 C3.sg [a3] [] fun v25 d26=>
 prP (bnS .add t49_24 (nx v25 0)) fun t53_28=>
 prP (bnI .sub a4 a2) fun t58_29=>
 cl2 C 122 C3.sg [t58_29] [] fun v30 d31=>
 prP (bnS .add t53_28 (nx v30 0)) fun t60_33=>
 prP (bnS .add t60_33 (nx v15 0)) fun t62_34=>
 cl2 C 123 EM.sg [a6] [] fun v35 d36=>
 prP (bnS .add t62_34 (nx v35 0)) fun t66_38=>
 prP (bnI .sub a7 a2) fun t71_39=>
 cl2 C 122 C3.sg [t71_39] [] fun v40 d41=>
 prP (bnS .add t66_38 (nx v40 0)) fun t73_43=>
 cl2 C 123 EM.sg [(iv (cnt 1 c1))] [] fun v44 d45=>
 prP (bnS .add t73_43 (nx v44 0)) fun t78_47=>
 BG (fun r50 x48 k49=>
 prP (bnI .lss (nx x48 2) (iv (cnt 1 c1))) fun t85_52=>
 AI t85_52 (
 ixW (cnt 1 c1) (nx x48 2) fun t92_53=>
 ldc c1 [] ((AA t92_53)*1) fun t93_54=>
 prP (bnI .sub t93_54 (nx x48 1)) fun t95_55=>
 cl2 C 122 C3.sg [t95_55] [] fun v56 d57=>
 prP (bnS .add (nx x48 0) (nx v56 0)) fun t97_59=>
 ixW (cnt 1 c1) (nx x48 2) fun t101_60=>
 ldc c1 [] ((AA t101_60)*1) fun t102_61=>
 prP (bnI .add (nx x48 2) (.int .i64 1)) fun t87_62=>
 r50 [t97_59,t102_61,t87_62,(nx x48 3),(nx x48 4),(nx x48 5),(nx x48 6),(nx x48 7),(nx x48 8),(nx x48 9),(nx x48 10),(nx x48 11)] [(nxc k49 0)]) (
 K [(nx x48 0),(nx x48 4)] [(nxc k49 0)])) [t78_47,a2,(.int .i64 0),a1,a2,a3,a4,a5,a6,a7,(.int .i64 0),(nx v15 1)] [(nxc d16 0)])))
theorem CN.cl2 {w0:World} {a0 a1 a2 a3 a4 a5 a6 a7:Value} {c0 c1:List T} {K:J2} (h:CN.txt ⟨Try.prog,w0⟩ a0 a1 a2 a3 a4 a5 a6 a7 c0 c1 K):Eng.cl2 ⟨Try.prog,w0⟩ 52 CN.sg [a0,a1,a2,a3,a4,a5,a6,a7] [c0,c1] K:=
 AD (C:=⟨Try.prog,w0⟩) (f:=52) (fn:=Try.f52) [(118,EN.sg),(119,C6.sg),(120,EE.sg),(121,FH.sg),(122,C3.sg),(123,EM.sg)] [(2,[0,1,0,0,8,28,63,60,255]),(4,[0,1,3,0,8,0,32,120,255,511,0,1024,3583,8191,0,16384,0,65536,245760,515583,1048575,0,4194303,0,8388608,26205695,67108863,0,134217728,0,536870912,2013265920,4220509695,8589934591,0,17179869184,51539607552,128774561279,274877906943,549755813887]),(12,[0,0,1,7])] [(506,⟨[.p (.j 0) 0, .p (.j 1) 0, .p (.j 2) 0, .p (.j 3) 0, .v, .v, .v],[],[.bx [.v, .v, .v, .v, .v], .bx [.v, .v, .t (.f 1) 1], .bx [.v, .z], .bx [.v, .t (.j 4) 1], .ls]⟩)] Try.func52 (by kernel_rfl) (by kernel_rfl) (by kernel_rfl) h
def FY.sg:Sg:=⟨[(0,[.t 1 0])],[(0,[.t 1])],[]⟩
def FY.txt (C:Ctx) (c0:List T) (K:J2):Prop:=
 apW c0 true 0 (cnt 1 c0) 16 (
 K [] [([]++c0)])
theorem FY.cl2 {w0:World} {c0:List T} {K:J2} (h:FY.txt ⟨Try.prog,w0⟩ c0 K):Eng.cl2 ⟨Try.prog,w0⟩ 144 FY.sg [] [c0] K:=
 AD (C:=⟨Try.prog,w0⟩) (f:=144) (fn:=Try.f144) [] [] [] Try.func144 (by kernel_rfl) (by kernel_rfl) (by kernel_rfl) h
def DH.sg:Sg:=⟨[(1,[.v, .t 1 0])],[(1,[.v, .t 1])],[]⟩
def DH.txt (C:Ctx) (a0:Value) (c0:List T) (K:J2):Prop:=
 cl2 C 144 FY.sg [] [c0] fun v1 d2=>
 K [a0] [(nxc d2 0)]
theorem DH.cl2 {w0:World} {a0:Value} {c0:List T} {K:J2} (h:DH.txt ⟨Try.prog,w0⟩ a0 c0 K):Eng.cl2 ⟨Try.prog,w0⟩ 103 DH.sg [a0] [c0] K:=
 AD (C:=⟨Try.prog,w0⟩) (f:=103) (fn:=Try.f103) [(144,FY.sg)] [(1,[0,1,0,4,12,31,63])] [] Try.func103 (by kernel_rfl) (by kernel_rfl) (by kernel_rfl) h
def DA.sg:Sg:=⟨[(0,[.v])],[(0,[.v])],[]⟩
def DA.txt (C:Ctx) (a0:Value) (K:J2):Prop:=
 cl2 C 157 G9.sg [a0,(.int .i64 (-1000000000)),(.int .i64 1000000000)] [] fun v1 d2=>
 K [(nx v1 0)] []
theorem DA.cl2 {w0:World} {a0:Value} {K:J2} (h:DA.txt ⟨Try.prog,w0⟩ a0 K):Eng.cl2 ⟨Try.prog,w0⟩ 126 DA.sg [a0] [] K:=
 AD (C:=⟨Try.prog,w0⟩) (f:=126) (fn:=Try.f126) [(157,G9.sg)] [] [] Try.func126 (by kernel_rfl) (by kernel_rfl) (by kernel_rfl) h
def DE.sg:Sg:=⟨[(1,[.v, .v, .v, .v, .v])],[(0,[.v])],[]⟩
def DE.txt (C:Ctx) (a0 a1 a2 a3 a4:Value) (K:J2):Prop:=
 cl2 C 126 DA.sg [a0] [] fun v1 d2=>
 gE (nx v1 0) (
 gE (nx v1 0) (
 gP (nx v1 0) true ((fun K=>cl2 C 126 DA.sg [a1] [] fun v4 d5=>K (nx v4 0))) fun t9_6=>
 prP (pk (nx v1 0) t9_6 (.bool false)) fun t10_7=>
 gE t10_7 (
 gE t10_7 (
 gP t10_7 true ((fun K=>cl2 C 126 DA.sg [a2] [] fun v8 d9=>K (nx v8 0))) fun t14_10=>
 prP (pk t10_7 t14_10 (.bool false)) fun t15_11=>
 gE t15_11 (
 gE t15_11 (
 gP t15_11 true ((fun K=>cl2 C 126 DA.sg [a3] [] fun v12 d13=>K (nx v12 0))) fun t19_14=>
 prP (pk t15_11 t19_14 (.bool false)) fun t20_15=>
 gE t20_15 (
 gE t20_15 (
 gP t20_15 true (prP (lnS a4)) fun t24_16=>
 gP t20_15 true (prP (bnI .leq t24_16 (.int .i64 8))) fun t25_17=>
 prP (pk t20_15 t25_17 (.bool false)) fun t26_18=>
 K [t26_18] []))))))))
theorem DE.cl2 {w0:World} {a0 a1 a2 a3 a4:Value} {K:J2} (h:DE.txt ⟨Try.prog,w0⟩ a0 a1 a2 a3 a4 K):Eng.cl2 ⟨Try.prog,w0⟩ 56 DE.sg [a0,a1,a2,a3,a4] [] K:=
 AD (C:=⟨Try.prog,w0⟩) (f:=56) (fn:=Try.f56) [(126,DA.sg)] [] [] Try.func56 (by kernel_rfl) (by kernel_rfl) (by kernel_rfl) h
def DJ.sg:Sg:=⟨[(1,[.v, .v, .t 1 0])],[(0,[.v])],[]⟩
def DJ.txt (C:Ctx) (a0 a1:Value) (c0:List T) (K:J2):Prop:=
 BG (fun r3 x1 k2=>
 prP (bnI .lss (nx x1 1) (nx x1 0)) fun t9_5=>
 AI t9_5 (
 ixW (cnt 1 c0) (nx x1 1) fun t10_6=>
 ldc c0 [] ((AA t10_6)*1) fun t11_7=>
 cl2 C 126 DA.sg [t11_7] [] fun v8 d9=>
 prP (un .not (nx v8 0)) fun t14_11=>
 AI t14_11 (
 K [(.bool false)] []) (
 prP (bnI .add (nx x1 1) (.int .i64 1)) fun t15_12=>
 r3 [(nx x1 0),t15_12,(nx x1 2),(nx x1 3)] [])) (
 cl2 C 157 G9.sg [(nx x1 2),(.int .i64 0),(.int .i64 6)] [] fun v13 d14=>
 gE (nx v13 0) (
 gE (nx v13 0) (
 gP (nx v13 0) true ((fun K=>cl2 C 126 DA.sg [(nx x1 3)] [] fun v16 d17=>K (nx v16 0))) fun t22_18=>
 prP (pk (nx v13 0) t22_18 (.bool false)) fun t23_19=>
 gE t23_19 (
 gE t23_19 (
 gE t23_19 (
 gP t23_19 true (prP (bnI .leq (iv (cnt 1 c0)) (.int .i64 8))) fun t28_20=>
 prP (pk t23_19 t28_20 (.bool false)) fun t29_21=>
 K [t29_21] []))))))) [(iv (cnt 1 c0)),(.int .i64 0),a0,a1] []
theorem DJ.cl2 {w0:World} {a0 a1:Value} {c0:List T} {K:J2} (h:DJ.txt ⟨Try.prog,w0⟩ a0 a1 c0 K):Eng.cl2 ⟨Try.prog,w0⟩ 112 DJ.sg [a0,a1] [c0] K:=
 AD (C:=⟨Try.prog,w0⟩) (f:=112) (fn:=Try.f112) [(126,DA.sg),(157,G9.sg)] [] [(26,⟨[.p (.j 0) 0, .t (.f 0) 1, .v, .v],[],[.bx [.v, .v, .t (.f 0) 1]]⟩)] Try.func112 (by kernel_rfl) (by kernel_rfl) (by kernel_rfl) h
def EJ.sg:Sg:=⟨[(0,[.t 1 0]),(0,[.v])],[(0,[.v])],[]⟩
def EJ.txt (C:Ctx) (a0:Value) (c0:List T) (K:J2):Prop:=
 BG (fun r3 x1 k2=>
 prP (bnI .lss (nx x1 2) (nx x1 1)) fun t10_5=>
 AI t10_5 (
 ixW (cnt 1 c0) (nx x1 2) fun t12_6=>
 ldc c0 [] ((AA t12_6)*1) fun t13_7=>
 prP (bnS .eql t13_7 (nx x1 0)) fun t16_8=>
 AI t16_8 (
 K [(nx x1 2)] []) (
 prP (bnI .add (nx x1 2) (.int .i64 1)) fun t18_9=>
 r3 [(nx x1 0),(nx x1 1),t18_9] [])) (
 K [(.int .i64 (-1))] [])) [a0,(iv (cnt 1 c0)),(.int .i64 0)] []
theorem EJ.cl2 {w0:World} {a0:Value} {c0:List T} {K:J2} (h:EJ.txt ⟨Try.prog,w0⟩ a0 c0 K):Eng.cl2 ⟨Try.prog,w0⟩ 115 EJ.sg [a0] [c0] K:=
 AD (C:=⟨Try.prog,w0⟩) (f:=115) (fn:=Try.f115) [] [] [(26,⟨[.v, .t (.f 0) 1, .v, .v],[],[]⟩)] Try.func115 (by kernel_rfl) (by kernel_rfl) (by kernel_rfl) h
def GJ.sg:Sg:=⟨[(0,[.t 1 0]),(0,[.v])],[(0,[.v])],[]⟩
def GJ.txt (C:Ctx) (a0:Value) (c0:List T) (K:J2):Prop:=
 cl2 C 115 EJ.sg [a0] [c0] fun v1 d2=>
 prP (bnI .geq (nx v1 0) (.int .i64 0)) fun t8_4=>
 K [t8_4] []
theorem GJ.cl2 {w0:World} {a0:Value} {c0:List T} {K:J2} (h:GJ.txt ⟨Try.prog,w0⟩ a0 c0 K):Eng.cl2 ⟨Try.prog,w0⟩ 176 GJ.sg [a0] [c0] K:=
 AD (C:=⟨Try.prog,w0⟩) (f:=176) (fn:=Try.f176) [(115,EJ.sg)] [] [] Try.func176 (by kernel_rfl) (by kernel_rfl) (by kernel_rfl) h
def G6.sg:Sg:=⟨[(1,[.v, .t 1 0])],[(0,[.v])],[]⟩
def G6.txt (C:Ctx) (a0:Value) (c0:List T) (K:J2):Prop:=
 BG (fun r3 x1 k2=>
 prP (bnI .lss (nx x1 1) (nx x1 0)) fun t9_5=>
 AI t9_5 (
 ixW (cnt 1 c0) (nx x1 1) fun t11_6=>
 ldc c0 [] ((AA t11_6)*1) fun t12_7=>
 prP (lnS t12_7) fun t14_8=>
 prP (bnI .gtr t14_8 (.int .i64 8)) fun t15_9=>
 gE t15_9 (
 gE t15_9 (
 gE t15_9 (
 gP t15_9 false ((fun K=>scW (cnt 1 c0) none (some (nx x1 1)) fun l m=>K (two l m))) fun t20_10=>
 gE t15_9 (
 gP t15_9 false ((fun K=>cl2 C 176 GJ.sg [t12_7] [(H4 c0 [] ((AA (bI t20_10))*1) ((AA (a9 t20_10))*1))] fun v11 d12=>K (nx v11 0))) fun t22_13=>
 prP (pk t15_9 (.bool true) t22_13) fun t23_14=>
 AI t23_14 (
 K [(.bool false)] []) (
 prP (bnI .add (nx x1 1) (.int .i64 1)) fun t24_15=>
 r3 [(nx x1 0),t24_15,(nx x1 2)] [])))))) (
 cl2 C 126 DA.sg [(nx x1 2)] [] fun v16 d17=>
 gE (nx v16 0) (
 gE (nx v16 0) (
 gE (nx v16 0) (
 gP (nx v16 0) true (prP (bnI .leq (iv (cnt 1 c0)) (.int .i64 400))) fun t32_19=>
 prP (pk (nx v16 0) t32_19 (.bool false)) fun t33_20=>
 K [t33_20] []))))) [(iv (cnt 1 c0)),(.int .i64 0),a0] []
theorem G6.cl2 {w0:World} {a0:Value} {c0:List T} {K:J2} (h:G6.txt ⟨Try.prog,w0⟩ a0 c0 K):Eng.cl2 ⟨Try.prog,w0⟩ 113 G6.sg [a0] [c0] K:=
 AD (C:=⟨Try.prog,w0⟩) (f:=113) (fn:=Try.f113) [(176,GJ.sg),(126,DA.sg)] [] [(26,⟨[.p (.j 0) 0, .t (.f 0) 1, .v, .v],[],[.bx [.v, .t (.f 0) 1]]⟩)] Try.func113 (by kernel_rfl) (by kernel_rfl) (by kernel_rfl) h
def KF.sg:Sg:=⟨[(0,[.v])],[(0,[.v])],[]⟩
def KF.txt (C:Ctx) (a0:Value) (K:J2):Prop:=
 cl2 C 157 G9.sg [a0,(.int .i64 (-100000000000000)),(.int .i64 100000000000000)] [] fun v1 d2=>
 prP (un .not (nx v1 0)) fun t6_4=>
 AI t6_4 (
 K [(.int .i64 (-1))] []) (
 prP (bnI .lss a0 (.int .i64 0)) fun t9_5=>
 AI t9_5 (
 prP (bnI .mul (.int .i64 (-2)) a0) fun t11_6=>
 prP (bnI .sub t11_6 (.int .i64 1)) fun t12_7=>
 K [t12_7] []) (
 prP (bnI .mul (.int .i64 2) a0) fun t14_8=>
 K [t14_8] []))
theorem KF.cl2 {w0:World} {a0:Value} {K:J2} (h:KF.txt ⟨Try.prog,w0⟩ a0 K):Eng.cl2 ⟨Try.prog,w0⟩ 177 KF.sg [a0] [] K:=
 AD (C:=⟨Try.prog,w0⟩) (f:=177) (fn:=Try.f177) [(157,G9.sg)] [] [] Try.func177 (by kernel_rfl) (by kernel_rfl) (by kernel_rfl) h
def E9.sg:Sg:=⟨[(0,[.v])],[(0,[.v])],[]⟩
def E9.txt (C:Ctx) (a0:Value) (K:J2):Prop:=
 cl2 C 157 G9.sg [a0,(.int .i64 0),(.int .i64 562949953421311)] [] fun v1 d2=>
 prP (un .not (nx v1 0)) fun t6_4=>
 AI t6_4 (
 K [(.string {data:= #[]})] []) (
 BG (fun r7 x5 k6=>
 prP (bnI .gtr (nx x5 0) (.int .i64 127)) fun t8_17=>
 AI t8_17 (
 prP (bnI .rem (nx x5 0) (.int .i64 128)) fun t11_18=>
 prP (bnI .add t11_18 (.int .i64 128)) fun t12_19=>
 prP (cvI .u8 t12_19) fun t13_20=>
 apW [T.c t13_20] true (cnt 1 (nxc k6 0)) (cnt 1 [T.c t13_20]) 1 (
 prP (bnI .quo (nx x5 0) (.int .i64 128)) fun t17_21=>
 r7 [t17_21] [((nxc k6 0)++[T.c t13_20])])) (
 prP (cvI .u8 (nx x5 0)) fun t20_22=>
 apW [T.c t20_22] true (cnt 1 (nxc k6 0)) (cnt 1 [T.c t20_22]) 1 (
 prP (b2T ((nxc k6 0)++[T.c t20_22])) fun t23_23=>
 K [t23_23] []))) [a0] [[]])
theorem E9.cl2 {w0:World} {a0:Value} {K:J2} (h:E9.txt ⟨Try.prog,w0⟩ a0 K):Eng.cl2 ⟨Try.prog,w0⟩ 116 E9.sg [a0] [] K:=
 AD (C:=⟨Try.prog,w0⟩) (f:=116) (fn:=Try.f116) [(157,G9.sg)] [] [(60,⟨[.v, .t (.j 0) 1],[],[.ls]⟩)] Try.func116 (by kernel_rfl) (by kernel_rfl) (by kernel_rfl) h
def C5.sg:Sg:=⟨[(0,[.v])],[(0,[.v])],[]⟩
def C5.txt (C:Ctx) (a0:Value) (K:J2):Prop:=
 cl2 C 177 KF.sg [a0] [] fun v1 d2=>
 cl2 C 116 E9.sg [(nx v1 0)] [] fun v4 d5=>
 K [(nx v4 0)] []
theorem C5.cl2 {w0:World} {a0:Value} {K:J2} (h:C5.txt ⟨Try.prog,w0⟩ a0 K):Eng.cl2 ⟨Try.prog,w0⟩ 114 C5.sg [a0] [] K:=
 AD (C:=⟨Try.prog,w0⟩) (f:=114) (fn:=Try.f114) [(177,KF.sg),(116,E9.sg)] [] [] Try.func114 (by kernel_rfl) (by kernel_rfl) (by kernel_rfl) h
def FO.sg:Sg:=⟨[(0,[.v])],[(0,[.v])],[]⟩
def FO.txt (C:Ctx) (a0:Value) (K:J2):Prop:=
 prP (lnS a0) fun t4_1=>
 prP (bnI .gtr t4_1 (.int .i64 8)) fun t5_2=>
 AI t5_2 (
 K [(.string {data:= #[]})] []) (
 prP (lnS a0) fun t7_3=>
 cl2 C 116 E9.sg [t7_3] [] fun v4 d5=>
 prP (bnS .add (nx v4 0) a0) fun t10_7=>
 K [t10_7] [])
theorem FO.cl2 {w0:World} {a0:Value} {K:J2} (h:FO.txt ⟨Try.prog,w0⟩ a0 K):Eng.cl2 ⟨Try.prog,w0⟩ 117 FO.sg [a0] [] K:=
 AD (C:=⟨Try.prog,w0⟩) (f:=117) (fn:=Try.f117) [(116,E9.sg)] [] [] Try.func117 (by kernel_rfl) (by kernel_rfl) (by kernel_rfl) h
def CM.sg:Sg:=⟨[(1,[.v, .t 1 0]),(1,[.v, .v, .v, .v, .v]),(1,[.v, .v, .t 1 0])],[(0,[.v]),(1,[.v, .t 1])],[]⟩
def CM.txt (C:Ctx) (a0 a1 a2 a3 a4 a5 a6 a7:Value) (c0 c1:List T) (K:J2):Prop:=
 cl2 C 103 DH.sg [a0] [c0] fun v1 d2=>
 cl2 C 56 DE.sg [a1,a2,a3,a4,a5] [] fun v3 d4=>
 prP (un .not (nx v3 0)) fun t18_6=>
 gE t18_6 (
 gP t18_6 false ((fun K=>cl2 C 112 DJ.sg [a6,a7] [c1] fun v7 d8=>K (nx v7 0))) fun t21_9=>
 gP t18_6 false (prP (un .not t21_9)) fun t22_10=>
 prP (pk t18_6 (.bool true) t22_10) fun t23_11=>
 gE t23_11 (
 gP t23_11 false ((fun K=>cl2 C 113 G6.sg [a0] [c0] fun v12 d13=>K (nx v12 0))) fun t26_14=>
 gP t23_11 false (prP (un .not t26_14)) fun t27_15=>
 prP (pk t23_11 (.bool true) t27_15) fun t28_16=>
 AI t28_16 (
 K [(.string {data:= #[]}),(nx v1 0)] [(nxc d2 0)]) (
 cl2 C 114 C5.sg [a1] [] fun v17 d18=>
 prP (bnI .sub a2 a0) fun t37_20=>
 cl2 C 114 C5.sg [t37_20] [] fun v21 d22=>
 prP (bnS .add (nx v17 0) (nx v21 0)) fun t39_24=>
 cl2 C 114 C5.sg [a3] [] fun v25 d26=>
 prP (bnS .add t39_24 (nx v25 0)) fun t43_28=>
 prP (bnI .sub a4 a2) fun t48_29=>
 cl2 C 114 C5.sg [t48_29] [] fun v30 d31=>
 prP (bnS .add t43_28 (nx v30 0)) fun t50_33=>
 BZ (fun x35 k36=>
 cl2 C 116 E9.sg [(nx x35 6)] [] fun v55 d56=>
 prP (bnI .sub (nx x35 7) (nx x35 2)) fun t88_58=>
 cl2 C 114 C5.sg [t88_58] [] fun v59 d60=>
 prP (bnS .add (nx v55 0) (nx v59 0)) fun t90_62=>
 cl2 C 116 E9.sg [(iv (cnt 1 c1))] [] fun v63 d64=>
 prP (bnS .add t90_62 (nx v63 0)) fun t95_66=>
 prP (bnS .add (nx x35 0) t95_66) fun t96_67=>
 BG (fun r70 x68 k69=>
 prP (bnI .lss (nx x68 3) (nx x68 2)) fun t103_72=>
 AI t103_72 (
 ixW (cnt 1 c1) (nx x68 3) fun t104_73=>
 ldc c1 [] ((AA t104_73)*1) fun t105_74=>
 prP (bnI .sub t105_74 (nx x68 1)) fun t109_75=>
 cl2 C 114 C5.sg [t109_75] [] fun v76 d77=>
 prP (bnS .add (nx x68 0) (nx v76 0)) fun t111_79=>
 prP (bnI .add (nx x68 3) (.int .i64 1)) fun t113_80=>
 r70 [t111_79,t105_74,(nx x68 2),t113_80,(nx x68 4),(nx x68 5)] [(nxc k69 0)]) (
 K [(nx x68 0),(nx x68 5)] [(nxc k69 0)])) [t96_67,(nx x35 2),(iv (cnt 1 c1)),(.int .i64 0),(nx x35 8),(nx x35 9)] [(nxc k36 0)]) fun j37=>
 cl2 C 115 EJ.sg [a5] [c0] fun v38 d39=>
 prP (bnI .geq (nx v38 0) (.int .i64 0)) fun t60_41=>
 AI t60_41 (
 prP (bnI .add (nx v38 0) (.int .i64 1)) fun t63_42=>
 cl2 C 116 E9.sg [t63_42] [] fun v43 d44=>
 prP (bnS .add t50_33 (nx v43 0)) fun t65_46=>
 j37 [t65_46,a1,a2,a3,a4,a5,a6,a7,(.int .i64 0),a2] [(nxc d2 0)]) (
 cl2 C 116 E9.sg [(.int .i64 0)] [] fun v47 d48=>
 cl2 C 117 FO.sg [a5] [] fun v50 d51=>
 prP (bnS .add (nx v47 0) (nx v50 0)) fun t71_53=>
 prP (bnS .add t50_33 t71_53) fun t72_54=>
 apW [T.c a5] true (cnt 1 (nxc d2 0)) (cnt 1 [T.c a5]) 16 (
 j37 [t72_54,a1,a2,a3,a4,a5,a6,a7,(.int .i64 0),a2] [((nxc d2 0)++[T.c a5])])))))
theorem CM.cl2 {w0:World} {a0 a1 a2 a3 a4 a5 a6 a7:Value} {c0 c1:List T} {K:J2} (h:CM.txt ⟨Try.prog,w0⟩ a0 a1 a2 a3 a4 a5 a6 a7 c0 c1 K):Eng.cl2 ⟨Try.prog,w0⟩ 51 CM.sg [a0,a1,a2,a3,a4,a5,a6,a7] [c0,c1] K:=
 AD (C:=⟨Try.prog,w0⟩) (f:=51) (fn:=Try.f51) [(103,DH.sg),(56,DE.sg),(112,DJ.sg),(113,G6.sg),(114,C5.sg),(115,EJ.sg),(116,E9.sg),(117,FO.sg)] [(3,[0,0,3]),(4,[0,1,3,0,8,0,32,120,255,511,0,1024,3583,8191,0,16384,0,65536,245760,515583,1048575,2097151]),(9,[0,0,0,4,14,30,63,127]),(11,[0,0,2,6,0,16,0,64,240,510,1022,0,2048,6144,15358,32766,65535,131071]),(19,[0,0,1,7])] [(63,⟨[.p (.j 0) 0, .p (.j 1) 0, .p (.j 2) 0, .p (.j 3) 0, .v],[],[.bx [.v, .v, .v, .v, .v], .bx [.v, .v, .t (.f 1) 1], .bx [.v, .z], .bx [.v, .t (.j 4) 1], .ls]⟩),(4090,⟨[.p (.j 0) 0, .p (.j 1) 0, .v, .v, .t (.f 1) 1, .v, .v],[],[.bx [.v, .z], .bx [.v, .t (.j 2) 1], .ls]⟩)] Try.func51 (by kernel_rfl) (by kernel_rfl) (by kernel_rfl) h
end Go.Proofs.Ytnhicpkhkaihoaa.P
