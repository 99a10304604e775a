/- A part of the proof. -/
import Derived.Test.YtklmcfpgdfibnaaChecked
import Derived.Test.YtklmcfpgdfibnaaRiPZ1
import Derived.KernelRfl
namespace Go.Proofs.Ytklmcfpgdfibnaa.P
open Go Go.Proofs.Ytklmcfpgdfibnaa Go.Proofs.Ytklmcfpgdfibnaa.Eng
set_option linter.unusedVariables false
set_option maxRecDepth 100000
def DH.sg:Sg:=⟨[(2,[.t 8 2, .t 2 0, .t 1 2, .t 1 0]),(1,[.v, .v, .v, .v, .v])],[(1,[.v, .v, .t 1])],[[.t 8, .a 1, .t 1, .a 3]]⟩
def DH.txt (C:Ctx) (a0 a1 a2 a3 a4:Value) (c0 c1 c2 c3:List T) (K:J2):Prop:=
 cl2 C 81 BD.sg [a1] [c0,c1,c2,c3] fun v1 d2=>
 prP (bnI .lss (nx v1 0) (.int .i64 0)) fun t15_4=>
 gE t15_4 (
 gE t15_4 (
 gP t15_4 false (prP (bnI .neq a3 (.int .i64 (-1)))) fun t19_5=>
 gE t15_4 (
 gE (B2 t15_4 false t19_5) (
 gE (B2 t15_4 false t19_5) (
 gE (B2 t15_4 false t19_5) (
 gE (B2 t15_4 false t19_5) (
 gE (B2 t15_4 false t19_5) (
 gP (B2 t15_4 false t19_5) true ((fun K=>cl2 C 81 BD.sg [a3] [c0,c1,c2,c3] fun v6 d7=>K (nx v6 0))) fun t26_8=>
 gP (B2 t15_4 false t19_5) true (prP (bnI .lss t26_8 (.int .i64 0))) fun t27_9=>
 gP t15_4 false (prP (pk t19_5 t27_9 (.bool false))) fun t28_10=>
 prP (pk t15_4 (.bool true) t28_10) fun t29_11=>
 AW t29_11 (
 cl2 C 107 BO.sg [(.int .i64 1)] [] fun v12 d13=>
 K [(nx v12 0),(nx v12 1)] [(nxc d13 0),c0,c2]) (
 cl2 C 131 CW.sg [a2,(.int .i64 0),(.int .i64 2)] [] fun v14 d15=>
 prP (un .not (nx v14 0)) fun t35_17=>
 AW t35_17 (
 cl2 C 107 BO.sg [(.int .i64 2)] [] fun v18 d19=>
 K [(nx v18 0),(nx v18 1)] [(nxc d19 0),c0,c2]) (
 cl2 C 163 C0.sg [a3] [c0,c1,c2,c3] fun v20 d21=>
 ixW (cnt 8 (nxc d21 0)) (nx v1 0) fun t46_22=>
 ldl (nxc d21 0) [] (((AD t46_22)*8)+6) 1 fun t48_23=>
 ixW (cnt 1 (HX (nxc d21 0) [(((AD t46_22)*8)+6)])) a2 fun t51_24=>
 ldc (nxc d21 0) [(((AD t46_22)*8)+6)] ((AD t51_24)*1) fun t52_25=>
 ixW (cnt 8 (nxc d21 0)) (nx v1 0) fun t58_26=>
 ldl (nxc d21 0) [] (((AD t58_26)*8)+6) 1 fun t60_27=>
 ixW (cnt 1 (HX (nxc d21 0) [(((AD t58_26)*8)+6)])) a2 fun t65_28=>
 stc (nxc d21 0) [(((AD t58_26)*8)+6)] ((AD t65_28)*1) a3 fun k29=>
 prP (bnI .eql t52_25 (.int .i64 (-1))) fun t67_30=>
 AW t67_30 (
 K [(.int .i64 0),(.int .i64 0)] [[],k29,c2]) (
 cl2 C 164 C1.sg [] [k29,c1,c2,c3,[T.c t52_25]] fun v31 d32=>
 K [(.int .i64 0),(.int .i64 0)] [(nxc d32 0),(nxc d32 1),(nxc d32 2)])))))))))))
theorem DH.cl2 {w0:World} {a0 a1 a2 a3 a4:Value} {c0 c1 c2 c3:List T} {K:J2} (h:DH.txt ⟨Try.prog,w0⟩ a0 a1 a2 a3 a4 c0 c1 c2 c3 K):Eng.cl2 ⟨Try.prog,w0⟩ 146 DH.sg [a0,a1,a2,a3,a4] [c0,c1,c2,c3] K:=
 AV (C:=⟨Try.prog,w0⟩) (f:=146) (fn:=Try.f146) [(81,BD.sg),(107,BO.sg),(131,CW.sg),(163,C0.sg),(164,C1.sg)] [(1,[0,1,3,0,8,31,63]),(2,[0,1,3,7,15,31,63,127,255,511,127,1151,4095,8191,16383,32767,65535]),(7,[0,1,3,7,0,31,63,127,0,256,1023,2047,4095]),(8,[0,1,3,7,0,31,63,127,0,256,0,1024,4095,8191])] [] Try.func146 (by kernel_rfl) (by kernel_rfl) (by kernel_rfl) h
def EF.sg:Sg:=⟨[(0,[.t 2 0])],[(0,[.v])],[]⟩
def EF.txt (C:Ctx) (c0:List T) (K:J2):Prop:=
 AZ (fun r3 x1 k2=>
 prP (bnI .lss (nx x1 1) (nx x1 0)) fun t8_5=>
 AW t8_5 (
 ixW (cnt 2 c0) (nx x1 1) fun t10_6=>
 ldg c0 [] ((AD t10_6)*2) [.c, .c] fun ts7=>
 prP (un .not (tv (nxT ts7 0))) fun t14_8=>
 AW t14_8 (
 K [(nx x1 1)] []) (
 prP (bnI .add (nx x1 1) (.int .i64 1)) fun t16_9=>
 r3 [(nx x1 0),t16_9] [])) (
 K [(.int .i64 (-1))] [])) [(iv (cnt 2 c0)),(.int .i64 0)] []
theorem EF.cl2 {w0:World} {c0:List T} {K:J2} (h:EF.txt ⟨Try.prog,w0⟩ c0 K):Eng.cl2 ⟨Try.prog,w0⟩ 165 EF.sg [] [c0] K:=
 AV (C:=⟨Try.prog,w0⟩) (f:=165) (fn:=Try.f165) [] [] [(26,⟨[.t (.f 0) 2, .v, .v],[],[]⟩)] Try.func165 (by kernel_rfl) (by kernel_rfl) (by kernel_rfl) h
def DX.sg:Sg:=⟨[(2,[.t 8 0, .t 2 2, .t 1 0, .t 1 0]),(0,[.v])],[(1,[.v, .v, .t 1])],[[.a 0, .t 2, .a 2, .a 3]]⟩
def DX.txt (C:Ctx) (a0:Value) (c0 c1 c2 c3:List T) (K:J2):Prop:=
 cl2 C 165 EF.sg [] [c1] fun v1 d2=>
 cl2 C 81 BD.sg [a0] [c0,c1,c2,c3] fun v4 d5=>
 prP (bnI .lss (nx v4 0) (.int .i64 0)) fun t17_7=>
 AW t17_7 (
 cl2 C 107 BO.sg [(.int .i64 1)] [] fun v8 d9=>
 K [(nx v8 0),(nx v8 1)] [(nxc d9 0),c1]) (
 prP (bnI .lss (nx v1 0) (.int .i64 0)) fun t21_10=>
 AW t21_10 (
 cl2 C 107 BO.sg [(.int .i64 3)] [] fun v11 d12=>
 K [(nx v11 0),(nx v11 1)] [(nxc d12 0),c1]) (
 ixW (cnt 2 c1) (nx v1 0) fun t30_13=>
 stg c1 [] ((AD t30_13)*2) [T.c (.bool true),T.c a0] fun k14=>
 K [(.int .i64 0),(nx v1 0)] [[],k14]))
theorem DX.cl2 {w0:World} {a0:Value} {c0 c1 c2 c3:List T} {K:J2} (h:DX.txt ⟨Try.prog,w0⟩ a0 c0 c1 c2 c3 K):Eng.cl2 ⟨Try.prog,w0⟩ 147 DX.sg [a0] [c0,c1,c2,c3] K:=
 AV (C:=⟨Try.prog,w0⟩) (f:=147) (fn:=Try.f147) [(165,EF.sg),(81,BD.sg),(107,BO.sg)] [] [] Try.func147 (by kernel_rfl) (by kernel_rfl) (by kernel_rfl) h
def C8.sg:Sg:=⟨[(2,[.t 8 0, .t 2 2, .t 1 0, .t 1 0]),(0,[.v]),(0,[.v])],[(1,[.v, .v, .t 1])],[[.a 0, .t 2, .a 2, .a 3]]⟩
def C8.txt (C:Ctx) (a0 a1:Value) (c0 c1 c2 c3:List T) (K:J2):Prop:=
 prP (bnI .sub (iv (cnt 2 c1)) (.int .i64 1)) fun t13_1=>
 cl2 C 131 CW.sg [a1,(.int .i64 0),t13_1] [] fun v2 d3=>
 prP (un .not (nx v2 0)) fun t15_5=>
 gE t15_5 (
 gE t15_5 (
 gE t15_5 (
 gE t15_5 (
 gE t15_5 (
 gP t15_5 false (ixW (cnt 2 c1) a1) fun t22_6=>
 gE t15_5 (
 gP t15_5 false (ldc c1 [] ((AD t22_6)*2)) fun t24_7=>
 gP t15_5 false (prP (un .not t24_7)) fun t25_8=>
 prP (pk t15_5 (.bool true) t25_8) fun t26_9=>
 AW t26_9 (
 cl2 C 107 BO.sg [(.int .i64 2)] [] fun v10 d11=>
 K [(nx v10 0),(nx v10 1)] [(nxc d11 0),c1]) (
 prP (bnI .eql a0 (.int .i64 9)) fun t29_12=>
 AW t29_12 (
 ixW (cnt 2 c1) a1 fun t36_13=>
 stg c1 [] ((AD t36_13)*2) [T.c (.bool false),T.c (.int .i64 0)] fun k14=>
 K [(.int .i64 0),(.int .i64 0)] [[],k14]) (
 ixW (cnt 2 c1) a1 fun t46_15=>
 ldc c1 [] (((AD t46_15)*2)+1) fun t48_16=>
 cl2 C 81 BD.sg [t48_16] [c0,c1,c2,c3] fun v17 d18=>
 prP (bnI .lss (nx v17 0) (.int .i64 0)) fun t50_20=>
 AW t50_20 (
 K [(.int .i64 0),(.int .i64 (-1))] [[],c1]) (
 ixW (cnt 2 c1) a1 fun t57_21=>
 ldc c1 [] (((AD t57_21)*2)+1) fun t59_22=>
 K [(.int .i64 0),t59_22] [[],c1])))))))))
theorem C8.cl2 {w0:World} {a0 a1:Value} {c0 c1 c2 c3:List T} {K:J2} (h:C8.txt ⟨Try.prog,w0⟩ a0 a1 c0 c1 c2 c3 K):Eng.cl2 ⟨Try.prog,w0⟩ 148 C8.sg [a0,a1] [c0,c1,c2,c3] K:=
 AV (C:=⟨Try.prog,w0⟩) (f:=148) (fn:=Try.f148) [(131,CW.sg),(107,BO.sg),(81,BD.sg)] [(6,[0,1,3,0,8,24,56,0,248,504,1016,2047,4095])] [] Try.func148 (by kernel_rfl) (by kernel_rfl) (by kernel_rfl) h
def DU.sg:Sg:=⟨[(0,[.t 1 0])],[(0,[.t 1])],[]⟩
def DU.txt (C:Ctx) (c0:List T) (K:J2):Prop:=
 apW c0 true 0 (cnt 1 c0) 16 (
 K [] [([]++c0)])
theorem DU.cl2 {w0:World} {c0:List T} {K:J2} (h:DU.txt ⟨Try.prog,w0⟩ c0 K):Eng.cl2 ⟨Try.prog,w0⟩ 142 DU.sg [] [c0] K:=
 AV (C:=⟨Try.prog,w0⟩) (f:=142) (fn:=Try.f142) [] [] [] Try.func142 (by kernel_rfl) (by kernel_rfl) (by kernel_rfl) h
def DF.sg:Sg:=⟨[(1,[.t 8 0, .t 2 0, .t 1 0, .t 1 0])],[(1,[.t 8, .t 2, .t 1, .t 1])],[]⟩
def DF.txt (C:Ctx) (c0 c1 c2 c3:List T) (K:J2):Prop:=
 apW c1 true 0 (cnt 2 c1) 16 (
 cl2 C 141 CG.sg [] [c2] fun v1 d2=>
 cl2 C 142 DU.sg [] [c3] fun v3 d4=>
 AZ (fun r7 x5 k6=>
 prP (bnI .lss (nx x5 1) (nx x5 0)) fun t20_16=>
 AW t20_16 (
 ixW (cnt 8 c0) (nx x5 1) fun t21_17=>
 ldg c0 [] ((AD t21_17)*8) [.c, .c, .c, .c, .c, .c, .l 1, .c] fun ts18=>
 cl2 C 141 CG.sg [] [(HX c0 [(((AD t21_17)*8)+6)])] fun v19 d20=>
 apW [T.c (tv (nxT ts18 0)),T.c (tv (nxT ts18 1)),T.c (tv (nxT ts18 2)),T.c (tv (nxT ts18 3)),T.c (tv (nxT ts18 4)),T.c (tv (nxT ts18 5)),T.l 1 (nxc d20 0),T.c (tv (nxT ts18 7))] false (cnt 8 (nxc k6 0)) (cnt 8 [T.c (tv (nxT ts18 0)),T.c (tv (nxT ts18 1)),T.c (tv (nxT ts18 2)),T.c (tv (nxT ts18 3)),T.c (tv (nxT ts18 4)),T.c (tv (nxT ts18 5)),T.l 1 (nxc d20 0),T.c (tv (nxT ts18 7))]) 80 (
 prP (bnI .add (nx x5 1) (.int .i64 1)) fun t33_21=>
 r7 [(nx x5 0),t33_21] [((nxc k6 0)++[T.c (tv (nxT ts18 0)),T.c (tv (nxT ts18 1)),T.c (tv (nxT ts18 2)),T.c (tv (nxT ts18 3)),T.c (tv (nxT ts18 4)),T.c (tv (nxT ts18 5)),T.l 1 (nxc d20 0),T.c (tv (nxT ts18 7))]),(nxc k6 1),(nxc k6 2),(nxc k6 3)])) (
 K [] [(nxc k6 0),(nxc k6 1),(nxc k6 2),(nxc k6 3)])) [(iv (cnt 8 c0)),(.int .i64 0)] [[],([]++c1),(nxc d2 0),(nxc d4 0)])
theorem DF.cl2 {w0:World} {c0 c1 c2 c3:List T} {K:J2} (h:DF.txt ⟨Try.prog,w0⟩ c0 c1 c2 c3 K):Eng.cl2 ⟨Try.prog,w0⟩ 97 DF.sg [] [c0,c1,c2,c3] K:=
 AV (C:=⟨Try.prog,w0⟩) (f:=97) (fn:=Try.f97) [(141,CG.sg),(142,DU.sg)] [(1,[0,1,3,0,8,31,0,64,255,511,0,2047])] [(58,⟨[.p (.j 0) 0, .p (.j 1) 0, .t (.f 0) 8, .v, .v],[],[.bx [.z, .z, .z, .z], .bx [.t (.j 2) 8, .t (.j 3) 2, .t (.j 4) 1, .t (.j 5) 1], .ls, .ls, .ls, .ls]⟩)] Try.func97 (by kernel_rfl) (by kernel_rfl) (by kernel_rfl) h
def EB.sg:Sg:=⟨[(1,[.t 8 0, .t 2 0, .t 1 0, .t 1 0])],[(1,[.t 1, .t 1])],[]⟩
def EB.txt (C:Ctx) (c0 c1 c2 c3:List T) (K:J2):Prop:=
 AZ (fun r3 x1 k2=>
 prP (bnI .lss (nx x1 1) (nx x1 0)) fun t10_15=>
 AW t10_15 (
 BJ (fun x17 k18=>
 prP (bnI .add (nx x17 1) (.int .i64 1)) fun t28_23=>
 r3 [(nx x17 0),t28_23] [(nxc k18 0),(nxc k18 1)]) fun j19=>
 ixW (cnt 8 c0) (nx x1 1) fun t12_20=>
 ldg c0 [] ((AD t12_20)*8) [.c, .c, .c, .c, .c, .c, .l 1, .c] fun ts21=>
 prP (bnI .lss (nx x1 1) (.int .i64 8)) fun t15_22=>
 AW t15_22 (
 apW [T.c (tv (nxT ts21 5))] true (cnt 1 (nxc k2 0)) (cnt 1 [T.c (tv (nxT ts21 5))]) 8 (
 apW [T.c (.int .i64 0)] true (cnt 1 (nxc k2 1)) (cnt 1 [T.c (.int .i64 0)]) 8 (
 j19 [(nx x1 0),(nx x1 1)] [((nxc k2 0)++[T.c (tv (nxT ts21 5))]),((nxc k2 1)++[T.c (.int .i64 0)])]))) (
 j19 [(nx x1 0),(nx x1 1)] [(nxc k2 0),(nxc k2 1)])) (
 K [] [(nxc k2 0),(nxc k2 1)])) [(iv (cnt 8 c0)),(.int .i64 0)] [[],[]]
theorem EB.cl2 {w0:World} {c0 c1 c2 c3:List T} {K:J2} (h:EB.txt ⟨Try.prog,w0⟩ c0 c1 c2 c3 K):Eng.cl2 ⟨Try.prog,w0⟩ 56 EB.sg [] [c0,c1,c2,c3] K:=
 AV (C:=⟨Try.prog,w0⟩) (f:=56) (fn:=Try.f56) [] [] [(467,⟨[.p (.j 0) 0, .p (.j 1) 0, .t (.f 0) 8, .v, .v],[],[.bx [.z, .z], .bx [.t (.j 2) 1, .t (.j 3) 1], .ls, .ls]⟩),(58,⟨[.p (.j 0) 0, .p (.j 1) 0, .t (.f 0) 8, .v, .v],[],[.bx [.z, .z], .bx [.t (.j 2) 1, .t (.j 3) 1], .ls, .ls]⟩)] Try.func56 (by kernel_rfl) (by kernel_rfl) (by kernel_rfl) h
def C3.sg:Sg:=⟨[(1,[.t 1 0, .t 1 0])],[(1,[.t 1, .t 1])],[]⟩
def C3.txt (C:Ctx) (c0 c1:List T) (K:J2):Prop:=
 cl2 C 141 CG.sg [] [c0] fun v1 d2=>
 cl2 C 141 CG.sg [] [c1] fun v3 d4=>
 K [] [(nxc d2 0),(nxc d4 0)]
theorem C3.cl2 {w0:World} {c0 c1:List T} {K:J2} (h:C3.txt ⟨Try.prog,w0⟩ c0 c1 K):Eng.cl2 ⟨Try.prog,w0⟩ 114 C3.sg [] [c0,c1] K:=
 AV (C:=⟨Try.prog,w0⟩) (f:=114) (fn:=Try.f114) [(141,CG.sg)] [(1,[0,1,3,0,8,31,63,127])] [] Try.func114 (by kernel_rfl) (by kernel_rfl) (by kernel_rfl) h
def EJ.sg:Sg:=⟨[(1,[.t 8 0, .t 2 0, .t 1 0, .t 1 0]),(1,[.t 1 0, .t 1 0]),(0,[.v])],[(0,[.v])],[]⟩
def EJ.txt (C:Ctx) (a0:Value) (c0 c1 c2 c3 c4 c5:List T) (K:J2):Prop:=
 prP (bnI .eql (iv (cnt 8 c0)) (.int .i64 8)) fun t10_1=>
 gE t10_1 (
 gE t10_1 (
 gE t10_1 (
 gP t10_1 true (prP (bnI .eql (iv (cnt 1 c4)) (.int .i64 8))) fun t15_2=>
 prP (pk t10_1 t15_2 (.bool false)) fun t16_3=>
 gE t16_3 (
 gE t16_3 (
 gE t16_3 (
 gP t16_3 true (prP (bnI .eql (iv (cnt 1 c5)) (.int .i64 8))) fun t21_4=>
 prP (pk t16_3 t21_4 (.bool false)) fun t22_5=>
 gE t22_5 (
 gP t22_5 true ((fun K=>cl2 C 131 CW.sg [a0,(.int .i64 0),(.int .i64 7)] [] fun v6 d7=>K (nx v6 0))) fun t25_8=>
 prP (pk t22_5 t25_8 (.bool false)) fun t26_9=>
 gE t26_9 (
 gE t26_9 (
 gE t26_9 (
 gP t26_9 true (ixW (cnt 8 c0) a0) fun t31_10=>
 gE t26_9 (
 gP t26_9 true (ldc c0 [] ((AD t31_10)*8)) fun t33_11=>
 prP (pk t26_9 t33_11 (.bool false)) fun t34_12=>
 K [t34_12] [])))))))))))
theorem EJ.cl2 {w0:World} {a0:Value} {c0 c1 c2 c3 c4 c5:List T} {K:J2} (h:EJ.txt ⟨Try.prog,w0⟩ a0 c0 c1 c2 c3 c4 c5 K):Eng.cl2 ⟨Try.prog,w0⟩ 115 EJ.sg [a0] [c0,c1,c2,c3,c4,c5] K:=
 AV (C:=⟨Try.prog,w0⟩) (f:=115) (fn:=Try.f115) [(131,CW.sg)] [] [] Try.func115 (by kernel_rfl) (by kernel_rfl) (by kernel_rfl) h
def CN.sg:Sg:=⟨[(1,[.t 8 0, .t 2 0, .t 1 0, .t 1 0]),(0,[.v])],[(0,[.t 1])],[]⟩
def CN.txt (C:Ctx) (a0:Value) (c0 c1 c2 c3:List T) (K:J2):Prop:=
 ixW (cnt 8 c0) a0 fun t12_1=>
 ldl c0 [] (((AD t12_1)*8)+6) 1 fun t14_2=>
 AZ (fun r5 x3 k4=>
 prP (bnI .lss (nx x3 2) (nx x3 1)) fun t17_20=>
 AW t17_20 (
 BJ (fun x22 k23=>
 prP (bnI .add (nx x22 2) (.int .i64 1)) fun t29_31=>
 r5 [(iv (AD (nx x22 0))),(nx x22 1),t29_31] [(nxc k23 0)]) fun j24=>
 ixW (cnt 1 (HX c0 [(AD (nx x3 0))])) (nx x3 2) fun t18_25=>
 ldc c0 [(AD (nx x3 0))] ((AD t18_25)*1) fun t19_26=>
 cl2 C 81 BD.sg [t19_26] [c0,c1,c2,c3] fun v27 d28=>
 prP (bnI .geq (nx v27 0) (.int .i64 0)) fun t24_30=>
 AW t24_30 (
 apW [T.c (nx v27 0)] true (cnt 1 (nxc k4 0)) (cnt 1 [T.c (nx v27 0)]) 8 (
 j24 [(iv (AD (nx x3 0))),(nx x3 1),(nx x3 2)] [((nxc k4 0)++[T.c (nx v27 0)])])) (
 j24 [(iv (AD (nx x3 0))),(nx x3 1),(nx x3 2)] [(nxc k4 0)])) (
 K [] [(nxc k4 0)])) [(iv (((AD t12_1)*8)+6)),(iv (cnt 1 (HX c0 [(((AD t12_1)*8)+6)]))),(.int .i64 0)] [[]]
theorem CN.cl2 {w0:World} {a0:Value} {c0 c1 c2 c3:List T} {K:J2} (h:CN.txt ⟨Try.prog,w0⟩ a0 c0 c1 c2 c3 K):Eng.cl2 ⟨Try.prog,w0⟩ 118 CN.sg [a0] [c0,c1,c2,c3] K:=
 AV (C:=⟨Try.prog,w0⟩) (f:=118) (fn:=Try.f118) [(81,BD.sg)] [] [(467,⟨[.p (.j 0) 0, .t (.j 1) 1, .n (.f 0) 1 1, .v, .v],[],[.bx [.t (.f 0) 8, .t (.f 1) 2, .t (.f 2) 1, .t (.f 3) 1], .ls]⟩),(58,⟨[.p (.j 0) 0, .t (.j 1) 1, .n (.f 0) 1 1, .v, .v],[],[.bx [.t (.f 0) 8, .t (.f 1) 2, .t (.f 2) 1, .t (.f 3) 1], .ls]⟩)] Try.func118 (by kernel_rfl) (by kernel_rfl) (by kernel_rfl) h
def BX.sg:Sg:=⟨[(2,[.t 1 2, .t 1 2]),(1,[.t 8 0, .t 2 0, .t 1 0, .t 1 0]),(0,[.v]),(0,[.v]),(0,[.v])],[],[[.t 1, .t 1]]⟩
def BX.txt (C:Ctx) (a0 a1 a2:Value) (c0 c1 c2 c3 c4 c5:List T) (K:J2):Prop:=
 ixW (cnt 1 c1) a0 fun t17_1=>
 ldc c1 [] ((AD t17_1)*1) fun t18_2=>
 prP (bnI .eql t18_2 a1) fun t20_3=>
 AW t20_3 (
 K [] [c0,c1]) (
 ixW (cnt 1 c1) a0 fun t27_4=>
 stc c1 [] ((AD t27_4)*1) a1 fun k5=>
 cl2 C 118 CN.sg [a0] [c2,c3,c4,c5] fun v6 d7=>
 AZ (fun r10 x8 k9=>
 prP (bnI .lss (nx x8 3) (nx x8 2)) fun t33_12=>
 AW t33_12 (
 ixW (cnt 1 (nxc k9 0)) (nx x8 3) fun t34_13=>
 ldc (nxc k9 0) [] ((AD t34_13)*1) fun t35_14=>
 ixW (cnt 1 (nxc k9 1)) t35_14 fun t41_15=>
 ldc (nxc k9 1) [] ((AD t41_15)*1) fun t42_16=>
 prP (bnI .add t42_16 (nx x8 1)) fun t44_17=>
 ixW (cnt 1 (nxc k9 1)) t35_14 fun t45_18=>
 stc (nxc k9 1) [] ((AD t45_18)*1) t44_17 fun k19=>
 cl2 C 116 BX.sg [t35_14,(nx x8 0),(nx x8 1)] [k19,(nxc k9 2),c2,c3,c4,c5] fun v20 d21=>
 prP (bnI .add (nx x8 3) (.int .i64 1)) fun t52_22=>
 r10 [(nx x8 0),(nx x8 1),(nx x8 2),t52_22] [(nxc k9 0),(nxc d21 0),(nxc d21 1)]) (
 K [] [(nxc k9 1),(nxc k9 2)])) [a1,a2,(iv (cnt 1 (nxc d7 0))),(.int .i64 0)] [(nxc d7 0),c0,k5])
theorem BX.cl2 {w0:World} {a0 a1 a2:Value} {c0 c1 c2 c3 c4 c5:List T} {K:J2} (h:BX.txt ⟨Try.prog,w0⟩ a0 a1 a2 c0 c1 c2 c3 c4 c5 K):Eng.cl2 ⟨Try.prog,w0⟩ 116 BX.sg [a0,a1,a2] [c0,c1,c2,c3,c4,c5] K:=
 AV (C:=⟨Try.prog,w0⟩) (f:=116) (fn:=Try.f116) [(118,CN.sg),(116,BX.sg)] [] [(62,⟨[.p (.j 0) 0, .v, .v, .p (.j 1) 0, .t (.j 2) 1, .v, .v],[.p (.j 0) 0],[.bx [.t (.j 3) 1, .t (.j 4) 1], .bx [.t (.f 0) 8, .t (.f 1) 2, .t (.f 2) 1, .t (.f 3) 1], .ls, .ls, .ls]⟩)] Try.func116 (by kernel_rfl) (by kernel_rfl) (by kernel_rfl) h
def EE.sg:Sg:=⟨[(1,[.t 8 0, .t 2 0, .t 1 0, .t 1 0]),(1,[.t 1 0, .t 1 0]),(0,[.v])],[(1,[.t 1, .t 1])],[]⟩
def EE.txt (C:Ctx) (a0:Value) (c0 c1 c2 c3 c4 c5:List T) (K:J2):Prop:=
 cl2 C 114 C3.sg [] [c4,c5] fun v1 d2=>
 BJ (fun x4 k5=>
 K [] [(nxc k5 0),(nxc k5 1)]) fun j6=>
 cl2 C 115 EJ.sg [a0] [c0,c1,c2,c3,c4,c5] fun v7 d8=>
 AW (nx v7 0) (
 cl2 C 116 BX.sg [a0,(.int .i64 1),(.int .i64 (-1))] [(nxc d2 0),(nxc d2 1),c0,c1,c2,c3] fun v10 d11=>
 j6 [] [(nxc d11 0),(nxc d11 1)]) (
 j6 [] [(nxc d2 0),(nxc d2 1)])
theorem EE.cl2 {w0:World} {a0:Value} {c0 c1 c2 c3 c4 c5:List T} {K:J2} (h:EE.txt ⟨Try.prog,w0⟩ a0 c0 c1 c2 c3 c4 c5 K):Eng.cl2 ⟨Try.prog,w0⟩ 57 EE.sg [a0] [c0,c1,c2,c3,c4,c5] K:=
 AV (C:=⟨Try.prog,w0⟩) (f:=57) (fn:=Try.f57) [(114,C3.sg),(115,EJ.sg),(116,BX.sg)] [] [(7,⟨[.p (.j 0) 0, .p (.j 1) 0],[],[.bx [.z, .z], .bx [.t (.j 2) 1, .t (.j 3) 1], .ls, .ls]⟩)] Try.func57 (by kernel_rfl) (by kernel_rfl) (by kernel_rfl) h
def CE.sg:Sg:=⟨[(2,[.t 1 2, .t 1 2]),(1,[.t 8 0, .t 2 0, .t 1 0, .t 1 0]),(0,[.v])],[],[[.t 1, .t 1]]⟩
def CE.txt (C:Ctx) (a0:Value) (c0 c1 c2 c3 c4 c5:List T) (K:J2):Prop:=
 ixW (cnt 1 c1) a0 fun t13_1=>
 ldc c1 [] ((AD t13_1)*1) fun t14_2=>
 prP (bnI .neq t14_2 (.int .i64 1)) fun t15_3=>
 AW t15_3 (
 K [] [c0,c1]) (
 ixW (cnt 1 c0) a0 fun t21_4=>
 ldc c0 [] ((AD t21_4)*1) fun t22_5=>
 prP (bnI .gtr t22_5 (.int .i64 0)) fun t23_6=>
 AW t23_6 (
 cl2 C 116 BX.sg [a0,(.int .i64 0),(.int .i64 1)] [c0,c1,c2,c3,c4,c5] fun v7 d8=>
 K [] [(nxc d8 0),(nxc d8 1)]) (
 ixW (cnt 1 c1) a0 fun t33_9=>
 stc c1 [] ((AD t33_9)*1) (.int .i64 2) fun k10=>
 cl2 C 118 CN.sg [a0] [c2,c3,c4,c5] fun v11 d12=>
 AZ (fun r15 x13 k14=>
 prP (bnI .lss (nx x13 1) (nx x13 0)) fun t39_17=>
 AW t39_17 (
 ixW (cnt 1 (nxc k14 0)) (nx x13 1) fun t40_18=>
 ldc (nxc k14 0) [] ((AD t40_18)*1) fun t41_19=>
 cl2 C 117 CE.sg [t41_19] [(nxc k14 1),(nxc k14 2),c2,c3,c4,c5] fun v20 d21=>
 prP (bnI .add (nx x13 1) (.int .i64 1)) fun t46_22=>
 r15 [(nx x13 0),t46_22] [(nxc k14 0),(nxc d21 0),(nxc d21 1)]) (
 K [] [(nxc k14 1),(nxc k14 2)])) [(iv (cnt 1 (nxc d12 0))),(.int .i64 0)] [(nxc d12 0),c0,k10]))
theorem CE.cl2 {w0:World} {a0:Value} {c0 c1 c2 c3 c4 c5:List T} {K:J2} (h:CE.txt ⟨Try.prog,w0⟩ a0 c0 c1 c2 c3 c4 c5 K):Eng.cl2 ⟨Try.prog,w0⟩ 117 CE.sg [a0] [c0,c1,c2,c3,c4,c5] K:=
 AV (C:=⟨Try.prog,w0⟩) (f:=117) (fn:=Try.f117) [(116,BX.sg),(118,CN.sg),(117,CE.sg)] [] [(126,⟨[.p (.j 0) 0, .p (.j 1) 0, .t (.j 2) 1, .v, .v],[.p (.j 0) 0],[.bx [.t (.j 3) 1, .t (.j 4) 1], .bx [.t (.f 0) 8, .t (.f 1) 2, .t (.f 2) 1, .t (.f 3) 1], .ls, .ls, .ls]⟩)] Try.func117 (by kernel_rfl) (by kernel_rfl) (by kernel_rfl) h
def EC.sg:Sg:=⟨[(1,[.t 8 0, .t 2 0, .t 1 0, .t 1 0]),(1,[.t 1 0, .t 1 0]),(0,[.v])],[(1,[.t 1, .t 1])],[]⟩
def EC.txt (C:Ctx) (a0:Value) (c0 c1 c2 c3 c4 c5:List T) (K:J2):Prop:=
 cl2 C 114 C3.sg [] [c4,c5] fun v1 d2=>
 BJ (fun x4 k5=>
 K [] [(nxc k5 0),(nxc k5 1)]) fun j6=>
 cl2 C 115 EJ.sg [a0] [c0,c1,c2,c3,c4,c5] fun v7 d8=>
 AW (nx v7 0) (
 cl2 C 117 CE.sg [a0] [(nxc d2 0),(nxc d2 1),c0,c1,c2,c3] fun v10 d11=>
 j6 [] [(nxc d11 0),(nxc d11 1)]) (
 j6 [] [(nxc d2 0),(nxc d2 1)])
theorem EC.cl2 {w0:World} {a0:Value} {c0 c1 c2 c3 c4 c5:List T} {K:J2} (h:EC.txt ⟨Try.prog,w0⟩ a0 c0 c1 c2 c3 c4 c5 K):Eng.cl2 ⟨Try.prog,w0⟩ 59 EC.sg [a0] [c0,c1,c2,c3,c4,c5] K:=
 AV (C:=⟨Try.prog,w0⟩) (f:=59) (fn:=Try.f59) [(114,C3.sg),(115,EJ.sg),(117,CE.sg)] [] [(7,⟨[.p (.j 0) 0, .p (.j 1) 0],[],[.bx [.z, .z], .bx [.t (.j 2) 1, .t (.j 3) 1], .ls, .ls]⟩)] Try.func59 (by kernel_rfl) (by kernel_rfl) (by kernel_rfl) h
def FI.sg:Sg:=⟨[(1,[.t 1 0, .t 1 0])],[(0,[.t 1])],[]⟩
def FI.txt (C:Ctx) (c0 c1:List T) (K:J2):Prop:=
 AZ (fun r3 x1 k2=>
 prP (bnI .lss (nx x1 1) (nx x1 0)) fun t10_15=>
 AW t10_15 (
 BJ (fun x17 k18=>
 prP (bnI .add (nx x17 1) (.int .i64 1)) fun t20_23=>
 r3 [(nx x17 0),t20_23] [(nxc k18 0)]) fun j19=>
 ixW (cnt 1 c1) (nx x1 1) fun t12_20=>
 ldc c1 [] ((AD t12_20)*1) fun t13_21=>
 prP (bnI .eql t13_21 (.int .i64 2)) fun t15_22=>
 AW t15_22 (
 apW [T.c (nx x1 1)] true (cnt 1 (nxc k2 0)) (cnt 1 [T.c (nx x1 1)]) 8 (
 j19 [(nx x1 0),(nx x1 1)] [((nxc k2 0)++[T.c (nx x1 1)])])) (
 j19 [(nx x1 0),(nx x1 1)] [(nxc k2 0)])) (
 K [] [(nxc k2 0)])) [(iv (cnt 1 c1)),(.int .i64 0)] [[]]
theorem FI.cl2 {w0:World} {c0 c1:List T} {K:J2} (h:FI.txt ⟨Try.prog,w0⟩ c0 c1 K):Eng.cl2 ⟨Try.prog,w0⟩ 60 FI.sg [] [c0,c1] K:=
 AV (C:=⟨Try.prog,w0⟩) (f:=60) (fn:=Try.f60) [] [] [(467,⟨[.t (.j 0) 1, .t (.f 1) 1, .v, .v],[],[.ls]⟩),(58,⟨[.t (.j 0) 1, .t (.f 1) 1, .v, .v],[],[.ls]⟩)] Try.func60 (by kernel_rfl) (by kernel_rfl) (by kernel_rfl) h
def DW.sg:Sg:=⟨[(1,[.t 8 0, .t 2 0, .t 1 0, .t 1 0]),(0,[.v])],[(0,[.v])],[]⟩
def DW.txt (C:Ctx) (a0:Value) (c0 c1 c2 c3:List T) (K:J2):Prop:=
 prP (bnI .sub (iv (cnt 8 c0)) (.int .i64 1)) fun t15_1=>
 cl2 C 131 CW.sg [a0,(.int .i64 0),t15_1] [] fun v2 d3=>
 prP (un .not (nx v2 0)) fun t17_5=>
 gE t17_5 (
 gE t17_5 (
 gE t17_5 (
 gP t17_5 false (ixW (cnt 8 c0) a0) fun t22_6=>
 gE t17_5 (
 gP t17_5 false (ldc c0 [] ((AD t22_6)*8)) fun t24_7=>
 gP t17_5 false (prP (un .not t24_7)) fun t25_8=>
 prP (pk t17_5 (.bool true) t25_8) fun t26_9=>
 AW t26_9 (
 K [(.int .i64 0)] []) (
 ixW (cnt 8 c0) a0 fun t31_10=>
 ldc c0 [] (((AD t31_10)*8)+1) fun t33_11=>
 cl2 C 98 CJ.sg [a0,t33_11] [] fun v12 d13=>
 AZ (fun r17 x15 k16=>
 prP (bnI .lss (nx x15 3) (nx x15 2)) fun t39_19=>
 AW t39_19 (
 ixW (cnt 8 c0) (nx x15 3) fun t40_20=>
 ldg c0 [] ((AD t40_20)*8) [.c, .c, .c, .c, .c, .c, .l 1, .c] fun ts21=>
 AZ (fun r24 x22 k23=>
 prP (bnI .lss (nx x22 6) (nx x22 5)) fun t46_26=>
 AW t46_26 (
 BJ (fun x28 k29=>
 prP (bnI .add (nx x28 6) (.int .i64 1)) fun t58_36=>
 r24 [(nx x28 0),(nx x28 1),(nx x28 2),(nx x28 3),(iv (AD (nx x28 4))),(nx x28 5),t58_36,(nx x28 7),(nx x28 8),(nx x28 9),(nx x28 10),(nx x28 11),(nx x28 12),(iv (AD (nx x28 13))),(nx x28 14)] []) fun j30=>
 ixW (cnt 1 (HX c0 [(AD (nx x22 4))])) (nx x22 6) fun t47_31=>
 ldc c0 [(AD (nx x22 4))] ((AD t47_31)*1) fun t48_32=>
 gE (nx x22 7) (
 gE (nx x22 7) (
 gP (nx x22 7) true (prP (bnI .eql t48_32 (nx x22 0))) fun t54_33=>
 prP (pk (nx x22 7) t54_33 (.bool false)) fun t55_34=>
 AW t55_34 (
 prP (bnI .add (nx x22 1) (.int .i64 1)) fun t57_35=>
 j30 [(nx x22 0),t57_35,(nx x22 2),(nx x22 3),(iv (AD (nx x22 4))),(nx x22 5),(nx x22 6),(nx x22 7),(nx x22 8),(nx x22 9),(nx x22 10),(nx x22 11),(nx x22 12),(iv (AD (nx x22 13))),(nx x22 14)] []) (
 j30 [(nx x22 0),(nx x22 1),(nx x22 2),(nx x22 3),(iv (AD (nx x22 4))),(nx x22 5),(nx x22 6),(nx x22 7),(nx x22 8),(nx x22 9),(nx x22 10),(nx x22 11),(nx x22 12),(iv (AD (nx x22 13))),(nx x22 14)] [])))) (
 prP (bnI .add (nx x22 3) (.int .i64 1)) fun t59_37=>
 r17 [(nx x22 0),(nx x22 1),(nx x22 2),t59_37] [])) [(nx x15 0),(nx x15 1),(nx x15 2),(nx x15 3),(iv (((AD t40_20)*8)+6)),(iv (cnt 1 (HX c0 [(((AD t40_20)*8)+6)]))),(.int .i64 0),(tv (nxT ts21 0)),(tv (nxT ts21 1)),(tv (nxT ts21 2)),(tv (nxT ts21 3)),(tv (nxT ts21 4)),(tv (nxT ts21 5)),(iv (((AD t40_20)*8)+6)),(tv (nxT ts21 7))] []) (
 K [(nx x15 1)] [])) [(nx v12 0),(.int .i64 0),(iv (cnt 8 c0)),(.int .i64 0)] [])))))
theorem DW.cl2 {w0:World} {a0:Value} {c0 c1 c2 c3:List T} {K:J2} (h:DW.txt ⟨Try.prog,w0⟩ a0 c0 c1 c2 c3 K):Eng.cl2 ⟨Try.prog,w0⟩ 100 DW.sg [a0] [c0,c1,c2,c3] K:=
 AV (C:=⟨Try.prog,w0⟩) (f:=100) (fn:=Try.f100) [(131,CW.sg),(98,CJ.sg)] [] [(512819,⟨[.v, .v, .p (.j 0) 0, .t (.f 0) 8, .v, .v, .n (.f 0) 1 1, .v, .v],[],[.bx [.v, .v, .v, .v, .v, .v, .n (.f 0) 1 1, .v]]⟩),(64102,⟨[.v, .v, .p (.j 0) 0, .t (.f 0) 8, .v, .v, .n (.f 0) 1 1, .v, .v],[],[.bx [.v, .v, .v, .v, .v, .v, .n (.f 0) 1 1, .v]]⟩),(250,⟨[.v, .v, .t (.f 0) 8, .v, .v],[],[]⟩)] Try.func100 (by kernel_rfl) (by kernel_rfl) (by kernel_rfl) h
def ER.sg:Sg:=⟨[(1,[.t 8 0, .t 2 0, .t 1 0, .t 1 0])],[(1,[.t 8, .t 2, .t 1, .t 1]),(0,[.t 1])],[]⟩
def ER.txt (C:Ctx) (c0 c1 c2 c3:List T) (K:J2):Prop:=
 cl2 C 97 DF.sg [] [c0,c1,c2,c3] fun v1 d2=>
 prP (bnI .neq (iv (cnt 8 c0)) (.int .i64 8)) fun t20_3=>
 AW t20_3 (
 K [] [(nxc d2 0),(nxc d2 1),(nxc d2 2),(nxc d2 3),[]]) (
 cl2 C 56 EB.sg [] [c0,c1,c2,c3] fun v4 d5=>
 AZ (fun r8 x6 k7=>
 prP (bnI .lss (nx x6 1) (nx x6 0)) fun t28_10=>
 AW t28_10 (
 ixW (cnt 1 c2) (nx x6 1) fun t29_11=>
 ldc c2 [] ((AD t29_11)*1) fun t30_12=>
 cl2 C 81 BD.sg [t30_12] [c0,c1,c2,c3] fun v13 d14=>
 cl2 C 57 EE.sg [(nx v13 0)] [c0,c1,c2,c3,(nxc k7 4),(nxc k7 5)] fun v16 d17=>
 prP (bnI .add (nx x6 1) (.int .i64 1)) fun t37_18=>
 r8 [(nx x6 0),t37_18] [(nxc k7 0),(nxc k7 1),(nxc k7 2),(nxc k7 3),(nxc d17 0),(nxc d17 1)]) (
 AZ (fun r21 x19 k20=>
 prP (bnI .lss (nx x19 1) (nx x19 0)) fun t42_23=>
 AW t42_23 (
 ixW (cnt 1 c2) (nx x19 1) fun t43_24=>
 ldc c2 [] ((AD t43_24)*1) fun t44_25=>
 cl2 C 81 BD.sg [t44_25] [c0,c1,c2,c3] fun v26 d27=>
 cl2 C 59 EC.sg [(nx v26 0)] [c0,c1,c2,c3,(nxc k20 4),(nxc k20 5)] fun v29 d30=>
 prP (bnI .add (nx x19 1) (.int .i64 1)) fun t51_31=>
 r21 [(nx x19 0),t51_31] [(nxc k20 0),(nxc k20 1),(nxc k20 2),(nxc k20 3),(nxc d30 0),(nxc d30 1)]) (
 cl2 C 60 FI.sg [] [(nxc k20 4),(nxc k20 5)] fun v32 d33=>
 AZ (fun r36 x34 k35=>
 prP (bnI .lss (nx x34 1) (nx x34 0)) fun t56_75=>
 AW t56_75 (
 ixW (cnt 1 (nxc k35 1)) (nx x34 1) fun t57_76=>
 ldc (nxc k35 1) [] ((AD t57_76)*1) fun t58_77=>
 ixW (cnt 8 c0) t58_77 fun t64_78=>
 ldc c0 [] (((AD t64_78)*8)+1) fun t66_79=>
 cl2 C 98 CJ.sg [t58_77,t66_79] [] fun v80 d81=>
 apW [T.c (nx v80 0)] true (cnt 1 (nxc k35 0)) (cnt 1 [T.c (nx v80 0)]) 8 (
 ixW (cnt 8 c0) t58_77 fun t76_83=>
 ldc c0 [] (((AD t76_83)*8)+1) fun t78_84=>
 cl2 C 99 FH.sg [t78_84] [] fun v85 d86=>
 ixW (cnt 8 (nxc k35 2)) t58_77 fun t80_87=>
 stg (nxc k35 2) [] ((AD t80_87)*8) [T.c (nx v85 0),T.c (nx v85 1),T.c (nx v85 2),T.c (nx v85 3),T.c (nx v85 4),T.c (nx v85 5),T.l 1 (nxc d86 0),T.c (nx v85 6)] fun k88=>
 prP (bnI .add (nx x34 1) (.int .i64 1)) fun t81_89=>
 r36 [(nx x34 0),t81_89] [((nxc k35 0)++[T.c (nx v80 0)]),(nxc k35 1),k88,(nxc k35 3),(nxc k35 4),(nxc k35 5)])) (
 AZ (fun r92 x90 k91=>
 prP (bnI .lss (nx x90 1) (nx x90 0)) fun t86_94=>
 AW t86_94 (
 BJ (fun x96 k97=>
 prP (bnI .add (nx x96 1) (.int .i64 1)) fun t115_110=>
 r92 [(nx x96 0),t115_110] [(nxc k97 0),(nxc k97 1),(nxc k97 2),(nxc k97 3),(nxc k97 4)]) fun j98=>
 ixW (cnt 8 (nxc k91 1)) (nx x90 1) fun t91_99=>
 stc (nxc k91 1) [] (((AD t91_99)*8)+7) (.bool false) fun k100=>
 ldc k100 [] ((AD t91_99)*8) fun t98_101=>
 AW t98_101 (
 ldc k100 [] (((AD t91_99)*8)+3) fun t103_102=>
 ldc k100 [] (((AD t91_99)*8)+4) fun t107_103=>
 prP (bnI .add t103_102 t107_103) fun t108_104=>
 cl2 C 100 DW.sg [(nx x90 1)] [k100,(nxc k91 2),(nxc k91 3),(nxc k91 4)] fun v105 d106=>
 prP (bnI .add t108_104 (nx v105 0)) fun t112_108=>
 stc k100 [] (((AD t91_99)*8)+5) t112_108 fun k109=>
 j98 [(nx x90 0),(nx x90 1)] [(nxc k91 0),k109,(nxc k91 2),(nxc k91 3),(nxc k91 4)]) (
 j98 [(nx x90 0),(nx x90 1)] [(nxc k91 0),k100,(nxc k91 2),(nxc k91 3),(nxc k91 4)])) (
 K [] [(nxc k91 1),(nxc k91 2),[],(nxc k91 4),(nxc k91 0)])) [(iv (cnt 8 (nxc k35 2))),(.int .i64 0)] [(nxc k35 0),(nxc k35 2),(nxc k35 3),(nxc k35 4),(nxc k35 5)])) [(iv (cnt 1 (nxc d33 0))),(.int .i64 0)] [[],(nxc d33 0),(nxc k20 0),(nxc k20 1),(nxc k20 2),(nxc k20 3)])) [(iv (cnt 1 c2)),(.int .i64 0)] [(nxc k7 0),(nxc k7 1),(nxc k7 2),(nxc k7 3),(nxc k7 4),(nxc k7 5)])) [(iv (cnt 1 c2)),(.int .i64 0)] [(nxc d2 0),(nxc d2 1),(nxc d2 2),(nxc d2 3),(nxc d5 0),(nxc d5 1)])
theorem ER.cl2 {w0:World} {c0 c1 c2 c3:List T} {K:J2} (h:ER.txt ⟨Try.prog,w0⟩ c0 c1 c2 c3 K):Eng.cl2 ⟨Try.prog,w0⟩ 29 ER.sg [] [c0,c1,c2,c3] K:=
 AV (C:=⟨Try.prog,w0⟩) (f:=29) (fn:=Try.f29) [(97,DF.sg),(56,EB.sg),(81,BD.sg),(57,EE.sg),(59,EC.sg),(60,FI.sg),(98,CJ.sg),(99,FH.sg),(100,DW.sg)] [(8,[0,0,0,0,12,31,63]),(13,[0,0,0,0,12,31,63]),(20,[0,1,0,0,8,0,56,120,248,504,1023,2047]),(28,[0,0,2,6,14,0,32,96,224,510,0,0,3072,8190,16383,32767,65535])] [(32723,⟨[.p (.j 0) 0, .p (.j 1) 0, .t (.j 2) 1, .v, .v],[],[.bx [.z, .z, .z, .z], .bx [.t (.j 3) 8, .t (.j 4) 2, .t (.j 5) 1, .t (.j 6) 1], .ls, .ls, .ls, .ls, .ls]⟩),(4090,⟨[.p (.j 0) 0, .p (.j 1) 0, .t (.j 2) 1, .v, .v],[],[.bx [.z, .z, .z, .z], .bx [.t (.j 3) 8, .t (.j 4) 2, .t (.j 5) 1, .t (.j 6) 1], .ls, .ls, .ls, .ls, .ls]⟩),(2042,⟨[.p (.j 0) 0, .p (.j 1) 0, .p (.j 2) 0, .t (.j 3) 1, .t (.j 4) 1, .v, .v],[],[.bx [.t (.f 0) 8, .t (.f 1) 2, .t (.f 2) 1, .t (.f 3) 1], .bx [.z, .z, .z, .z], .bx [.t (.j 5) 8, .t (.j 6) 2, .t (.j 7) 1, .t (.j 8) 1], .ls, .ls, .ls, .ls, .ls, .ls]⟩),(506,⟨[.p (.j 0) 0, .p (.j 1) 0, .p (.j 2) 0, .p (.j 3) 0, .t (.f 2) 1, .v, .v],[],[.bx [.t (.f 0) 8, .t (.f 1) 2, .t (.f 2) 1, .t (.f 3) 1], .bx [.z, .z, .z, .z], .bx [.t (.j 4) 8, .t (.j 5) 2, .t (.j 6) 1, .t (.j 7) 1], .bx [.t (.j 8) 1, .t (.j 9) 1], .ls, .ls, .ls, .ls, .ls, .ls]⟩),(250,⟨[.p (.j 0) 0, .p (.j 1) 0, .p (.j 2) 0, .p (.j 3) 0, .t (.f 2) 1, .v, .v],[],[.bx [.t (.f 0) 8, .t (.f 1) 2, .t (.f 2) 1, .t (.f 3) 1], .bx [.z, .z, .z, .z], .bx [.t (.j 4) 8, .t (.j 5) 2, .t (.j 6) 1, .t (.j 7) 1], .bx [.t (.j 8) 1, .t (.j 9) 1], .ls, .ls, .ls, .ls, .ls, .ls]⟩)] Try.func29 (by kernel_rfl) (by kernel_rfl) (by kernel_rfl) h
def CP.sg:Sg:=⟨[(2,[.t 8 2, .t 2 2, .t 1 2, .t 1 2]),(1,[.v, .v, .v, .v, .v])],[(1,[.v, .v, .t 1])],[[.t 8, .t 2, .t 1, .t 1]]⟩
def CP.txt (C:Ctx) (a0 a1 a2 a3 a4:Value) (c0 c1 c2 c3:List T) (K:J2):Prop:=
 prP (bnI .eql a0 (.int .i64 1)) fun t10_1=>
 AW t10_1 (
 cl2 C 144 DG.sg [a4] [c0,c1,c2,c3] fun v2 d3=>
 K [(nx v2 0),(nx v2 1)] [(nxc d3 0),(nxc d3 1),c1,c2,(nxc d3 2)]) (
 BJ (fun x5 k6=>
 AW (nx x5 1) (
 cl2 C 145 CX.sg [(nx x5 2),(nx x5 3)] [(nxc k6 0),(nxc k6 1),(nxc k6 2),(nxc k6 3)] fun v12 d13=>
 K [(nx v12 0),(nx v12 1)] [(nxc d13 0),(nxc d13 1),(nxc k6 1),(nxc d13 2),(nxc k6 3)]) (
 prP (bnI .eql (nx x5 0) (.int .i64 4)) fun t27_14=>
 AW t27_14 (
 cl2 C 146 DH.sg [(nx x5 2),(nx x5 3),(nx x5 4),(nx x5 5),(nx x5 6)] [(nxc k6 0),(nxc k6 1),(nxc k6 2),(nxc k6 3)] fun v15 d16=>
 K [(nx v15 0),(nx v15 1)] [(nxc d16 0),(nxc d16 1),(nxc k6 1),(nxc d16 2),(nxc k6 3)]) (
 prP (bnI .eql (nx x5 0) (.int .i64 7)) fun t32_17=>
 AW t32_17 (
 cl2 C 147 DX.sg [(nx x5 3)] [(nxc k6 0),(nxc k6 1),(nxc k6 2),(nxc k6 3)] fun v18 d19=>
 K [(nx v18 0),(nx v18 1)] [(nxc d19 0),(nxc k6 0),(nxc d19 1),(nxc k6 2),(nxc k6 3)]) (
 BJ (fun x21 k22=>
 AW (nx x21 1) (
 cl2 C 148 C8.sg [(nx x21 2),(nx x21 3)] [(nxc k22 0),(nxc k22 1),(nxc k22 2),(nxc k22 3)] fun v26 d27=>
 K [(nx v26 0),(nx v26 1)] [(nxc d27 0),(nxc k22 0),(nxc d27 1),(nxc k22 2),(nxc k22 3)]) (
 prP (bnI .eql (nx x21 0) (.int .i64 10)) fun t47_28=>
 AW t47_28 (
 cl2 C 29 ER.sg [] [(nxc k22 0),(nxc k22 1),(nxc k22 2),(nxc k22 3)] fun v29 d30=>
 K [(.int .i64 0),(.int .i64 0)] [(nxc d30 4),(nxc d30 0),(nxc d30 1),(nxc d30 2),(nxc d30 3)]) (
 cl2 C 107 BO.sg [(.int .i64 2)] [] fun v31 d32=>
 K [(nx v31 0),(nx v31 1)] [(nxc d32 0),(nxc k22 0),(nxc k22 1),(nxc k22 2),(nxc k22 3)]))) fun j23=>
 prP (bnI .eql (nx x5 0) (.int .i64 8)) fun t38_24=>
 AW t38_24 (
 j23 [(nx x5 0),t38_24,(nx x5 2),(nx x5 3),(nx x5 4),(nx x5 5),(nx x5 6),(nx x5 7),(nx x5 8)] [(nxc k6 0),(nxc k6 1),(nxc k6 2),(nxc k6 3)]) (
 prP (bnI .eql (nx x5 0) (.int .i64 9)) fun t39_25=>
 j23 [(nx x5 0),t39_25,(nx x5 2),(nx x5 3),(nx x5 4),(nx x5 5),(nx x5 6),(nx x5 7),(nx x5 8)] [(nxc k6 0),(nxc k6 1),(nxc k6 2),(nxc k6 3)]))))) fun j7=>
 prP (bnI .eql a0 (.int .i64 2)) fun t16_8=>
 AW t16_8 (
 j7 [a0,t16_8,a0,a1,a2,a3,a4,(.int .i64 0),(.int .i64 0)] [c0,c1,c2,c3]) (
 prP (bnI .eql a0 (.int .i64 3)) fun t17_9=>
 AW t17_9 (
 j7 [a0,t17_9,a0,a1,a2,a3,a4,(.int .i64 0),(.int .i64 0)] [c0,c1,c2,c3]) (
 prP (bnI .eql a0 (.int .i64 5)) fun t18_10=>
 AW t18_10 (
 j7 [a0,t18_10,a0,a1,a2,a3,a4,(.int .i64 0),(.int .i64 0)] [c0,c1,c2,c3]) (
 prP (bnI .eql a0 (.int .i64 6)) fun t19_11=>
 j7 [a0,t19_11,a0,a1,a2,a3,a4,(.int .i64 0),(.int .i64 0)] [c0,c1,c2,c3]))))
theorem CP.cl2 {w0:World} {a0 a1 a2 a3 a4:Value} {c0 c1 c2 c3:List T} {K:J2} (h:CP.txt ⟨Try.prog,w0⟩ a0 a1 a2 a3 a4 c0 c1 c2 c3 K):Eng.cl2 ⟨Try.prog,w0⟩ 106 CP.sg [a0,a1,a2,a3,a4] [c0,c1,c2,c3] K:=
 AV (C:=⟨Try.prog,w0⟩) (f:=106) (fn:=Try.f106) [(144,DG.sg),(145,CX.sg),(146,DH.sg),(147,DX.sg),(148,C8.sg),(29,ER.sg),(107,BO.sg)] [] [(107,⟨[.p (.j 0) 0, .p (.j 1) 0, .p (.j 2) 0, .v, .v],[.p (.j 0) 0],[.bx [.t (.j 3) 8, .t (.j 4) 2, .t (.j 5) 1, .t (.j 6) 1], .bx [.v, .v, .v, .v, .v], .bx [.v, .v, .z], .ls, .ls, .ls, .ls]⟩),(6911,⟨[.p (.j 0) 0, .p (.j 1) 0, .p (.j 2) 0, .v, .v],[.p (.j 0) 0],[.bx [.t (.j 3) 8, .t (.j 4) 2, .t (.j 5) 1, .t (.j 6) 1], .bx [.v, .v, .v, .v, .v], .bx [.v, .v, .z], .ls, .ls, .ls, .ls]⟩)] Try.func106 (by kernel_rfl) (by kernel_rfl) (by kernel_rfl) h
def HQ.sg:Sg:=⟨[(0,[.t 5 0])],[(1,[.t 8, .t 2, .t 1, .t 1]),(0,[.t 3])],[]⟩
def HQ.txt (C:Ctx) (c0:List T) (K:J2):Prop:=
 cl2 C 77 EW.sg [] [] fun v1 d2=>
 CH C 105 5 (cnt 5 c0) fun t11_3=>
 AZ (fun r6 x4 k5=>
 prP (bnI .lss (nx x4 3) (nx x4 2)) fun t14_15=>
 AW t14_15 (
 ixW (AD (nx x4 0)) (nx x4 3) fun t15_16=>
 ldg c0 [] ((AD (nx x4 1))+((AD t15_16)*5)) [.c, .c, .c, .c, .c] fun ts17=>
 cl2 C 106 CP.sg [(tv (nxT ts17 0)),(tv (nxT ts17 1)),(tv (nxT ts17 2)),(tv (nxT ts17 3)),(tv (nxT ts17 4))] [(nxc k5 1),(nxc k5 2),(nxc k5 3),(nxc k5 4)] fun v18 d19=>
 apW [T.c (nx v18 0),T.c (nx v18 1),T.l 1 (nxc d19 0)] false (cnt 3 (nxc k5 0)) (cnt 3 [T.c (nx v18 0),T.c (nx v18 1),T.l 1 (nxc d19 0)]) 40 (
 prP (bnI .add (nx x4 3) (.int .i64 1)) fun t23_20=>
 r6 [(iv (AD (nx x4 0))),(iv (AD (nx x4 1))),(nx x4 2),t23_20] [((nxc k5 0)++[T.c (nx v18 0),T.c (nx v18 1),T.l 1 (nxc d19 0)]),(nxc d19 1),(nxc d19 2),(nxc d19 3),(nxc d19 4)])) (
 K [] [(nxc k5 1),(nxc k5 2),(nxc k5 3),(nxc k5 4),(nxc k5 0)])) [(iv (AD t11_3)),(iv 0),(iv (AD t11_3)),(.int .i64 0)] [[],(nxc d2 0),(nxc d2 1),(nxc d2 2),(nxc d2 3)]
theorem HQ.cl2 {w0:World} {c0:List T} {K:J2} (h:HQ.txt ⟨Try.prog,w0⟩ c0 K):Eng.cl2 ⟨Try.prog,w0⟩ 39 HQ.sg [] [c0] K:=
 AV (C:=⟨Try.prog,w0⟩) (f:=39) (fn:=Try.f39) [(77,EW.sg),(105,Y1.sg),(106,CP.sg)] [] [(122,⟨[.p (.j 0) 0, .p (.j 1) 0, .t (.j 2) 3, .s (.f 0) 0 5, .v, .v],[],[.bx [.z, .z, .z, .z], .bx [.t (.j 3) 8, .t (.j 4) 2, .t (.j 5) 1, .t (.j 6) 1], .ls, .ls, .ls, .ls, .ls]⟩)] Try.func39 (by kernel_rfl) (by kernel_rfl) (by kernel_rfl) h
def FJ.sg:Sg:=⟨[(0,[.t 1 0]),(0,[.v])],[(0,[.v])],[]⟩
def FJ.txt (C:Ctx) (a0:Value) (c0:List T) (K:J2):Prop:=
 cl2 C 162 EK.sg [a0] [c0] fun v1 d2=>
 prP (bnI .geq (nx v1 0) (.int .i64 0)) fun t8_4=>
 K [t8_4] []
theorem FJ.cl2 {w0:World} {a0:Value} {c0:List T} {K:J2} (h:FJ.txt ⟨Try.prog,w0⟩ a0 c0 K):Eng.cl2 ⟨Try.prog,w0⟩ 159 FJ.sg [a0] [c0] K:=
 AV (C:=⟨Try.prog,w0⟩) (f:=159) (fn:=Try.f159) [(162,EK.sg)] [] [] Try.func159 (by kernel_rfl) (by kernel_rfl) (by kernel_rfl) h
def EU.sg:Sg:=⟨[(0,[.t 1 0])],[(0,[.v])],[]⟩
def EU.txt (C:Ctx) (c0:List T) (K:J2):Prop:=
 AZ (fun r3 x1 k2=>
 prP (bnI .lss (nx x1 1) (nx x1 0)) fun t8_5=>
 AW t8_5 (
 ixW (cnt 1 c0) (nx x1 1) fun t10_6=>
 ldc c0 [] ((AD t10_6)*1) fun t11_7=>
 prP (lnS t11_7) fun t13_8=>
 cl2 C 131 CW.sg [t13_8,(.int .i64 1),(.int .i64 8)] [] fun v9 d10=>
 prP (un .not (nx v9 0)) fun t15_12=>
 gE t15_12 (
 gE t15_12 (
 gP t15_12 false ((fun K=>scW (cnt 1 c0) none (some (nx x1 1)) fun l m=>K (two l m))) fun t19_13=>
 gE t15_12 (
 gP t15_12 false ((fun K=>cl2 C 159 FJ.sg [t11_7] [(I2 c0 [] ((AD (aN t19_13))*1) ((AD (bN t19_13))*1))] fun v14 d15=>K (nx v14 0))) fun t21_16=>
 prP (pk t15_12 (.bool true) t21_16) fun t22_17=>
 AW t22_17 (
 K [(.bool false)] []) (
 prP (bnI .add (nx x1 1) (.int .i64 1)) fun t23_18=>
 r3 [(nx x1 0),t23_18] []))))) (
 prP (bnI .leq (iv (cnt 1 c0)) (.int .i64 6)) fun t26_19=>
 K [t26_19] [])) [(iv (cnt 1 c0)),(.int .i64 0)] []
theorem EU.cl2 {w0:World} {c0:List T} {K:J2} (h:EU.txt ⟨Try.prog,w0⟩ c0 K):Eng.cl2 ⟨Try.prog,w0⟩ 129 EU.sg [] [c0] K:=
 AV (C:=⟨Try.prog,w0⟩) (f:=129) (fn:=Try.f129) [(131,CW.sg),(159,FJ.sg)] [] [(26,⟨[.t (.f 0) 1, .t (.f 0) 1, .v, .v],[],[]⟩)] Try.func129 (by kernel_rfl) (by kernel_rfl) (by kernel_rfl) h
def B8.sg:Sg:=⟨[(0,[.t 1 0]),(0,[.v])],[(0,[.v])],[]⟩
def B8.txt (C:Ctx) (a0:Value) (c0:List T) (K:J2):Prop:=
 AZ (fun r3 x1 k2=>
 prP (bnI .lss (nx x1 2) (nx x1 1)) fun t10_5=>
 AW t10_5 (
 ixW (cnt 1 c0) (nx x1 2) fun t11_6=>
 ldc c0 [] ((AD t11_6)*1) fun t12_7=>
 prP (bnI .eql t12_7 (nx x1 0)) fun t15_8=>
 AW t15_8 (
 K [(.bool true)] []) (
 prP (bnI .add (nx x1 2) (.int .i64 1)) fun t16_9=>
 r3 [(nx x1 0),(nx x1 1),t16_9] [])) (
 K [(.bool false)] [])) [a0,(iv (cnt 1 c0)),(.int .i64 0)] []
theorem B8.cl2 {w0:World} {a0:Value} {c0:List T} {K:J2} (h:B8.txt ⟨Try.prog,w0⟩ a0 c0 K):Eng.cl2 ⟨Try.prog,w0⟩ 91 B8.sg [a0] [c0] K:=
 AV (C:=⟨Try.prog,w0⟩) (f:=91) (fn:=Try.f91) [] [] [(26,⟨[.v, .t (.f 0) 1, .v, .v],[],[]⟩)] Try.func91 (by kernel_rfl) (by kernel_rfl) (by kernel_rfl) h
def GQ.sg:Sg:=⟨[(1,[.t 8 0, .t 2 0, .t 1 0, .t 1 0]),(0,[.v])],[(0,[.v])],[]⟩
def GQ.txt (C:Ctx) (a0:Value) (c0 c1 c2 c3:List T) (K:J2):Prop:=
 ixW (cnt 8 c0) a0 fun t11_1=>
 ldg c0 [] ((AD t11_1)*8) [.c, .c, .c, .c, .c, .c, .l 1, .c] fun ts2=>
 cl2 C 131 CW.sg [(tv (nxT ts2 1)),(.int .i64 0),(.int .i64 999)] [] fun v3 d4=>
 prP (un .not (nx v3 0)) fun t16_6=>
 gE t16_6 (
 gE t16_6 (
 gE t16_6 (
 gP t16_6 false (prP (bnI .neq (iv (cnt 1 (HX c0 [(((AD t11_1)*8)+6)]))) (.int .i64 3))) fun t21_7=>
 prP (pk t16_6 (.bool true) t21_7) fun t22_8=>
 AW t22_8 (
 K [(.bool false)] []) (
 AZ (fun r11 x9 k10=>
 prP (bnI .lss (nx x9 3) (nx x9 2)) fun t27_13=>
 AW t27_13 (
 ixW (cnt 1 (HX c0 [(AD (nx x9 1))])) (nx x9 3) fun t28_14=>
 ldc c0 [(AD (nx x9 1))] ((AD t28_14)*1) fun t29_15=>
 prP (bnI .neq t29_15 (.int .i64 (-1))) fun t31_16=>
 gE t31_16 (
 gE t31_16 (
 gP t31_16 true (prP (un .not (nx x9 4))) fun t35_17=>
 gE t31_16 (
 gE (B2 t31_16 true t35_17) (
 gE (B2 t31_16 true t35_17) (
 gP (B2 t31_16 true t35_17) false ((fun K=>cl2 C 81 BD.sg [t29_15] [c0,c1,c2,c3] fun v18 d19=>K (nx v18 0))) fun t39_20=>
 gP (B2 t31_16 true t35_17) false (prP (bnI .lss t39_20 (.int .i64 0))) fun t40_21=>
 gP t31_16 true (prP (pk t35_17 (.bool true) t40_21)) fun t41_22=>
 prP (pk t31_16 t41_22 (.bool false)) fun t42_23=>
 AW t42_23 (
 K [(.bool false)] []) (
 prP (bnI .add (nx x9 3) (.int .i64 1)) fun t43_24=>
 r11 [(nx x9 0),(iv (AD (nx x9 1))),(nx x9 2),t43_24,(nx x9 4),(nx x9 5),(nx x9 6),(nx x9 7),(nx x9 8),(nx x9 9),(iv (AD (nx x9 10))),(nx x9 11)] []))))))) (
 prP (un .not (nx x9 4)) fun t46_25=>
 AW t46_25 (
 prP (bnI .eql (nx x9 6) (.int .i64 0)) fun t49_26=>
 gE t49_26 (
 gE t49_26 (
 gP t49_26 true (prP (bnI .eql (nx x9 7) (.int .i64 0))) fun t53_27=>
 prP (pk t49_26 t53_27 (.bool false)) fun t54_28=>
 gE t54_28 (
 gE t54_28 (
 gP t54_28 true (prP (bnI .eql (nx x9 8) (.int .i64 0))) fun t58_29=>
 prP (pk t54_28 t58_29 (.bool false)) fun t59_30=>
 gE t59_30 (
 gE t59_30 (
 gP t59_30 true (prP (bnI .eql (nx x9 9) (.int .i64 0))) fun t63_31=>
 prP (pk t59_30 t63_31 (.bool false)) fun t64_32=>
 gE t64_32 (
 gE t64_32 (
 gP t64_32 true (prP (un .not (nx x9 11))) fun t68_33=>
 prP (pk t64_32 t68_33 (.bool false)) fun t69_34=>
 K [t69_34] []))))))))) (
 prP (bnI .geq (nx x9 5) (.int .i64 1)) fun t72_35=>
 gE t72_35 (
 gE t72_35 (
 gE t72_35 (
 gE t72_35 (
 gE t72_35 (
 gP t72_35 true (prP (bnI .sub (iv (cnt 1 c3)) (.int .i64 1))) fun t79_36=>
 gP t72_35 true ((fun K=>cl2 C 131 CW.sg [(nx x9 6),(.int .i64 0),t79_36] [] fun v37 d38=>K (nx v37 0))) fun t80_39=>
 prP (pk t72_35 t80_39 (.bool false)) fun t81_40=>
 gE t81_40 (
 gE t81_40 (
 gP t81_40 true ((fun K=>cl2 C 131 CW.sg [(nx x9 7),(.int .i64 0),(.int .i64 20)] [] fun v41 d42=>K (nx v41 0))) fun t85_43=>
 prP (pk t81_40 t85_43 (.bool false)) fun t86_44=>
 gE t86_44 (
 gE t86_44 (
 gP t86_44 true ((fun K=>cl2 C 131 CW.sg [(nx x9 8),(.int .i64 0),(.int .i64 20)] [] fun v45 d46=>K (nx v45 0))) fun t90_47=>
 prP (pk t86_44 t90_47 (.bool false)) fun t91_48=>
 gE t91_48 (
 gE t91_48 (
 gE t91_48 (
 gE t91_48 (
 gE t91_48 (
 gE t91_48 (
 gP t91_48 true (prP (bnI .add (nx x9 7) (nx x9 8))) fun t99_49=>
 gE t91_48 (
 gE t91_48 (
 gP t91_48 true ((fun K=>cl2 C 100 DW.sg [(nx x9 0)] [c0,c1,c2,c3] fun v50 d51=>K (nx v50 0))) fun t102_52=>
 gP t91_48 true (prP (bnI .add t99_49 t102_52)) fun t103_53=>
 gP t91_48 true (prP (bnI .eql (nx x9 9) t103_53)) fun t104_54=>
 prP (pk t91_48 t104_54 (.bool false)) fun t105_55=>
 gE t105_55 (
 gE t105_55 (
 gP t105_55 true (prP (bnI .geq (nx x9 9) (.int .i64 1))) fun t109_56=>
 prP (pk t105_55 t109_56 (.bool false)) fun t110_57=>
 gE t110_57 (
 gE t110_57 (
 gE t110_57 (
 gE t110_57 (
 gE t110_57 (
 gE t110_57 (
 gE t110_57 (
 gP t110_57 true ((fun K=>cl2 C 98 CJ.sg [(nx x9 0),(nx x9 5)] [] fun v58 d59=>K (nx v58 0))) fun t119_60=>
 gP t110_57 true ((fun K=>cl2 C 91 B8.sg [t119_60] [c2] fun v61 d62=>K (nx v61 0))) fun t120_63=>
 gP t110_57 true (prP (bnB .eql (nx x9 11) t120_63)) fun t121_64=>
 prP (pk t110_57 t121_64 (.bool false)) fun t122_65=>
 K [t122_65] []))))))))))))))))))))))))))))) [a0,(iv (((AD t11_1)*8)+6)),(iv (cnt 1 (HX c0 [(((AD t11_1)*8)+6)]))),(.int .i64 0),(tv (nxT ts2 0)),(tv (nxT ts2 1)),(tv (nxT ts2 2)),(tv (nxT ts2 3)),(tv (nxT ts2 4)),(tv (nxT ts2 5)),(iv (((AD t11_1)*8)+6)),(tv (nxT ts2 7))] []))))
theorem GQ.cl2 {w0:World} {a0:Value} {c0 c1 c2 c3:List T} {K:J2} (h:GQ.txt ⟨Try.prog,w0⟩ a0 c0 c1 c2 c3 K):Eng.cl2 ⟨Try.prog,w0⟩ 130 GQ.sg [a0] [c0,c1,c2,c3] K:=
 AV (C:=⟨Try.prog,w0⟩) (f:=130) (fn:=Try.f130) [(131,CW.sg),(81,BD.sg),(100,DW.sg),(98,CJ.sg),(91,B8.sg)] [(12,[0,1,3,7,15,31,15,79,207,463,1023,2047,4095,8191,16383,32767,65535,131071,262143,524287,1048575,2097151,4194303,8388607,16777215,8388607,41943039,8388607,142606335,511705087,8388607,8388607,3229614079,8564768767,17179869183,34359738367,68719476735,137438953471,274877906943,549755813887,1099511627775,2199023255551,4398046511103,8796093022207,4398046511103,21990232555519,4398046511103,4398046511103,145135534866431,496979255754751,1112705767309311,2251799813685247,4503599627370495,9007199254740991])] [(122,⟨[.v, .p (.j 0) 0, .p (.j 1) 0, .n (.f 0) 1 1, .v, .v],[],[.bx [.t (.f 0) 8, .t (.f 1) 2, .t (.f 2) 1, .t (.f 3) 1], .bx [.v, .v, .v, .v, .v, .v, .n (.f 0) 1 1, .v]]⟩)] Try.func130 (by kernel_rfl) (by kernel_rfl) (by kernel_rfl) h
def FR.sg:Sg:=⟨[(1,[.t 8 0, .t 2 0, .t 1 0, .t 1 0])],[(0,[.v])],[]⟩
def FR.txt (C:Ctx) (c0 c1 c2 c3:List T) (K:J2):Prop:=
 prP (bnI .neq (iv (cnt 8 c0)) (.int .i64 8)) fun t11_1=>
 gE t11_1 (
 gE t11_1 (
 gE t11_1 (
 gP t11_1 false (prP (bnI .neq (iv (cnt 2 c1)) (.int .i64 8))) fun t16_2=>
 prP (pk t11_1 (.bool true) t16_2) fun t17_3=>
 gE t17_3 (
 gE t17_3 (
 gP t17_3 false ((fun K=>cl2 C 129 EU.sg [] [c3] fun v4 d5=>K (nx v4 0))) fun t21_6=>
 gP t17_3 false (prP (un .not t21_6)) fun t22_7=>
 prP (pk t17_3 (.bool true) t22_7) fun t23_8=>
 AW t23_8 (
 K [(.bool false)] []) (
 AZ (fun r11 x9 k10=>
 prP (bnI .lss (nx x9 1) (nx x9 0)) fun t28_13=>
 AW t28_13 (
 cl2 C 130 GQ.sg [(nx x9 1)] [c0,c1,c2,c3] fun v14 d15=>
 prP (un .not (nx v14 0)) fun t33_17=>
 AW t33_17 (
 K [(.bool false)] []) (
 prP (bnI .add (nx x9 1) (.int .i64 1)) fun t34_18=>
 r11 [(nx x9 0),t34_18] [])) (
 AZ (fun r21 x19 k20=>
 prP (bnI .lss (nx x19 1) (nx x19 0)) fun t39_23=>
 AW t39_23 (
 ixW (cnt 2 c1) (nx x19 1) fun t40_24=>
 ldg c1 [] ((AD t40_24)*2) [.c, .c] fun ts25=>
 prP (un .not (tv (nxT ts25 0))) fun t44_26=>
 gE t44_26 (
 gE t44_26 (
 gP t44_26 true (prP (bnI .neq (tv (nxT ts25 1)) (.int .i64 0))) fun t48_27=>
 prP (pk t44_26 t48_27 (.bool false)) fun t49_28=>
 gE t49_28 (
 gE t49_28 (
 gE t49_28 (
 gE (B2 t49_28 false (tv (nxT ts25 0))) (
 gE (B2 t49_28 false (tv (nxT ts25 0))) (
 gP (B2 t49_28 false (tv (nxT ts25 0))) true ((fun K=>cl2 C 131 CW.sg [(tv (nxT ts25 1)),(.int .i64 8),(.int .i64 7999)] [] fun v29 d30=>K (nx v29 0))) fun t56_31=>
 gP (B2 t49_28 false (tv (nxT ts25 0))) true (prP (un .not t56_31)) fun t57_32=>
 gP t49_28 false (prP (pk (tv (nxT ts25 0)) t57_32 (.bool false))) fun t58_33=>
 prP (pk t49_28 (.bool true) t58_33) fun t59_34=>
 AW t59_34 (
 K [(.bool false)] []) (
 prP (bnI .add (nx x19 1) (.int .i64 1)) fun t60_35=>
 r21 [(nx x19 0),t60_35] []))))))))) (
 AZ (fun r38 x36 k37=>
 prP (bnI .lss (nx x36 1) (nx x36 0)) fun t65_40=>
 AW t65_40 (
 ixW (cnt 1 c2) (nx x36 1) fun t67_41=>
 ldc c2 [] ((AD t67_41)*1) fun t68_42=>
 cl2 C 81 BD.sg [t68_42] [c0,c1,c2,c3] fun v43 d44=>
 prP (bnI .lss (nx v43 0) (.int .i64 0)) fun t72_46=>
 gE t72_46 (
 gE t72_46 (
 gE t72_46 (
 gP t72_46 false ((fun K=>scW (cnt 1 c2) none (some (nx x36 1)) fun l m=>K (two l m))) fun t77_47=>
 gE t72_46 (
 gP t72_46 false ((fun K=>cl2 C 91 B8.sg [t68_42] [(I2 c2 [] ((AD (aN t77_47))*1) ((AD (bN t77_47))*1))] fun v48 d49=>K (nx v48 0))) fun t79_50=>
 prP (pk t72_46 (.bool true) t79_50) fun t80_51=>
 AW t80_51 (
 K [(.bool false)] []) (
 prP (bnI .add (nx x36 1) (.int .i64 1)) fun t81_52=>
 r38 [(nx x36 0),t81_52] [])))))) (
 K [(.bool true)] [])) [(iv (cnt 1 c2)),(.int .i64 0)] [])) [(iv (cnt 2 c1)),(.int .i64 0)] [])) [(iv (cnt 8 c0)),(.int .i64 0)] []))))))
theorem FR.cl2 {w0:World} {c0 c1 c2 c3:List T} {K:J2} (h:FR.txt ⟨Try.prog,w0⟩ c0 c1 c2 c3 K):Eng.cl2 ⟨Try.prog,w0⟩ 82 FR.sg [] [c0,c1,c2,c3] K:=
 AV (C:=⟨Try.prog,w0⟩) (f:=82) (fn:=Try.f82) [(129,EU.sg),(130,GQ.sg),(131,CW.sg),(81,BD.sg),(91,B8.sg)] [] [(250,⟨[.p (.j 0) 0, .t (.f 2) 1, .v, .v],[],[.bx [.t (.f 0) 8, .t (.f 1) 2, .t (.f 2) 1, .t (.f 3) 1]]⟩),(122,⟨[.p (.j 0) 0, .t (.f 1) 2, .v, .v],[],[.bx [.t (.f 0) 8, .t (.f 1) 2, .t (.f 2) 1, .t (.f 3) 1]]⟩),(58,⟨[.p (.j 0) 0, .v, .v],[],[.bx [.t (.f 0) 8, .t (.f 1) 2, .t (.f 2) 1, .t (.f 3) 1]]⟩)] Try.func82 (by kernel_rfl) (by kernel_rfl) (by kernel_rfl) h
def GJ.sg:Sg:=⟨[(1,[.t 8 0, .t 2 0, .t 1 0, .t 1 0]),(1,[.v, .v, .v, .v, .v])],[(1,[.t 8, .t 2, .t 1, .t 1]),(1,[.v, .v, .t 1])],[]⟩
def GJ.txt (C:Ctx) (a0 a1 a2 a3 a4:Value) (c0 c1 c2 c3:List T) (K:J2):Prop:=
 cl2 C 97 DF.sg [] [c0,c1,c2,c3] fun v1 d2=>
 cl2 C 82 FR.sg [] [c0,c1,c2,c3] fun v3 d4=>
 prP (un .not (nx v3 0)) fun t12_6=>
 AW t12_6 (
 cl2 C 107 BO.sg [(.int .i64 2)] [] fun v7 d8=>
 K [(nx v7 0),(nx v7 1)] [(nxc d2 0),(nxc d2 1),(nxc d2 2),(nxc d2 3),(nxc d8 0)]) (
 cl2 C 106 CP.sg [a0,a1,a2,a3,a4] [(nxc d2 0),(nxc d2 1),(nxc d2 2),(nxc d2 3)] fun v9 d10=>
 K [(nx v9 0),(nx v9 1)] [(nxc d10 1),(nxc d10 2),(nxc d10 3),(nxc d10 4),(nxc d10 0)])
theorem GJ.cl2 {w0:World} {a0 a1 a2 a3 a4:Value} {c0 c1 c2 c3:List T} {K:J2} (h:GJ.txt ⟨Try.prog,w0⟩ a0 a1 a2 a3 a4 c0 c1 c2 c3 K):Eng.cl2 ⟨Try.prog,w0⟩ 42 GJ.sg [a0,a1,a2,a3,a4] [c0,c1,c2,c3] K:=
 AV (C:=⟨Try.prog,w0⟩) (f:=42) (fn:=Try.f42) [(97,DF.sg),(82,FR.sg),(107,BO.sg),(106,CP.sg)] [(3,[0,0,3,7]),(5,[0,0,1,7])] [] Try.func42 (by kernel_rfl) (by kernel_rfl) (by kernel_rfl) h
end Go.Proofs.Ytklmcfpgdfibnaa.P
