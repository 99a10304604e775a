/- A part of the proof. -/
import Derived.Test.YtklmcfpgdfibnaaChecked
import Derived.Test.YtklmcfpgdfibnaaRtPZ1
import Derived.KernelRfl
namespace Go.Proofs.Ytklmcfpgdfibnaa.P
open Go Go.Proofs.Ytklmcfpgdfibnaa Go.Proofs.Ytklmcfpgdfibnaa.Eng
set_option linter.unusedVariables false
set_option maxRecDepth 100000
def DR.sg:Sg:=⟨[(2,[.t 8 2, .t 2 0, .t 1 2, .t 1 0]),(1,[.v, .v, .v, .v, .v])],[(1,[.v, .v, .t 1])],[[.t 8, .a 1, .t 1, .a 3]]⟩
def DR.txt (C:Ctx) (a0 a1 a2 a3 a4:Value) (c0 c1 c2 c3:List T) (K:J2):Prop:=
 cl2 C 81 BS.sg [a1] [c0,c1,c2,c3] fun v1 d2=>
 prP (bnI .lss (nx v1 0) (.int .i64 0)) fun t15_4=>
 gE t15_4 (
 gE t15_4 (
 gP t15_4 false (prP (bnI .neq a3 (.int .i64 (-1)))) fun t19_5=>
 gE t15_4 (
 gE (CJ t15_4 false t19_5) (
 gE (CJ t15_4 false t19_5) (
 gE (CJ t15_4 false t19_5) (
 gE (CJ t15_4 false t19_5) (
 gE (CJ t15_4 false t19_5) (
 gP (CJ t15_4 false t19_5) true ((fun K=>cl2 C 81 BS.sg [a3] [c0,c1,c2,c3] fun v6 d7=>K (nx v6 0))) fun t26_8=>
 gP (CJ t15_4 false t19_5) true (prP (bnI .lss t26_8 (.int .i64 0))) fun t27_9=>
 gP t15_4 false (prP (pk t19_5 t27_9 (.bool false))) fun t28_10=>
 prP (pk t15_4 (.bool true) t28_10) fun t29_11=>
 AX t29_11 (
 cl2 C 107 BY.sg [(.int .i64 1)] [] fun v12 d13=>
 K [(nx v12 0),(nx v12 1)] [(nxc d13 0),c0,c2]) (
 cl2 C 131 C4.sg [a2,(.int .i64 0),(.int .i64 2)] [] fun v14 d15=>
 prP (un .not (nx v14 0)) fun t35_17=>
 AX t35_17 (
 cl2 C 107 BY.sg [(.int .i64 2)] [] fun v18 d19=>
 K [(nx v18 0),(nx v18 1)] [(nxc d19 0),c0,c2]) (
 cl2 C 163 DE.sg [a3] [c0,c1,c2,c3] fun v20 d21=>
 ixW (cnt 8 (nxc d21 0)) (nx v1 0) fun t46_22=>
 ldl (nxc d21 0) [] (((AA t46_22)*8)+6) 1 fun t48_23=>
 ixW (cnt 1 (GL (nxc d21 0) [(((AA t46_22)*8)+6)])) a2 fun t51_24=>
 ldc (nxc d21 0) [(((AA t46_22)*8)+6)] ((AA t51_24)*1) fun t52_25=>
 ixW (cnt 8 (nxc d21 0)) (nx v1 0) fun t58_26=>
 ldl (nxc d21 0) [] (((AA t58_26)*8)+6) 1 fun t60_27=>
 ixW (cnt 1 (GL (nxc d21 0) [(((AA t58_26)*8)+6)])) a2 fun t65_28=>
 stc (nxc d21 0) [(((AA t58_26)*8)+6)] ((AA t65_28)*1) a3 fun k29=>
 prP (bnI .eql t52_25 (.int .i64 (-1))) fun t67_30=>
 AX t67_30 (
 K [(.int .i64 0),(.int .i64 0)] [[],k29,c2]) (
 cl2 C 164 DD.sg [] [k29,c1,c2,c3,[T.c t52_25]] fun v31 d32=>
 K [(.int .i64 0),(.int .i64 0)] [(nxc d32 0),(nxc d32 1),(nxc d32 2)])))))))))))
theorem DR.cl2 {w0:World} {a0 a1 a2 a3 a4:Value} {c0 c1 c2 c3:List T} {K:J2} (h:DR.txt ⟨Try.prog,w0⟩ a0 a1 a2 a3 a4 c0 c1 c2 c3 K):Eng.cl2 ⟨Try.prog,w0⟩ 146 DR.sg [a0,a1,a2,a3,a4] [c0,c1,c2,c3] K:=
 AU (C:=⟨Try.prog,w0⟩) (f:=146) (fn:=Try.f146) [(81,BS.sg),(107,BY.sg),(131,C4.sg),(163,DE.sg),(164,DD.sg)] [(1,[0,1,3,0,8,31,63]),(2,[0,1,3,7,15,31,63,127,255,511,127,1151,4095,8191,16383,32767,65535]),(7,[0,1,3,7,0,31,63,127,0,256,1023,2047,4095]),(8,[0,1,3,7,0,31,63,127,0,256,0,1024,4095,8191])] [] Try.func146 (by kernel_rfl) (by kernel_rfl) (by kernel_rfl) h
def FE.sg:Sg:=⟨[(0,[.t 2 0])],[(0,[.v])],[]⟩
def FE.txt (C:Ctx) (c0:List T) (K:J2):Prop:=
 BN (fun r3 x1 k2=>
 prP (bnI .lss (nx x1 1) (nx x1 0)) fun t8_5=>
 AX t8_5 (
 ixW (cnt 2 c0) (nx x1 1) fun t10_6=>
 ldg c0 [] ((AA t10_6)*2) [.c, .c] fun ts7=>
 prP (un .not (tv (nxT ts7 0))) fun t14_8=>
 AX t14_8 (
 K [(nx x1 1)] []) (
 prP (bnI .add (nx x1 1) (.int .i64 1)) fun t16_9=>
 r3 [(nx x1 0),t16_9] [])) (
 K [(.int .i64 (-1))] [])) [(iv (cnt 2 c0)),(.int .i64 0)] []
theorem FE.cl2 {w0:World} {c0:List T} {K:J2} (h:FE.txt ⟨Try.prog,w0⟩ c0 K):Eng.cl2 ⟨Try.prog,w0⟩ 165 FE.sg [] [c0] K:=
 AU (C:=⟨Try.prog,w0⟩) (f:=165) (fn:=Try.f165) [] [] [(26,⟨[.t (.f 0) 2, .v, .v],[],[]⟩)] Try.func165 (by kernel_rfl) (by kernel_rfl) (by kernel_rfl) h
def EH.sg:Sg:=⟨[(2,[.t 8 0, .t 2 2, .t 1 0, .t 1 0]),(0,[.v])],[(1,[.v, .v, .t 1])],[[.a 0, .t 2, .a 2, .a 3]]⟩
def EH.txt (C:Ctx) (a0:Value) (c0 c1 c2 c3:List T) (K:J2):Prop:=
 cl2 C 165 FE.sg [] [c1] fun v1 d2=>
 cl2 C 81 BS.sg [a0] [c0,c1,c2,c3] fun v4 d5=>
 prP (bnI .lss (nx v4 0) (.int .i64 0)) fun t17_7=>
 AX t17_7 (
 cl2 C 107 BY.sg [(.int .i64 1)] [] fun v8 d9=>
 K [(nx v8 0),(nx v8 1)] [(nxc d9 0),c1]) (
 prP (bnI .lss (nx v1 0) (.int .i64 0)) fun t21_10=>
 AX t21_10 (
 cl2 C 107 BY.sg [(.int .i64 3)] [] fun v11 d12=>
 K [(nx v11 0),(nx v11 1)] [(nxc d12 0),c1]) (
 ixW (cnt 2 c1) (nx v1 0) fun t30_13=>
 stg c1 [] ((AA t30_13)*2) [T.c (.bool true),T.c a0] fun k14=>
 K [(.int .i64 0),(nx v1 0)] [[],k14]))
theorem EH.cl2 {w0:World} {a0:Value} {c0 c1 c2 c3:List T} {K:J2} (h:EH.txt ⟨Try.prog,w0⟩ a0 c0 c1 c2 c3 K):Eng.cl2 ⟨Try.prog,w0⟩ 147 EH.sg [a0] [c0,c1,c2,c3] K:=
 AU (C:=⟨Try.prog,w0⟩) (f:=147) (fn:=Try.f147) [(165,FE.sg),(81,BS.sg),(107,BY.sg)] [] [] Try.func147 (by kernel_rfl) (by kernel_rfl) (by kernel_rfl) h
def DH.sg:Sg:=⟨[(2,[.t 8 0, .t 2 2, .t 1 0, .t 1 0]),(0,[.v]),(0,[.v])],[(1,[.v, .v, .t 1])],[[.a 0, .t 2, .a 2, .a 3]]⟩
def DH.txt (C:Ctx) (a0 a1:Value) (c0 c1 c2 c3:List T) (K:J2):Prop:=
 prP (bnI .sub (iv (cnt 2 c1)) (.int .i64 1)) fun t13_1=>
 cl2 C 131 C4.sg [a1,(.int .i64 0),t13_1] [] fun v2 d3=>
 prP (un .not (nx v2 0)) fun t15_5=>
 gE t15_5 (
 gE t15_5 (
 gE t15_5 (
 gE t15_5 (
 gE t15_5 (
 gP t15_5 false (ixW (cnt 2 c1) a1) fun t22_6=>
 gE t15_5 (
 gP t15_5 false (ldc c1 [] ((AA t22_6)*2)) fun t24_7=>
 gP t15_5 false (prP (un .not t24_7)) fun t25_8=>
 prP (pk t15_5 (.bool true) t25_8) fun t26_9=>
 AX t26_9 (
 cl2 C 107 BY.sg [(.int .i64 2)] [] fun v10 d11=>
 K [(nx v10 0),(nx v10 1)] [(nxc d11 0),c1]) (
 prP (bnI .eql a0 (.int .i64 9)) fun t29_12=>
 AX t29_12 (
 ixW (cnt 2 c1) a1 fun t36_13=>
 stg c1 [] ((AA t36_13)*2) [T.c (.bool false),T.c (.int .i64 0)] fun k14=>
 K [(.int .i64 0),(.int .i64 0)] [[],k14]) (
 ixW (cnt 2 c1) a1 fun t46_15=>
 ldc c1 [] (((AA t46_15)*2)+1) fun t48_16=>
 cl2 C 81 BS.sg [t48_16] [c0,c1,c2,c3] fun v17 d18=>
 prP (bnI .lss (nx v17 0) (.int .i64 0)) fun t50_20=>
 AX t50_20 (
 K [(.int .i64 0),(.int .i64 (-1))] [[],c1]) (
 ixW (cnt 2 c1) a1 fun t57_21=>
 ldc c1 [] (((AA t57_21)*2)+1) fun t59_22=>
 K [(.int .i64 0),t59_22] [[],c1])))))))))
theorem DH.cl2 {w0:World} {a0 a1:Value} {c0 c1 c2 c3:List T} {K:J2} (h:DH.txt ⟨Try.prog,w0⟩ a0 a1 c0 c1 c2 c3 K):Eng.cl2 ⟨Try.prog,w0⟩ 148 DH.sg [a0,a1] [c0,c1,c2,c3] K:=
 AU (C:=⟨Try.prog,w0⟩) (f:=148) (fn:=Try.f148) [(131,C4.sg),(107,BY.sg),(81,BS.sg)] [(6,[0,1,3,0,8,24,56,0,248,504,1016,2047,4095])] [] Try.func148 (by kernel_rfl) (by kernel_rfl) (by kernel_rfl) h
def EG.sg:Sg:=⟨[(0,[.t 1 0])],[(0,[.t 1])],[]⟩
def EG.txt (C:Ctx) (c0:List T) (K:J2):Prop:=
 apW c0 true 0 (cnt 1 c0) 16 (
 K [] [([]++c0)])
theorem EG.cl2 {w0:World} {c0:List T} {K:J2} (h:EG.txt ⟨Try.prog,w0⟩ c0 K):Eng.cl2 ⟨Try.prog,w0⟩ 142 EG.sg [] [c0] K:=
 AU (C:=⟨Try.prog,w0⟩) (f:=142) (fn:=Try.f142) [] [] [] Try.func142 (by kernel_rfl) (by kernel_rfl) (by kernel_rfl) h
def DO.sg:Sg:=⟨[(1,[.t 8 0, .t 2 0, .t 1 0, .t 1 0])],[(1,[.t 8, .t 2, .t 1, .t 1])],[]⟩
def DO.txt (C:Ctx) (c0 c1 c2 c3:List T) (K:J2):Prop:=
 apW c1 true 0 (cnt 2 c1) 16 (
 cl2 C 141 CN.sg [] [c2] fun v1 d2=>
 cl2 C 142 EG.sg [] [c3] fun v3 d4=>
 BN (fun r7 x5 k6=>
 prP (bnI .lss (nx x5 1) (nx x5 0)) fun t20_16=>
 AX t20_16 (
 ixW (cnt 8 c0) (nx x5 1) fun t21_17=>
 ldg c0 [] ((AA t21_17)*8) [.c, .c, .c, .c, .c, .c, .l 1, .c] fun ts18=>
 cl2 C 141 CN.sg [] [(GL c0 [(((AA t21_17)*8)+6)])] fun v19 d20=>
 apW [T.c (tv (nxT ts18 0)),T.c (tv (nxT ts18 1)),T.c (tv (nxT ts18 2)),T.c (tv (nxT ts18 3)),T.c (tv (nxT ts18 4)),T.c (tv (nxT ts18 5)),T.l 1 (nxc d20 0),T.c (tv (nxT ts18 7))] false (cnt 8 (nxc k6 0)) (cnt 8 [T.c (tv (nxT ts18 0)),T.c (tv (nxT ts18 1)),T.c (tv (nxT ts18 2)),T.c (tv (nxT ts18 3)),T.c (tv (nxT ts18 4)),T.c (tv (nxT ts18 5)),T.l 1 (nxc d20 0),T.c (tv (nxT ts18 7))]) 80 (
 prP (bnI .add (nx x5 1) (.int .i64 1)) fun t33_21=>
 r7 [(nx x5 0),t33_21] [((nxc k6 0)++[T.c (tv (nxT ts18 0)),T.c (tv (nxT ts18 1)),T.c (tv (nxT ts18 2)),T.c (tv (nxT ts18 3)),T.c (tv (nxT ts18 4)),T.c (tv (nxT ts18 5)),T.l 1 (nxc d20 0),T.c (tv (nxT ts18 7))]),(nxc k6 1),(nxc k6 2),(nxc k6 3)])) (
 K [] [(nxc k6 0),(nxc k6 1),(nxc k6 2),(nxc k6 3)])) [(iv (cnt 8 c0)),(.int .i64 0)] [[],([]++c1),(nxc d2 0),(nxc d4 0)])
theorem DO.cl2 {w0:World} {c0 c1 c2 c3:List T} {K:J2} (h:DO.txt ⟨Try.prog,w0⟩ c0 c1 c2 c3 K):Eng.cl2 ⟨Try.prog,w0⟩ 97 DO.sg [] [c0,c1,c2,c3] K:=
 AU (C:=⟨Try.prog,w0⟩) (f:=97) (fn:=Try.f97) [(141,CN.sg),(142,EG.sg)] [(1,[0,1,3,0,8,31,0,64,255,511,0,2047])] [(58,⟨[.p (.j 0) 0, .p (.j 1) 0, .t (.f 0) 8, .v, .v],[],[.bx [.z, .z, .z, .z], .bx [.t (.j 2) 8, .t (.j 3) 2, .t (.j 4) 1, .t (.j 5) 1], .ls, .ls, .ls, .ls]⟩)] Try.func97 (by kernel_rfl) (by kernel_rfl) (by kernel_rfl) h
def FA.sg:Sg:=⟨[(1,[.t 8 0, .t 2 0, .t 1 0, .t 1 0])],[(1,[.t 1, .t 1])],[]⟩
def FA.txt (C:Ctx) (c0 c1 c2 c3:List T) (K:J2):Prop:=
 BN (fun r3 x1 k2=>
 prP (bnI .lss (nx x1 1) (nx x1 0)) fun t10_15=>
 AX t10_15 (
 BV (fun x17 k18=>
 prP (bnI .add (nx x17 1) (.int .i64 1)) fun t28_23=>
 r3 [(nx x17 0),t28_23] [(nxc k18 0),(nxc k18 1)]) fun j19=>
 ixW (cnt 8 c0) (nx x1 1) fun t12_20=>
 ldg c0 [] ((AA t12_20)*8) [.c, .c, .c, .c, .c, .c, .l 1, .c] fun ts21=>
 prP (bnI .lss (nx x1 1) (.int .i64 8)) fun t15_22=>
 AX t15_22 (
 apW [T.c (tv (nxT ts21 5))] true (cnt 1 (nxc k2 0)) (cnt 1 [T.c (tv (nxT ts21 5))]) 8 (
 apW [T.c (.int .i64 0)] true (cnt 1 (nxc k2 1)) (cnt 1 [T.c (.int .i64 0)]) 8 (
 j19 [(nx x1 0),(nx x1 1)] [((nxc k2 0)++[T.c (tv (nxT ts21 5))]),((nxc k2 1)++[T.c (.int .i64 0)])]))) (
 j19 [(nx x1 0),(nx x1 1)] [(nxc k2 0),(nxc k2 1)])) (
 K [] [(nxc k2 0),(nxc k2 1)])) [(iv (cnt 8 c0)),(.int .i64 0)] [[],[]]
theorem FA.cl2 {w0:World} {c0 c1 c2 c3:List T} {K:J2} (h:FA.txt ⟨Try.prog,w0⟩ c0 c1 c2 c3 K):Eng.cl2 ⟨Try.prog,w0⟩ 56 FA.sg [] [c0,c1,c2,c3] K:=
 AU (C:=⟨Try.prog,w0⟩) (f:=56) (fn:=Try.f56) [] [] [(467,⟨[.p (.j 0) 0, .p (.j 1) 0, .t (.f 0) 8, .v, .v],[],[.bx [.z, .z], .bx [.t (.j 2) 1, .t (.j 3) 1], .ls, .ls]⟩),(58,⟨[.p (.j 0) 0, .p (.j 1) 0, .t (.f 0) 8, .v, .v],[],[.bx [.z, .z], .bx [.t (.j 2) 1, .t (.j 3) 1], .ls, .ls]⟩)] Try.func56 (by kernel_rfl) (by kernel_rfl) (by kernel_rfl) h
def C9.sg:Sg:=⟨[(1,[.t 1 0, .t 1 0])],[(1,[.t 1, .t 1])],[]⟩
def C9.txt (C:Ctx) (c0 c1:List T) (K:J2):Prop:=
 cl2 C 141 CN.sg [] [c0] fun v1 d2=>
 cl2 C 141 CN.sg [] [c1] fun v3 d4=>
 K [] [(nxc d2 0),(nxc d4 0)]
theorem C9.cl2 {w0:World} {c0 c1:List T} {K:J2} (h:C9.txt ⟨Try.prog,w0⟩ c0 c1 K):Eng.cl2 ⟨Try.prog,w0⟩ 114 C9.sg [] [c0,c1] K:=
 AU (C:=⟨Try.prog,w0⟩) (f:=114) (fn:=Try.f114) [(141,CN.sg)] [(1,[0,1,3,0,8,31,63,127])] [] Try.func114 (by kernel_rfl) (by kernel_rfl) (by kernel_rfl) h
def FM.sg:Sg:=⟨[(1,[.t 8 0, .t 2 0, .t 1 0, .t 1 0]),(1,[.t 1 0, .t 1 0]),(0,[.v])],[(0,[.v])],[]⟩
def FM.txt (C:Ctx) (a0:Value) (c0 c1 c2 c3 c4 c5:List T) (K:J2):Prop:=
 prP (bnI .eql (iv (cnt 8 c0)) (.int .i64 8)) fun t10_1=>
 gE t10_1 (
 gE t10_1 (
 gE t10_1 (
 gP t10_1 true (prP (bnI .eql (iv (cnt 1 c4)) (.int .i64 8))) fun t15_2=>
 prP (pk t10_1 t15_2 (.bool false)) fun t16_3=>
 gE t16_3 (
 gE t16_3 (
 gE t16_3 (
 gP t16_3 true (prP (bnI .eql (iv (cnt 1 c5)) (.int .i64 8))) fun t21_4=>
 prP (pk t16_3 t21_4 (.bool false)) fun t22_5=>
 gE t22_5 (
 gP t22_5 true ((fun K=>cl2 C 131 C4.sg [a0,(.int .i64 0),(.int .i64 7)] [] fun v6 d7=>K (nx v6 0))) fun t25_8=>
 prP (pk t22_5 t25_8 (.bool false)) fun t26_9=>
 gE t26_9 (
 gE t26_9 (
 gE t26_9 (
 gP t26_9 true (ixW (cnt 8 c0) a0) fun t31_10=>
 gE t26_9 (
 gP t26_9 true (ldc c0 [] ((AA t31_10)*8)) fun t33_11=>
 prP (pk t26_9 t33_11 (.bool false)) fun t34_12=>
 K [t34_12] [])))))))))))
theorem FM.cl2 {w0:World} {a0:Value} {c0 c1 c2 c3 c4 c5:List T} {K:J2} (h:FM.txt ⟨Try.prog,w0⟩ a0 c0 c1 c2 c3 c4 c5 K):Eng.cl2 ⟨Try.prog,w0⟩ 115 FM.sg [a0] [c0,c1,c2,c3,c4,c5] K:=
 AU (C:=⟨Try.prog,w0⟩) (f:=115) (fn:=Try.f115) [(131,C4.sg)] [] [] Try.func115 (by kernel_rfl) (by kernel_rfl) (by kernel_rfl) h
def EF.sg:Sg:=⟨[(1,[.t 8 0, .t 2 0, .t 1 0, .t 1 0]),(0,[.v])],[(0,[.t 1])],[]⟩
def EF.txt (C:Ctx) (a0:Value) (c0 c1 c2 c3:List T) (K:J2):Prop:=
 ixW (cnt 8 c0) a0 fun t12_1=>
 ldl c0 [] (((AA t12_1)*8)+6) 1 fun t14_2=>
 BN (fun r5 x3 k4=>
 prP (bnI .lss (nx x3 2) (nx x3 1)) fun t17_20=>
 AX t17_20 (
 BV (fun x22 k23=>
 prP (bnI .add (nx x22 2) (.int .i64 1)) fun t29_31=>
 r5 [(iv (AA (nx x22 0))),(nx x22 1),t29_31] [(nxc k23 0)]) fun j24=>
 ixW (cnt 1 (GL c0 [(AA (nx x3 0))])) (nx x3 2) fun t18_25=>
 ldc c0 [(AA (nx x3 0))] ((AA t18_25)*1) fun t19_26=>
 cl2 C 81 BS.sg [t19_26] [c0,c1,c2,c3] fun v27 d28=>
 prP (bnI .geq (nx v27 0) (.int .i64 0)) fun t24_30=>
 AX t24_30 (
 apW [T.c (nx v27 0)] true (cnt 1 (nxc k4 0)) (cnt 1 [T.c (nx v27 0)]) 8 (
 j24 [(iv (AA (nx x3 0))),(nx x3 1),(nx x3 2)] [((nxc k4 0)++[T.c (nx v27 0)])])) (
 j24 [(iv (AA (nx x3 0))),(nx x3 1),(nx x3 2)] [(nxc k4 0)])) (
 K [] [(nxc k4 0)])) [(iv (((AA t12_1)*8)+6)),(iv (cnt 1 (GL c0 [(((AA t12_1)*8)+6)]))),(.int .i64 0)] [[]]
theorem EF.cl2 {w0:World} {a0:Value} {c0 c1 c2 c3:List T} {K:J2} (h:EF.txt ⟨Try.prog,w0⟩ a0 c0 c1 c2 c3 K):Eng.cl2 ⟨Try.prog,w0⟩ 118 EF.sg [a0] [c0,c1,c2,c3] K:=
 AU (C:=⟨Try.prog,w0⟩) (f:=118) (fn:=Try.f118) [(81,BS.sg)] [] [(467,⟨[.p (.j 0) 0, .t (.j 1) 1, .n (.f 0) 1 1, .v, .v],[],[.bx [.t (.f 0) 8, .t (.f 1) 2, .t (.f 2) 1, .t (.f 3) 1], .ls]⟩),(58,⟨[.p (.j 0) 0, .t (.j 1) 1, .n (.f 0) 1 1, .v, .v],[],[.bx [.t (.f 0) 8, .t (.f 1) 2, .t (.f 2) 1, .t (.f 3) 1], .ls]⟩)] Try.func118 (by kernel_rfl) (by kernel_rfl) (by kernel_rfl) h
def B6.sg:Sg:=⟨[(2,[.t 1 2, .t 1 2]),(1,[.t 8 0, .t 2 0, .t 1 0, .t 1 0]),(0,[.v]),(0,[.v]),(0,[.v])],[],[[.t 1, .t 1]]⟩
def B6.txt (C:Ctx) (a0 a1 a2:Value) (c0 c1 c2 c3 c4 c5:List T) (K:J2):Prop:=
 ixW (cnt 1 c1) a0 fun t17_1=>
 ldc c1 [] ((AA t17_1)*1) fun t18_2=>
 prP (bnI .eql t18_2 a1) fun t20_3=>
 AX t20_3 (
 K [] [c0,c1]) (
 ixW (cnt 1 c1) a0 fun t27_4=>
 stc c1 [] ((AA t27_4)*1) a1 fun k5=>
 cl2 C 118 EF.sg [a0] [c2,c3,c4,c5] fun v6 d7=>
 BN (fun r10 x8 k9=>
 prP (bnI .lss (nx x8 3) (nx x8 2)) fun t33_12=>
 AX t33_12 (
 ixW (cnt 1 (nxc k9 0)) (nx x8 3) fun t34_13=>
 ldc (nxc k9 0) [] ((AA t34_13)*1) fun t35_14=>
 ixW (cnt 1 (nxc k9 1)) t35_14 fun t41_15=>
 ldc (nxc k9 1) [] ((AA t41_15)*1) fun t42_16=>
 prP (bnI .add t42_16 (nx x8 1)) fun t44_17=>
 ixW (cnt 1 (nxc k9 1)) t35_14 fun t45_18=>
 stc (nxc k9 1) [] ((AA t45_18)*1) t44_17 fun k19=>
 cl2 C 116 B6.sg [t35_14,(nx x8 0),(nx x8 1)] [k19,(nxc k9 2),c2,c3,c4,c5] fun v20 d21=>
 prP (bnI .add (nx x8 3) (.int .i64 1)) fun t52_22=>
 r10 [(nx x8 0),(nx x8 1),(nx x8 2),t52_22] [(nxc k9 0),(nxc d21 0),(nxc d21 1)]) (
 K [] [(nxc k9 1),(nxc k9 2)])) [a1,a2,(iv (cnt 1 (nxc d7 0))),(.int .i64 0)] [(nxc d7 0),c0,k5])
theorem B6.cl2 {w0:World} {a0 a1 a2:Value} {c0 c1 c2 c3 c4 c5:List T} {K:J2} (h:B6.txt ⟨Try.prog,w0⟩ a0 a1 a2 c0 c1 c2 c3 c4 c5 K):Eng.cl2 ⟨Try.prog,w0⟩ 116 B6.sg [a0,a1,a2] [c0,c1,c2,c3,c4,c5] K:=
 AU (C:=⟨Try.prog,w0⟩) (f:=116) (fn:=Try.f116) [(118,EF.sg),(116,B6.sg)] [] [(62,⟨[.p (.j 0) 0, .v, .v, .p (.j 1) 0, .t (.j 2) 1, .v, .v],[.p (.j 0) 0],[.bx [.t (.j 3) 1, .t (.j 4) 1], .bx [.t (.f 0) 8, .t (.f 1) 2, .t (.f 2) 1, .t (.f 3) 1], .ls, .ls, .ls]⟩)] Try.func116 (by kernel_rfl) (by kernel_rfl) (by kernel_rfl) h
def FG.sg:Sg:=⟨[(1,[.t 8 0, .t 2 0, .t 1 0, .t 1 0]),(1,[.t 1 0, .t 1 0]),(0,[.v])],[(1,[.t 1, .t 1])],[]⟩
def FG.txt (C:Ctx) (a0:Value) (c0 c1 c2 c3 c4 c5:List T) (K:J2):Prop:=
 cl2 C 114 C9.sg [] [c4,c5] fun v1 d2=>
 BV (fun x4 k5=>
 K [] [(nxc k5 0),(nxc k5 1)]) fun j6=>
 cl2 C 115 FM.sg [a0] [c0,c1,c2,c3,c4,c5] fun v7 d8=>
 AX (nx v7 0) (
 cl2 C 116 B6.sg [a0,(.int .i64 1),(.int .i64 (-1))] [(nxc d2 0),(nxc d2 1),c0,c1,c2,c3] fun v10 d11=>
 j6 [] [(nxc d11 0),(nxc d11 1)]) (
 j6 [] [(nxc d2 0),(nxc d2 1)])
theorem FG.cl2 {w0:World} {a0:Value} {c0 c1 c2 c3 c4 c5:List T} {K:J2} (h:FG.txt ⟨Try.prog,w0⟩ a0 c0 c1 c2 c3 c4 c5 K):Eng.cl2 ⟨Try.prog,w0⟩ 57 FG.sg [a0] [c0,c1,c2,c3,c4,c5] K:=
 AU (C:=⟨Try.prog,w0⟩) (f:=57) (fn:=Try.f57) [(114,C9.sg),(115,FM.sg),(116,B6.sg)] [] [(7,⟨[.p (.j 0) 0, .p (.j 1) 0],[],[.bx [.z, .z], .bx [.t (.j 2) 1, .t (.j 3) 1], .ls, .ls]⟩)] Try.func57 (by kernel_rfl) (by kernel_rfl) (by kernel_rfl) h
def CF.sg:Sg:=⟨[(2,[.t 1 2, .t 1 2]),(1,[.t 8 0, .t 2 0, .t 1 0, .t 1 0]),(0,[.v])],[],[[.t 1, .t 1]]⟩
def CF.txt (C:Ctx) (a0:Value) (c0 c1 c2 c3 c4 c5:List T) (K:J2):Prop:=
 ixW (cnt 1 c1) a0 fun t13_1=>
 ldc c1 [] ((AA t13_1)*1) fun t14_2=>
 prP (bnI .neq t14_2 (.int .i64 1)) fun t15_3=>
 AX t15_3 (
 K [] [c0,c1]) (
 ixW (cnt 1 c0) a0 fun t21_4=>
 ldc c0 [] ((AA t21_4)*1) fun t22_5=>
 prP (bnI .gtr t22_5 (.int .i64 0)) fun t23_6=>
 AX t23_6 (
 cl2 C 116 B6.sg [a0,(.int .i64 0),(.int .i64 1)] [c0,c1,c2,c3,c4,c5] fun v7 d8=>
 K [] [(nxc d8 0),(nxc d8 1)]) (
 ixW (cnt 1 c1) a0 fun t33_9=>
 stc c1 [] ((AA t33_9)*1) (.int .i64 2) fun k10=>
 cl2 C 118 EF.sg [a0] [c2,c3,c4,c5] fun v11 d12=>
 BN (fun r15 x13 k14=>
 prP (bnI .lss (nx x13 1) (nx x13 0)) fun t39_17=>
 AX t39_17 (
 ixW (cnt 1 (nxc k14 0)) (nx x13 1) fun t40_18=>
 ldc (nxc k14 0) [] ((AA t40_18)*1) fun t41_19=>
 cl2 C 117 CF.sg [t41_19] [(nxc k14 1),(nxc k14 2),c2,c3,c4,c5] fun v20 d21=>
 prP (bnI .add (nx x13 1) (.int .i64 1)) fun t46_22=>
 r15 [(nx x13 0),t46_22] [(nxc k14 0),(nxc d21 0),(nxc d21 1)]) (
 K [] [(nxc k14 1),(nxc k14 2)])) [(iv (cnt 1 (nxc d12 0))),(.int .i64 0)] [(nxc d12 0),c0,k10]))
theorem CF.cl2 {w0:World} {a0:Value} {c0 c1 c2 c3 c4 c5:List T} {K:J2} (h:CF.txt ⟨Try.prog,w0⟩ a0 c0 c1 c2 c3 c4 c5 K):Eng.cl2 ⟨Try.prog,w0⟩ 117 CF.sg [a0] [c0,c1,c2,c3,c4,c5] K:=
 AU (C:=⟨Try.prog,w0⟩) (f:=117) (fn:=Try.f117) [(116,B6.sg),(118,EF.sg),(117,CF.sg)] [] [(126,⟨[.p (.j 0) 0, .p (.j 1) 0, .t (.j 2) 1, .v, .v],[.p (.j 0) 0],[.bx [.t (.j 3) 1, .t (.j 4) 1], .bx [.t (.f 0) 8, .t (.f 1) 2, .t (.f 2) 1, .t (.f 3) 1], .ls, .ls, .ls]⟩)] Try.func117 (by kernel_rfl) (by kernel_rfl) (by kernel_rfl) h
def FB.sg:Sg:=⟨[(1,[.t 8 0, .t 2 0, .t 1 0, .t 1 0]),(1,[.t 1 0, .t 1 0]),(0,[.v])],[(1,[.t 1, .t 1])],[]⟩
def FB.txt (C:Ctx) (a0:Value) (c0 c1 c2 c3 c4 c5:List T) (K:J2):Prop:=
 cl2 C 114 C9.sg [] [c4,c5] fun v1 d2=>
 BV (fun x4 k5=>
 K [] [(nxc k5 0),(nxc k5 1)]) fun j6=>
 cl2 C 115 FM.sg [a0] [c0,c1,c2,c3,c4,c5] fun v7 d8=>
 AX (nx v7 0) (
 cl2 C 117 CF.sg [a0] [(nxc d2 0),(nxc d2 1),c0,c1,c2,c3] fun v10 d11=>
 j6 [] [(nxc d11 0),(nxc d11 1)]) (
 j6 [] [(nxc d2 0),(nxc d2 1)])
theorem FB.cl2 {w0:World} {a0:Value} {c0 c1 c2 c3 c4 c5:List T} {K:J2} (h:FB.txt ⟨Try.prog,w0⟩ a0 c0 c1 c2 c3 c4 c5 K):Eng.cl2 ⟨Try.prog,w0⟩ 59 FB.sg [a0] [c0,c1,c2,c3,c4,c5] K:=
 AU (C:=⟨Try.prog,w0⟩) (f:=59) (fn:=Try.f59) [(114,C9.sg),(115,FM.sg),(117,CF.sg)] [] [(7,⟨[.p (.j 0) 0, .p (.j 1) 0],[],[.bx [.z, .z], .bx [.t (.j 2) 1, .t (.j 3) 1], .ls, .ls]⟩)] Try.func59 (by kernel_rfl) (by kernel_rfl) (by kernel_rfl) h
def GV.sg:Sg:=⟨[(1,[.t 1 0, .t 1 0])],[(0,[.t 1])],[]⟩
def GV.txt (C:Ctx) (c0 c1:List T) (K:J2):Prop:=
 BN (fun r3 x1 k2=>
 prP (bnI .lss (nx x1 1) (nx x1 0)) fun t10_15=>
 AX t10_15 (
 BV (fun x17 k18=>
 prP (bnI .add (nx x17 1) (.int .i64 1)) fun t20_23=>
 r3 [(nx x17 0),t20_23] [(nxc k18 0)]) fun j19=>
 ixW (cnt 1 c1) (nx x1 1) fun t12_20=>
 ldc c1 [] ((AA t12_20)*1) fun t13_21=>
 prP (bnI .eql t13_21 (.int .i64 2)) fun t15_22=>
 AX t15_22 (
 apW [T.c (nx x1 1)] true (cnt 1 (nxc k2 0)) (cnt 1 [T.c (nx x1 1)]) 8 (
 j19 [(nx x1 0),(nx x1 1)] [((nxc k2 0)++[T.c (nx x1 1)])])) (
 j19 [(nx x1 0),(nx x1 1)] [(nxc k2 0)])) (
 K [] [(nxc k2 0)])) [(iv (cnt 1 c1)),(.int .i64 0)] [[]]
theorem GV.cl2 {w0:World} {c0 c1:List T} {K:J2} (h:GV.txt ⟨Try.prog,w0⟩ c0 c1 K):Eng.cl2 ⟨Try.prog,w0⟩ 60 GV.sg [] [c0,c1] K:=
 AU (C:=⟨Try.prog,w0⟩) (f:=60) (fn:=Try.f60) [] [] [(467,⟨[.t (.j 0) 1, .t (.f 1) 1, .v, .v],[],[.ls]⟩),(58,⟨[.t (.j 0) 1, .t (.f 1) 1, .v, .v],[],[.ls]⟩)] Try.func60 (by kernel_rfl) (by kernel_rfl) (by kernel_rfl) h
def DJ.sg:Sg:=⟨[(1,[.t 8 0, .t 2 0, .t 1 0, .t 1 0]),(0,[.v])],[(0,[.v])],[]⟩
def DJ.txt (C:Ctx) (a0:Value) (c0 c1 c2 c3:List T) (K:J2):Prop:=
 prP (bnI .sub (iv (cnt 8 c0)) (.int .i64 1)) fun t15_1=>
 cl2 C 131 C4.sg [a0,(.int .i64 0),t15_1] [] fun v2 d3=>
 prP (un .not (nx v2 0)) fun t17_5=>
 gE t17_5 (
 gE t17_5 (
 gE t17_5 (
 gP t17_5 false (ixW (cnt 8 c0) a0) fun t22_6=>
 gE t17_5 (
 gP t17_5 false (ldc c0 [] ((AA t22_6)*8)) fun t24_7=>
 gP t17_5 false (prP (un .not t24_7)) fun t25_8=>
 prP (pk t17_5 (.bool true) t25_8) fun t26_9=>
 AX t26_9 (
 K [(.int .i64 0)] []) (
 ixW (cnt 8 c0) a0 fun t31_10=>
 ldc c0 [] (((AA t31_10)*8)+1) fun t33_11=>
 cl2 C 98 DY.sg [a0,t33_11] [] fun v12 d13=>
 BN (fun r17 x15 k16=>
 prP (bnI .lss (nx x15 3) (nx x15 2)) fun t39_19=>
 AX t39_19 (
 ixW (cnt 8 c0) (nx x15 3) fun t40_20=>
 ldg c0 [] ((AA t40_20)*8) [.c, .c, .c, .c, .c, .c, .l 1, .c] fun ts21=>
 BN (fun r24 x22 k23=>
 prP (bnI .lss (nx x22 6) (nx x22 5)) fun t46_26=>
 AX t46_26 (
 BV (fun x28 k29=>
 prP (bnI .add (nx x28 6) (.int .i64 1)) fun t58_36=>
 r24 [(nx x28 0),(nx x28 1),(nx x28 2),(nx x28 3),(iv (AA (nx x28 4))),(nx x28 5),t58_36,(nx x28 7),(nx x28 8),(nx x28 9),(nx x28 10),(nx x28 11),(nx x28 12),(iv (AA (nx x28 13))),(nx x28 14)] []) fun j30=>
 ixW (cnt 1 (GL c0 [(AA (nx x22 4))])) (nx x22 6) fun t47_31=>
 ldc c0 [(AA (nx x22 4))] ((AA t47_31)*1) fun t48_32=>
 gE (nx x22 7) (
 gE (nx x22 7) (
 gP (nx x22 7) true (prP (bnI .eql t48_32 (nx x22 0))) fun t54_33=>
 prP (pk (nx x22 7) t54_33 (.bool false)) fun t55_34=>
 AX t55_34 (
 prP (bnI .add (nx x22 1) (.int .i64 1)) fun t57_35=>
 j30 [(nx x22 0),t57_35,(nx x22 2),(nx x22 3),(iv (AA (nx x22 4))),(nx x22 5),(nx x22 6),(nx x22 7),(nx x22 8),(nx x22 9),(nx x22 10),(nx x22 11),(nx x22 12),(iv (AA (nx x22 13))),(nx x22 14)] []) (
 j30 [(nx x22 0),(nx x22 1),(nx x22 2),(nx x22 3),(iv (AA (nx x22 4))),(nx x22 5),(nx x22 6),(nx x22 7),(nx x22 8),(nx x22 9),(nx x22 10),(nx x22 11),(nx x22 12),(iv (AA (nx x22 13))),(nx x22 14)] [])))) (
 prP (bnI .add (nx x22 3) (.int .i64 1)) fun t59_37=>
 r17 [(nx x22 0),(nx x22 1),(nx x22 2),t59_37] [])) [(nx x15 0),(nx x15 1),(nx x15 2),(nx x15 3),(iv (((AA t40_20)*8)+6)),(iv (cnt 1 (GL c0 [(((AA t40_20)*8)+6)]))),(.int .i64 0),(tv (nxT ts21 0)),(tv (nxT ts21 1)),(tv (nxT ts21 2)),(tv (nxT ts21 3)),(tv (nxT ts21 4)),(tv (nxT ts21 5)),(iv (((AA t40_20)*8)+6)),(tv (nxT ts21 7))] []) (
 K [(nx x15 1)] [])) [(nx v12 0),(.int .i64 0),(iv (cnt 8 c0)),(.int .i64 0)] [])))))
theorem DJ.cl2 {w0:World} {a0:Value} {c0 c1 c2 c3:List T} {K:J2} (h:DJ.txt ⟨Try.prog,w0⟩ a0 c0 c1 c2 c3 K):Eng.cl2 ⟨Try.prog,w0⟩ 100 DJ.sg [a0] [c0,c1,c2,c3] K:=
 AU (C:=⟨Try.prog,w0⟩) (f:=100) (fn:=Try.f100) [(131,C4.sg),(98,DY.sg)] [] [(512819,⟨[.v, .v, .p (.j 0) 0, .t (.f 0) 8, .v, .v, .n (.f 0) 1 1, .v, .v],[],[.bx [.v, .v, .v, .v, .v, .v, .n (.f 0) 1 1, .v]]⟩),(64102,⟨[.v, .v, .p (.j 0) 0, .t (.f 0) 8, .v, .v, .n (.f 0) 1 1, .v, .v],[],[.bx [.v, .v, .v, .v, .v, .v, .n (.f 0) 1 1, .v]]⟩),(250,⟨[.v, .v, .t (.f 0) 8, .v, .v],[],[]⟩)] Try.func100 (by kernel_rfl) (by kernel_rfl) (by kernel_rfl) h
def F5.sg:Sg:=⟨[(1,[.t 8 0, .t 2 0, .t 1 0, .t 1 0])],[(1,[.t 8, .t 2, .t 1, .t 1]),(0,[.t 1])],[]⟩
def F5.txt (C:Ctx) (c0 c1 c2 c3:List T) (K:J2):Prop:=
 cl2 C 97 DO.sg [] [c0,c1,c2,c3] fun v1 d2=>
 prP (bnI .neq (iv (cnt 8 c0)) (.int .i64 8)) fun t20_3=>
 AX t20_3 (
 K [] [(nxc d2 0),(nxc d2 1),(nxc d2 2),(nxc d2 3),[]]) (
 cl2 C 56 FA.sg [] [c0,c1,c2,c3] fun v4 d5=>
 BN (fun r8 x6 k7=>
 prP (bnI .lss (nx x6 1) (nx x6 0)) fun t28_10=>
 AX t28_10 (
 ixW (cnt 1 c2) (nx x6 1) fun t29_11=>
 ldc c2 [] ((AA t29_11)*1) fun t30_12=>
 cl2 C 81 BS.sg [t30_12] [c0,c1,c2,c3] fun v13 d14=>
 cl2 C 57 FG.sg [(nx v13 0)] [c0,c1,c2,c3,(nxc k7 4),(nxc k7 5)] fun v16 d17=>
 prP (bnI .add (nx x6 1) (.int .i64 1)) fun t37_18=>
 r8 [(nx x6 0),t37_18] [(nxc k7 0),(nxc k7 1),(nxc k7 2),(nxc k7 3),(nxc d17 0),(nxc d17 1)]) (
 BN (fun r21 x19 k20=>
 prP (bnI .lss (nx x19 1) (nx x19 0)) fun t42_23=>
 AX t42_23 (
 ixW (cnt 1 c2) (nx x19 1) fun t43_24=>
 ldc c2 [] ((AA t43_24)*1) fun t44_25=>
 cl2 C 81 BS.sg [t44_25] [c0,c1,c2,c3] fun v26 d27=>
 cl2 C 59 FB.sg [(nx v26 0)] [c0,c1,c2,c3,(nxc k20 4),(nxc k20 5)] fun v29 d30=>
 prP (bnI .add (nx x19 1) (.int .i64 1)) fun t51_31=>
 r21 [(nx x19 0),t51_31] [(nxc k20 0),(nxc k20 1),(nxc k20 2),(nxc k20 3),(nxc d30 0),(nxc d30 1)]) (
 cl2 C 60 GV.sg [] [(nxc k20 4),(nxc k20 5)] fun v32 d33=>
 BN (fun r36 x34 k35=>
 prP (bnI .lss (nx x34 1) (nx x34 0)) fun t56_75=>
 AX t56_75 (
 ixW (cnt 1 (nxc k35 1)) (nx x34 1) fun t57_76=>
 ldc (nxc k35 1) [] ((AA t57_76)*1) fun t58_77=>
 ixW (cnt 8 c0) t58_77 fun t64_78=>
 ldc c0 [] (((AA t64_78)*8)+1) fun t66_79=>
 cl2 C 98 DY.sg [t58_77,t66_79] [] fun v80 d81=>
 apW [T.c (nx v80 0)] true (cnt 1 (nxc k35 0)) (cnt 1 [T.c (nx v80 0)]) 8 (
 ixW (cnt 8 c0) t58_77 fun t76_83=>
 ldc c0 [] (((AA t76_83)*8)+1) fun t78_84=>
 cl2 C 99 H2.sg [t78_84] [] fun v85 d86=>
 ixW (cnt 8 (nxc k35 2)) t58_77 fun t80_87=>
 stg (nxc k35 2) [] ((AA t80_87)*8) [T.c (nx v85 0),T.c (nx v85 1),T.c (nx v85 2),T.c (nx v85 3),T.c (nx v85 4),T.c (nx v85 5),T.l 1 (nxc d86 0),T.c (nx v85 6)] fun k88=>
 prP (bnI .add (nx x34 1) (.int .i64 1)) fun t81_89=>
 r36 [(nx x34 0),t81_89] [((nxc k35 0)++[T.c (nx v80 0)]),(nxc k35 1),k88,(nxc k35 3),(nxc k35 4),(nxc k35 5)])) (
 BN (fun r92 x90 k91=>
 prP (bnI .lss (nx x90 1) (nx x90 0)) fun t86_94=>
 AX t86_94 (
 BV (fun x96 k97=>
 prP (bnI .add (nx x96 1) (.int .i64 1)) fun t115_110=>
 r92 [(nx x96 0),t115_110] [(nxc k97 0),(nxc k97 1),(nxc k97 2),(nxc k97 3),(nxc k97 4)]) fun j98=>
 ixW (cnt 8 (nxc k91 1)) (nx x90 1) fun t91_99=>
 stc (nxc k91 1) [] (((AA t91_99)*8)+7) (.bool false) fun k100=>
 ldc k100 [] ((AA t91_99)*8) fun t98_101=>
 AX t98_101 (
 ldc k100 [] (((AA t91_99)*8)+3) fun t103_102=>
 ldc k100 [] (((AA t91_99)*8)+4) fun t107_103=>
 prP (bnI .add t103_102 t107_103) fun t108_104=>
 cl2 C 100 DJ.sg [(nx x90 1)] [k100,(nxc k91 2),(nxc k91 3),(nxc k91 4)] fun v105 d106=>
 prP (bnI .add t108_104 (nx v105 0)) fun t112_108=>
 stc k100 [] (((AA t91_99)*8)+5) t112_108 fun k109=>
 j98 [(nx x90 0),(nx x90 1)] [(nxc k91 0),k109,(nxc k91 2),(nxc k91 3),(nxc k91 4)]) (
 j98 [(nx x90 0),(nx x90 1)] [(nxc k91 0),k100,(nxc k91 2),(nxc k91 3),(nxc k91 4)])) (
 K [] [(nxc k91 1),(nxc k91 2),[],(nxc k91 4),(nxc k91 0)])) [(iv (cnt 8 (nxc k35 2))),(.int .i64 0)] [(nxc k35 0),(nxc k35 2),(nxc k35 3),(nxc k35 4),(nxc k35 5)])) [(iv (cnt 1 (nxc d33 0))),(.int .i64 0)] [[],(nxc d33 0),(nxc k20 0),(nxc k20 1),(nxc k20 2),(nxc k20 3)])) [(iv (cnt 1 c2)),(.int .i64 0)] [(nxc k7 0),(nxc k7 1),(nxc k7 2),(nxc k7 3),(nxc k7 4),(nxc k7 5)])) [(iv (cnt 1 c2)),(.int .i64 0)] [(nxc d2 0),(nxc d2 1),(nxc d2 2),(nxc d2 3),(nxc d5 0),(nxc d5 1)])
theorem F5.cl2 {w0:World} {c0 c1 c2 c3:List T} {K:J2} (h:F5.txt ⟨Try.prog,w0⟩ c0 c1 c2 c3 K):Eng.cl2 ⟨Try.prog,w0⟩ 29 F5.sg [] [c0,c1,c2,c3] K:=
 AU (C:=⟨Try.prog,w0⟩) (f:=29) (fn:=Try.f29) [(97,DO.sg),(56,FA.sg),(81,BS.sg),(57,FG.sg),(59,FB.sg),(60,GV.sg),(98,DY.sg),(99,H2.sg),(100,DJ.sg)] [(8,[0,0,0,0,12,31,63]),(13,[0,0,0,0,12,31,63]),(20,[0,1,0,0,8,0,56,120,248,504,1023,2047]),(28,[0,0,2,6,14,0,32,96,224,510,0,0,3072,8190,16383,32767,65535])] [(32723,⟨[.p (.j 0) 0, .p (.j 1) 0, .t (.j 2) 1, .v, .v],[],[.bx [.z, .z, .z, .z], .bx [.t (.j 3) 8, .t (.j 4) 2, .t (.j 5) 1, .t (.j 6) 1], .ls, .ls, .ls, .ls, .ls]⟩),(4090,⟨[.p (.j 0) 0, .p (.j 1) 0, .t (.j 2) 1, .v, .v],[],[.bx [.z, .z, .z, .z], .bx [.t (.j 3) 8, .t (.j 4) 2, .t (.j 5) 1, .t (.j 6) 1], .ls, .ls, .ls, .ls, .ls]⟩),(2042,⟨[.p (.j 0) 0, .p (.j 1) 0, .p (.j 2) 0, .t (.j 3) 1, .t (.j 4) 1, .v, .v],[],[.bx [.t (.f 0) 8, .t (.f 1) 2, .t (.f 2) 1, .t (.f 3) 1], .bx [.z, .z, .z, .z], .bx [.t (.j 5) 8, .t (.j 6) 2, .t (.j 7) 1, .t (.j 8) 1], .ls, .ls, .ls, .ls, .ls, .ls]⟩),(506,⟨[.p (.j 0) 0, .p (.j 1) 0, .p (.j 2) 0, .p (.j 3) 0, .t (.f 2) 1, .v, .v],[],[.bx [.t (.f 0) 8, .t (.f 1) 2, .t (.f 2) 1, .t (.f 3) 1], .bx [.z, .z, .z, .z], .bx [.t (.j 4) 8, .t (.j 5) 2, .t (.j 6) 1, .t (.j 7) 1], .bx [.t (.j 8) 1, .t (.j 9) 1], .ls, .ls, .ls, .ls, .ls, .ls]⟩),(250,⟨[.p (.j 0) 0, .p (.j 1) 0, .p (.j 2) 0, .p (.j 3) 0, .t (.f 2) 1, .v, .v],[],[.bx [.t (.f 0) 8, .t (.f 1) 2, .t (.f 2) 1, .t (.f 3) 1], .bx [.z, .z, .z, .z], .bx [.t (.j 4) 8, .t (.j 5) 2, .t (.j 6) 1, .t (.j 7) 1], .bx [.t (.j 8) 1, .t (.j 9) 1], .ls, .ls, .ls, .ls, .ls, .ls]⟩)] Try.func29 (by kernel_rfl) (by kernel_rfl) (by kernel_rfl) h
def DS.sg:Sg:=⟨[(2,[.t 8 2, .t 2 2, .t 1 2, .t 1 2]),(1,[.v, .v, .v, .v, .v])],[(1,[.v, .v, .t 1])],[[.t 8, .t 2, .t 1, .t 1]]⟩
def DS.txt (C:Ctx) (a0 a1 a2 a3 a4:Value) (c0 c1 c2 c3:List T) (K:J2):Prop:=
 prP (bnI .eql a0 (.int .i64 1)) fun t10_1=>
 AX t10_1 (
 cl2 C 144 DU.sg [a4] [c0,c1,c2,c3] fun v2 d3=>
 K [(nx v2 0),(nx v2 1)] [(nxc d3 0),(nxc d3 1),c1,c2,(nxc d3 2)]) (
 BV (fun x5 k6=>
 AX (nx x5 1) (
 cl2 C 145 C5.sg [(nx x5 2),(nx x5 3)] [(nxc k6 0),(nxc k6 1),(nxc k6 2),(nxc k6 3)] fun v12 d13=>
 K [(nx v12 0),(nx v12 1)] [(nxc d13 0),(nxc d13 1),(nxc k6 1),(nxc d13 2),(nxc k6 3)]) (
 prP (bnI .eql (nx x5 0) (.int .i64 4)) fun t27_14=>
 AX t27_14 (
 cl2 C 146 DR.sg [(nx x5 2),(nx x5 3),(nx x5 4),(nx x5 5),(nx x5 6)] [(nxc k6 0),(nxc k6 1),(nxc k6 2),(nxc k6 3)] fun v15 d16=>
 K [(nx v15 0),(nx v15 1)] [(nxc d16 0),(nxc d16 1),(nxc k6 1),(nxc d16 2),(nxc k6 3)]) (
 prP (bnI .eql (nx x5 0) (.int .i64 7)) fun t32_17=>
 AX t32_17 (
 cl2 C 147 EH.sg [(nx x5 3)] [(nxc k6 0),(nxc k6 1),(nxc k6 2),(nxc k6 3)] fun v18 d19=>
 K [(nx v18 0),(nx v18 1)] [(nxc d19 0),(nxc k6 0),(nxc d19 1),(nxc k6 2),(nxc k6 3)]) (
 BV (fun x21 k22=>
 AX (nx x21 1) (
 cl2 C 148 DH.sg [(nx x21 2),(nx x21 3)] [(nxc k22 0),(nxc k22 1),(nxc k22 2),(nxc k22 3)] fun v26 d27=>
 K [(nx v26 0),(nx v26 1)] [(nxc d27 0),(nxc k22 0),(nxc d27 1),(nxc k22 2),(nxc k22 3)]) (
 prP (bnI .eql (nx x21 0) (.int .i64 10)) fun t47_28=>
 AX t47_28 (
 cl2 C 29 F5.sg [] [(nxc k22 0),(nxc k22 1),(nxc k22 2),(nxc k22 3)] fun v29 d30=>
 K [(.int .i64 0),(.int .i64 0)] [(nxc d30 4),(nxc d30 0),(nxc d30 1),(nxc d30 2),(nxc d30 3)]) (
 cl2 C 107 BY.sg [(.int .i64 2)] [] fun v31 d32=>
 K [(nx v31 0),(nx v31 1)] [(nxc d32 0),(nxc k22 0),(nxc k22 1),(nxc k22 2),(nxc k22 3)]))) fun j23=>
 prP (bnI .eql (nx x5 0) (.int .i64 8)) fun t38_24=>
 AX t38_24 (
 j23 [(nx x5 0),t38_24,(nx x5 2),(nx x5 3),(nx x5 4),(nx x5 5),(nx x5 6),(nx x5 7),(nx x5 8)] [(nxc k6 0),(nxc k6 1),(nxc k6 2),(nxc k6 3)]) (
 prP (bnI .eql (nx x5 0) (.int .i64 9)) fun t39_25=>
 j23 [(nx x5 0),t39_25,(nx x5 2),(nx x5 3),(nx x5 4),(nx x5 5),(nx x5 6),(nx x5 7),(nx x5 8)] [(nxc k6 0),(nxc k6 1),(nxc k6 2),(nxc k6 3)]))))) fun j7=>
 prP (bnI .eql a0 (.int .i64 2)) fun t16_8=>
 AX t16_8 (
 j7 [a0,t16_8,a0,a1,a2,a3,a4,(.int .i64 0),(.int .i64 0)] [c0,c1,c2,c3]) (
 prP (bnI .eql a0 (.int .i64 3)) fun t17_9=>
 AX t17_9 (
 j7 [a0,t17_9,a0,a1,a2,a3,a4,(.int .i64 0),(.int .i64 0)] [c0,c1,c2,c3]) (
 prP (bnI .eql a0 (.int .i64 5)) fun t18_10=>
 AX t18_10 (
 j7 [a0,t18_10,a0,a1,a2,a3,a4,(.int .i64 0),(.int .i64 0)] [c0,c1,c2,c3]) (
 prP (bnI .eql a0 (.int .i64 6)) fun t19_11=>
 j7 [a0,t19_11,a0,a1,a2,a3,a4,(.int .i64 0),(.int .i64 0)] [c0,c1,c2,c3]))))
theorem DS.cl2 {w0:World} {a0 a1 a2 a3 a4:Value} {c0 c1 c2 c3:List T} {K:J2} (h:DS.txt ⟨Try.prog,w0⟩ a0 a1 a2 a3 a4 c0 c1 c2 c3 K):Eng.cl2 ⟨Try.prog,w0⟩ 106 DS.sg [a0,a1,a2,a3,a4] [c0,c1,c2,c3] K:=
 AU (C:=⟨Try.prog,w0⟩) (f:=106) (fn:=Try.f106) [(144,DU.sg),(145,C5.sg),(146,DR.sg),(147,EH.sg),(148,DH.sg),(29,F5.sg),(107,BY.sg)] [] [(107,⟨[.p (.j 0) 0, .p (.j 1) 0, .p (.j 2) 0, .v, .v],[.p (.j 0) 0],[.bx [.t (.j 3) 8, .t (.j 4) 2, .t (.j 5) 1, .t (.j 6) 1], .bx [.v, .v, .v, .v, .v], .bx [.v, .v, .z], .ls, .ls, .ls, .ls]⟩),(6911,⟨[.p (.j 0) 0, .p (.j 1) 0, .p (.j 2) 0, .v, .v],[.p (.j 0) 0],[.bx [.t (.j 3) 8, .t (.j 4) 2, .t (.j 5) 1, .t (.j 6) 1], .bx [.v, .v, .v, .v, .v], .bx [.v, .v, .z], .ls, .ls, .ls, .ls]⟩)] Try.func106 (by kernel_rfl) (by kernel_rfl) (by kernel_rfl) h
def ER.sg:Sg:=⟨[(0,[.t 1 0]),(0,[.t 1 0])],[(0,[.v])],[]⟩
def ER.txt (C:Ctx) (c0 c1:List T) (K:J2):Prop:=
 prP (bnI .neq (iv (cnt 1 c0)) (iv (cnt 1 c1))) fun t10_1=>
 AX t10_1 (
 K [(.bool false)] []) (
 BN (fun r4 x2 k3=>
 prP (bnI .lss (nx x2 0) (iv (cnt 1 c0))) fun t14_6=>
 AX t14_6 (
 ixW (cnt 1 c0) (nx x2 0) fun t19_7=>
 ldc c0 [] ((AA t19_7)*1) fun t20_8=>
 ixW (cnt 1 c1) (nx x2 0) fun t23_9=>
 ldc c1 [] ((AA t23_9)*1) fun t24_10=>
 prP (bnI .neq t20_8 t24_10) fun t25_11=>
 AX t25_11 (
 K [(.bool false)] []) (
 prP (bnI .add (nx x2 0) (.int .i64 1)) fun t16_12=>
 r4 [t16_12] [])) (
 K [(.bool true)] [])) [(.int .i64 0)] [])
theorem ER.cl2 {w0:World} {c0 c1:List T} {K:J2} (h:ER.txt ⟨Try.prog,w0⟩ c0 c1 K):Eng.cl2 ⟨Try.prog,w0⟩ 104 ER.sg [] [c0,c1] K:=
 AU (C:=⟨Try.prog,w0⟩) (f:=104) (fn:=Try.f104) [] [(6,[0,0,3,7,0,0,48,112,255])] [(58,⟨[.t (.f 0) 1, .t (.f 1) 1, .v],[],[]⟩)] Try.func104 (by kernel_rfl) (by kernel_rfl) (by kernel_rfl) h
def DQ.sg:Sg:=⟨[(1,[.v, .v, .t 1 0]),(1,[.v, .v, .t 1 0])],[(0,[.v])],[]⟩
def DQ.txt (C:Ctx) (a0 a1 a2 a3:Value) (c0 c1:List T) (K:J2):Prop:=
 prP (bnI .eql a0 a2) fun t9_1=>
 gE t9_1 (
 gE t9_1 (
 gE t9_1 (
 gE t9_1 (
 gP t9_1 true (prP (bnI .eql a1 a3)) fun t15_2=>
 prP (pk t9_1 t15_2 (.bool false)) fun t16_3=>
 gE t16_3 (
 gE t16_3 (
 gE t16_3 (
 gE t16_3 (
 gP t16_3 true ((fun K=>cl2 C 104 ER.sg [] [c0,c1] fun v4 d5=>K (nx v4 0))) fun t22_6=>
 prP (pk t16_3 t22_6 (.bool false)) fun t23_7=>
 K [t23_7] []))))))))
theorem DQ.cl2 {w0:World} {a0 a1 a2 a3:Value} {c0 c1:List T} {K:J2} (h:DQ.txt ⟨Try.prog,w0⟩ a0 a1 a2 a3 c0 c1 K):Eng.cl2 ⟨Try.prog,w0⟩ 79 DQ.sg [a0,a1,a2,a3] [c0,c1] K:=
 AU (C:=⟨Try.prog,w0⟩) (f:=79) (fn:=Try.f79) [(104,ER.sg)] [] [] Try.func79 (by kernel_rfl) (by kernel_rfl) (by kernel_rfl) h
def G6.sg:Sg:=⟨[(0,[.t 1 0]),(0,[.v])],[(0,[.v])],[]⟩
def G6.txt (C:Ctx) (a0:Value) (c0:List T) (K:J2):Prop:=
 cl2 C 162 FN.sg [a0] [c0] fun v1 d2=>
 prP (bnI .geq (nx v1 0) (.int .i64 0)) fun t8_4=>
 K [t8_4] []
theorem G6.cl2 {w0:World} {a0:Value} {c0:List T} {K:J2} (h:G6.txt ⟨Try.prog,w0⟩ a0 c0 K):Eng.cl2 ⟨Try.prog,w0⟩ 159 G6.sg [a0] [c0] K:=
 AU (C:=⟨Try.prog,w0⟩) (f:=159) (fn:=Try.f159) [(162,FN.sg)] [] [] Try.func159 (by kernel_rfl) (by kernel_rfl) (by kernel_rfl) h
def F8.sg:Sg:=⟨[(0,[.t 1 0])],[(0,[.v])],[]⟩
def F8.txt (C:Ctx) (c0:List T) (K:J2):Prop:=
 BN (fun r3 x1 k2=>
 prP (bnI .lss (nx x1 1) (nx x1 0)) fun t8_5=>
 AX t8_5 (
 ixW (cnt 1 c0) (nx x1 1) fun t10_6=>
 ldc c0 [] ((AA t10_6)*1) fun t11_7=>
 prP (lnS t11_7) fun t13_8=>
 cl2 C 131 C4.sg [t13_8,(.int .i64 1),(.int .i64 8)] [] fun v9 d10=>
 prP (un .not (nx v9 0)) fun t15_12=>
 gE t15_12 (
 gE t15_12 (
 gP t15_12 false ((fun K=>scW (cnt 1 c0) none (some (nx x1 1)) fun l m=>K (two l m))) fun t19_13=>
 gE t15_12 (
 gP t15_12 false ((fun K=>cl2 C 159 G6.sg [t11_7] [(GM c0 [] ((AA (SQ t19_13))*1) ((AA (RY t19_13))*1))] fun v14 d15=>K (nx v14 0))) fun t21_16=>
 prP (pk t15_12 (.bool true) t21_16) fun t22_17=>
 AX t22_17 (
 K [(.bool false)] []) (
 prP (bnI .add (nx x1 1) (.int .i64 1)) fun t23_18=>
 r3 [(nx x1 0),t23_18] []))))) (
 prP (bnI .leq (iv (cnt 1 c0)) (.int .i64 6)) fun t26_19=>
 K [t26_19] [])) [(iv (cnt 1 c0)),(.int .i64 0)] []
theorem F8.cl2 {w0:World} {c0:List T} {K:J2} (h:F8.txt ⟨Try.prog,w0⟩ c0 K):Eng.cl2 ⟨Try.prog,w0⟩ 129 F8.sg [] [c0] K:=
 AU (C:=⟨Try.prog,w0⟩) (f:=129) (fn:=Try.f129) [(131,C4.sg),(159,G6.sg)] [] [(26,⟨[.t (.f 0) 1, .t (.f 0) 1, .v, .v],[],[]⟩)] Try.func129 (by kernel_rfl) (by kernel_rfl) (by kernel_rfl) h
def FO.sg:Sg:=⟨[(0,[.t 1 0]),(0,[.v])],[(0,[.v])],[]⟩
def FO.txt (C:Ctx) (a0:Value) (c0:List T) (K:J2):Prop:=
 BN (fun r3 x1 k2=>
 prP (bnI .lss (nx x1 2) (nx x1 1)) fun t10_5=>
 AX t10_5 (
 ixW (cnt 1 c0) (nx x1 2) fun t11_6=>
 ldc c0 [] ((AA t11_6)*1) fun t12_7=>
 prP (bnI .eql t12_7 (nx x1 0)) fun t15_8=>
 AX t15_8 (
 K [(.bool true)] []) (
 prP (bnI .add (nx x1 2) (.int .i64 1)) fun t16_9=>
 r3 [(nx x1 0),(nx x1 1),t16_9] [])) (
 K [(.bool false)] [])) [a0,(iv (cnt 1 c0)),(.int .i64 0)] []
theorem FO.cl2 {w0:World} {a0:Value} {c0:List T} {K:J2} (h:FO.txt ⟨Try.prog,w0⟩ a0 c0 K):Eng.cl2 ⟨Try.prog,w0⟩ 91 FO.sg [a0] [c0] K:=
 AU (C:=⟨Try.prog,w0⟩) (f:=91) (fn:=Try.f91) [] [] [(26,⟨[.v, .t (.f 0) 1, .v, .v],[],[]⟩)] Try.func91 (by kernel_rfl) (by kernel_rfl) (by kernel_rfl) h
def HO.sg:Sg:=⟨[(1,[.t 8 0, .t 2 0, .t 1 0, .t 1 0]),(0,[.v])],[(0,[.v])],[]⟩
def HO.txt (C:Ctx) (a0:Value) (c0 c1 c2 c3:List T) (K:J2):Prop:=
 ixW (cnt 8 c0) a0 fun t11_1=>
 ldg c0 [] ((AA t11_1)*8) [.c, .c, .c, .c, .c, .c, .l 1, .c] fun ts2=>
 cl2 C 131 C4.sg [(tv (nxT ts2 1)),(.int .i64 0),(.int .i64 999)] [] fun v3 d4=>
 prP (un .not (nx v3 0)) fun t16_6=>
 gE t16_6 (
 gE t16_6 (
 gE t16_6 (
 gP t16_6 false (prP (bnI .neq (iv (cnt 1 (GL c0 [(((AA t11_1)*8)+6)]))) (.int .i64 3))) fun t21_7=>
 prP (pk t16_6 (.bool true) t21_7) fun t22_8=>
 AX t22_8 (
 K [(.bool false)] []) (
 BN (fun r11 x9 k10=>
 prP (bnI .lss (nx x9 3) (nx x9 2)) fun t27_13=>
 AX t27_13 (
 ixW (cnt 1 (GL c0 [(AA (nx x9 1))])) (nx x9 3) fun t28_14=>
 ldc c0 [(AA (nx x9 1))] ((AA t28_14)*1) fun t29_15=>
 prP (bnI .neq t29_15 (.int .i64 (-1))) fun t31_16=>
 gE t31_16 (
 gE t31_16 (
 gP t31_16 true (prP (un .not (nx x9 4))) fun t35_17=>
 gE t31_16 (
 gE (CJ t31_16 true t35_17) (
 gE (CJ t31_16 true t35_17) (
 gP (CJ t31_16 true t35_17) false ((fun K=>cl2 C 81 BS.sg [t29_15] [c0,c1,c2,c3] fun v18 d19=>K (nx v18 0))) fun t39_20=>
 gP (CJ t31_16 true t35_17) false (prP (bnI .lss t39_20 (.int .i64 0))) fun t40_21=>
 gP t31_16 true (prP (pk t35_17 (.bool true) t40_21)) fun t41_22=>
 prP (pk t31_16 t41_22 (.bool false)) fun t42_23=>
 AX t42_23 (
 K [(.bool false)] []) (
 prP (bnI .add (nx x9 3) (.int .i64 1)) fun t43_24=>
 r11 [(nx x9 0),(iv (AA (nx x9 1))),(nx x9 2),t43_24,(nx x9 4),(nx x9 5),(nx x9 6),(nx x9 7),(nx x9 8),(nx x9 9),(iv (AA (nx x9 10))),(nx x9 11)] []))))))) (
 prP (un .not (nx x9 4)) fun t46_25=>
 AX t46_25 (
 prP (bnI .eql (nx x9 6) (.int .i64 0)) fun t49_26=>
 gE t49_26 (
 gE t49_26 (
 gP t49_26 true (prP (bnI .eql (nx x9 7) (.int .i64 0))) fun t53_27=>
 prP (pk t49_26 t53_27 (.bool false)) fun t54_28=>
 gE t54_28 (
 gE t54_28 (
 gP t54_28 true (prP (bnI .eql (nx x9 8) (.int .i64 0))) fun t58_29=>
 prP (pk t54_28 t58_29 (.bool false)) fun t59_30=>
 gE t59_30 (
 gE t59_30 (
 gP t59_30 true (prP (bnI .eql (nx x9 9) (.int .i64 0))) fun t63_31=>
 prP (pk t59_30 t63_31 (.bool false)) fun t64_32=>
 gE t64_32 (
 gE t64_32 (
 gP t64_32 true (prP (un .not (nx x9 11))) fun t68_33=>
 prP (pk t64_32 t68_33 (.bool false)) fun t69_34=>
 K [t69_34] []))))))))) (
 prP (bnI .geq (nx x9 5) (.int .i64 1)) fun t72_35=>
 gE t72_35 (
 gE t72_35 (
 gE t72_35 (
 gE t72_35 (
 gE t72_35 (
 gP t72_35 true (prP (bnI .sub (iv (cnt 1 c3)) (.int .i64 1))) fun t79_36=>
 gP t72_35 true ((fun K=>cl2 C 131 C4.sg [(nx x9 6),(.int .i64 0),t79_36] [] fun v37 d38=>K (nx v37 0))) fun t80_39=>
 prP (pk t72_35 t80_39 (.bool false)) fun t81_40=>
 gE t81_40 (
 gE t81_40 (
 gP t81_40 true ((fun K=>cl2 C 131 C4.sg [(nx x9 7),(.int .i64 0),(.int .i64 20)] [] fun v41 d42=>K (nx v41 0))) fun t85_43=>
 prP (pk t81_40 t85_43 (.bool false)) fun t86_44=>
 gE t86_44 (
 gE t86_44 (
 gP t86_44 true ((fun K=>cl2 C 131 C4.sg [(nx x9 8),(.int .i64 0),(.int .i64 20)] [] fun v45 d46=>K (nx v45 0))) fun t90_47=>
 prP (pk t86_44 t90_47 (.bool false)) fun t91_48=>
 gE t91_48 (
 gE t91_48 (
 gE t91_48 (
 gE t91_48 (
 gE t91_48 (
 gE t91_48 (
 gP t91_48 true (prP (bnI .add (nx x9 7) (nx x9 8))) fun t99_49=>
 gE t91_48 (
 gE t91_48 (
 gP t91_48 true ((fun K=>cl2 C 100 DJ.sg [(nx x9 0)] [c0,c1,c2,c3] fun v50 d51=>K (nx v50 0))) fun t102_52=>
 gP t91_48 true (prP (bnI .add t99_49 t102_52)) fun t103_53=>
 gP t91_48 true (prP (bnI .eql (nx x9 9) t103_53)) fun t104_54=>
 prP (pk t91_48 t104_54 (.bool false)) fun t105_55=>
 gE t105_55 (
 gE t105_55 (
 gP t105_55 true (prP (bnI .geq (nx x9 9) (.int .i64 1))) fun t109_56=>
 prP (pk t105_55 t109_56 (.bool false)) fun t110_57=>
 gE t110_57 (
 gE t110_57 (
 gE t110_57 (
 gE t110_57 (
 gE t110_57 (
 gE t110_57 (
 gE t110_57 (
 gP t110_57 true ((fun K=>cl2 C 98 DY.sg [(nx x9 0),(nx x9 5)] [] fun v58 d59=>K (nx v58 0))) fun t119_60=>
 gP t110_57 true ((fun K=>cl2 C 91 FO.sg [t119_60] [c2] fun v61 d62=>K (nx v61 0))) fun t120_63=>
 gP t110_57 true (prP (bnB .eql (nx x9 11) t120_63)) fun t121_64=>
 prP (pk t110_57 t121_64 (.bool false)) fun t122_65=>
 K [t122_65] []))))))))))))))))))))))))))))) [a0,(iv (((AA t11_1)*8)+6)),(iv (cnt 1 (GL c0 [(((AA t11_1)*8)+6)]))),(.int .i64 0),(tv (nxT ts2 0)),(tv (nxT ts2 1)),(tv (nxT ts2 2)),(tv (nxT ts2 3)),(tv (nxT ts2 4)),(tv (nxT ts2 5)),(iv (((AA t11_1)*8)+6)),(tv (nxT ts2 7))] []))))
theorem HO.cl2 {w0:World} {a0:Value} {c0 c1 c2 c3:List T} {K:J2} (h:HO.txt ⟨Try.prog,w0⟩ a0 c0 c1 c2 c3 K):Eng.cl2 ⟨Try.prog,w0⟩ 130 HO.sg [a0] [c0,c1,c2,c3] K:=
 AU (C:=⟨Try.prog,w0⟩) (f:=130) (fn:=Try.f130) [(131,C4.sg),(81,BS.sg),(100,DJ.sg),(98,DY.sg),(91,FO.sg)] [(12,[0,1,3,7,15,31,15,79,207,463,1023,2047,4095,8191,16383,32767,65535,131071,262143,524287,1048575,2097151,4194303,8388607,16777215,8388607,41943039,8388607,142606335,511705087,8388607,8388607,3229614079,8564768767,17179869183,34359738367,68719476735,137438953471,274877906943,549755813887,1099511627775,2199023255551,4398046511103,8796093022207,4398046511103,21990232555519,4398046511103,4398046511103,145135534866431,496979255754751,1112705767309311,2251799813685247,4503599627370495,9007199254740991])] [(122,⟨[.v, .p (.j 0) 0, .p (.j 1) 0, .n (.f 0) 1 1, .v, .v],[],[.bx [.t (.f 0) 8, .t (.f 1) 2, .t (.f 2) 1, .t (.f 3) 1], .bx [.v, .v, .v, .v, .v, .v, .n (.f 0) 1 1, .v]]⟩)] Try.func130 (by kernel_rfl) (by kernel_rfl) (by kernel_rfl) h
def FK.sg:Sg:=⟨[(1,[.t 8 0, .t 2 0, .t 1 0, .t 1 0])],[(0,[.v])],[]⟩
def FK.txt (C:Ctx) (c0 c1 c2 c3:List T) (K:J2):Prop:=
 prP (bnI .neq (iv (cnt 8 c0)) (.int .i64 8)) fun t11_1=>
 gE t11_1 (
 gE t11_1 (
 gE t11_1 (
 gP t11_1 false (prP (bnI .neq (iv (cnt 2 c1)) (.int .i64 8))) fun t16_2=>
 prP (pk t11_1 (.bool true) t16_2) fun t17_3=>
 gE t17_3 (
 gE t17_3 (
 gP t17_3 false ((fun K=>cl2 C 129 F8.sg [] [c3] fun v4 d5=>K (nx v4 0))) fun t21_6=>
 gP t17_3 false (prP (un .not t21_6)) fun t22_7=>
 prP (pk t17_3 (.bool true) t22_7) fun t23_8=>
 AX t23_8 (
 K [(.bool false)] []) (
 BN (fun r11 x9 k10=>
 prP (bnI .lss (nx x9 1) (nx x9 0)) fun t28_13=>
 AX t28_13 (
 cl2 C 130 HO.sg [(nx x9 1)] [c0,c1,c2,c3] fun v14 d15=>
 prP (un .not (nx v14 0)) fun t33_17=>
 AX t33_17 (
 K [(.bool false)] []) (
 prP (bnI .add (nx x9 1) (.int .i64 1)) fun t34_18=>
 r11 [(nx x9 0),t34_18] [])) (
 BN (fun r21 x19 k20=>
 prP (bnI .lss (nx x19 1) (nx x19 0)) fun t39_23=>
 AX t39_23 (
 ixW (cnt 2 c1) (nx x19 1) fun t40_24=>
 ldg c1 [] ((AA t40_24)*2) [.c, .c] fun ts25=>
 prP (un .not (tv (nxT ts25 0))) fun t44_26=>
 gE t44_26 (
 gE t44_26 (
 gP t44_26 true (prP (bnI .neq (tv (nxT ts25 1)) (.int .i64 0))) fun t48_27=>
 prP (pk t44_26 t48_27 (.bool false)) fun t49_28=>
 gE t49_28 (
 gE t49_28 (
 gE t49_28 (
 gE (CJ t49_28 false (tv (nxT ts25 0))) (
 gE (CJ t49_28 false (tv (nxT ts25 0))) (
 gP (CJ t49_28 false (tv (nxT ts25 0))) true ((fun K=>cl2 C 131 C4.sg [(tv (nxT ts25 1)),(.int .i64 8),(.int .i64 7999)] [] fun v29 d30=>K (nx v29 0))) fun t56_31=>
 gP (CJ t49_28 false (tv (nxT ts25 0))) true (prP (un .not t56_31)) fun t57_32=>
 gP t49_28 false (prP (pk (tv (nxT ts25 0)) t57_32 (.bool false))) fun t58_33=>
 prP (pk t49_28 (.bool true) t58_33) fun t59_34=>
 AX t59_34 (
 K [(.bool false)] []) (
 prP (bnI .add (nx x19 1) (.int .i64 1)) fun t60_35=>
 r21 [(nx x19 0),t60_35] []))))))))) (
 BN (fun r38 x36 k37=>
 prP (bnI .lss (nx x36 1) (nx x36 0)) fun t65_40=>
 AX t65_40 (
 ixW (cnt 1 c2) (nx x36 1) fun t67_41=>
 ldc c2 [] ((AA t67_41)*1) fun t68_42=>
 cl2 C 81 BS.sg [t68_42] [c0,c1,c2,c3] fun v43 d44=>
 prP (bnI .lss (nx v43 0) (.int .i64 0)) fun t72_46=>
 gE t72_46 (
 gE t72_46 (
 gE t72_46 (
 gP t72_46 false ((fun K=>scW (cnt 1 c2) none (some (nx x36 1)) fun l m=>K (two l m))) fun t77_47=>
 gE t72_46 (
 gP t72_46 false ((fun K=>cl2 C 91 FO.sg [t68_42] [(GM c2 [] ((AA (SQ t77_47))*1) ((AA (RY t77_47))*1))] fun v48 d49=>K (nx v48 0))) fun t79_50=>
 prP (pk t72_46 (.bool true) t79_50) fun t80_51=>
 AX t80_51 (
 K [(.bool false)] []) (
 prP (bnI .add (nx x36 1) (.int .i64 1)) fun t81_52=>
 r38 [(nx x36 0),t81_52] [])))))) (
 K [(.bool true)] [])) [(iv (cnt 1 c2)),(.int .i64 0)] [])) [(iv (cnt 2 c1)),(.int .i64 0)] [])) [(iv (cnt 8 c0)),(.int .i64 0)] []))))))
theorem FK.cl2 {w0:World} {c0 c1 c2 c3:List T} {K:J2} (h:FK.txt ⟨Try.prog,w0⟩ c0 c1 c2 c3 K):Eng.cl2 ⟨Try.prog,w0⟩ 82 FK.sg [] [c0,c1,c2,c3] K:=
 AU (C:=⟨Try.prog,w0⟩) (f:=82) (fn:=Try.f82) [(129,F8.sg),(130,HO.sg),(131,C4.sg),(81,BS.sg),(91,FO.sg)] [] [(250,⟨[.p (.j 0) 0, .t (.f 2) 1, .v, .v],[],[.bx [.t (.f 0) 8, .t (.f 1) 2, .t (.f 2) 1, .t (.f 3) 1]]⟩),(122,⟨[.p (.j 0) 0, .t (.f 1) 2, .v, .v],[],[.bx [.t (.f 0) 8, .t (.f 1) 2, .t (.f 2) 1, .t (.f 3) 1]]⟩),(58,⟨[.p (.j 0) 0, .v, .v],[],[.bx [.t (.f 0) 8, .t (.f 1) 2, .t (.f 2) 1, .t (.f 3) 1]]⟩)] Try.func82 (by kernel_rfl) (by kernel_rfl) (by kernel_rfl) h
def HU.sg:Sg:=⟨[(1,[.t 8 0, .t 2 0, .t 1 0, .t 1 0]),(1,[.v, .v, .v, .v, .v])],[(1,[.t 8, .t 2, .t 1, .t 1]),(1,[.v, .v, .t 1])],[]⟩
def HU.txt (C:Ctx) (a0 a1 a2 a3 a4:Value) (c0 c1 c2 c3:List T) (K:J2):Prop:=
 cl2 C 97 DO.sg [] [c0,c1,c2,c3] fun v1 d2=>
 cl2 C 82 FK.sg [] [c0,c1,c2,c3] fun v3 d4=>
 prP (un .not (nx v3 0)) fun t12_6=>
 AX t12_6 (
 cl2 C 107 BY.sg [(.int .i64 2)] [] fun v7 d8=>
 K [(nx v7 0),(nx v7 1)] [(nxc d2 0),(nxc d2 1),(nxc d2 2),(nxc d2 3),(nxc d8 0)]) (
 cl2 C 106 DS.sg [a0,a1,a2,a3,a4] [(nxc d2 0),(nxc d2 1),(nxc d2 2),(nxc d2 3)] fun v9 d10=>
 K [(nx v9 0),(nx v9 1)] [(nxc d10 1),(nxc d10 2),(nxc d10 3),(nxc d10 4),(nxc d10 0)])
theorem HU.cl2 {w0:World} {a0 a1 a2 a3 a4:Value} {c0 c1 c2 c3:List T} {K:J2} (h:HU.txt ⟨Try.prog,w0⟩ a0 a1 a2 a3 a4 c0 c1 c2 c3 K):Eng.cl2 ⟨Try.prog,w0⟩ 42 HU.sg [a0,a1,a2,a3,a4] [c0,c1,c2,c3] K:=
 AU (C:=⟨Try.prog,w0⟩) (f:=42) (fn:=Try.f42) [(97,DO.sg),(82,FK.sg),(107,BY.sg),(106,DS.sg)] [(3,[0,0,3,7]),(5,[0,0,1,7])] [] Try.func42 (by kernel_rfl) (by kernel_rfl) (by kernel_rfl) h
def FC.sg:Sg:=⟨[(1,[.t 8 0, .t 2 0, .t 1 0, .t 1 0]),(1,[.t 8 0, .t 2 0, .t 1 0, .t 1 0])],[(0,[.v])],[]⟩
def FC.txt (C:Ctx) (c0 c1 c2 c3 c4 c5 c6 c7:List T) (K:J2):Prop:=
 prP (bnI .neq (iv (cnt 8 c0)) (iv (cnt 8 c4))) fun t16_1=>
 gE t16_1 (
 gE t16_1 (
 gE t16_1 (
 gE t16_1 (
 gE t16_1 (
 gE t16_1 (
 gP t16_1 false (prP (bnI .neq (iv (cnt 2 c1)) (iv (cnt 2 c5)))) fun t24_2=>
 prP (pk t16_1 (.bool true) t24_2) fun t25_3=>
 gE t25_3 (
 gE t25_3 (
 gE t25_3 (
 gE t25_3 (
 gP t25_3 false ((fun K=>cl2 C 104 ER.sg [] [c2,c6] fun v4 d5=>K (nx v4 0))) fun t31_6=>
 gP t25_3 false (prP (un .not t31_6)) fun t32_7=>
 prP (pk t25_3 (.bool true) t32_7) fun t33_8=>
 gE t33_8 (
 gE t33_8 (
 gE t33_8 (
 gE t33_8 (
 gE t33_8 (
 gE t33_8 (
 gP t33_8 false (prP (bnI .neq (iv (cnt 1 c3)) (iv (cnt 1 c7)))) fun t41_9=>
 prP (pk t33_8 (.bool true) t41_9) fun t42_10=>
 AX t42_10 (
 K [(.bool false)] []) (
 BN (fun r13 x11 k12=>
 prP (bnI .lss (nx x11 0) (iv (cnt 8 c0))) fun t47_15=>
 AX t47_15 (
 ixW (cnt 8 c0) (nx x11 0) fun t53_16=>
 ldg c0 [] ((AA t53_16)*8) [.c, .c, .c, .c, .c, .c, .l 1, .c] fun ts17=>
 ixW (cnt 8 c4) (nx x11 0) fun t58_18=>
 ldg c4 [] ((AA t58_18)*8) [.c, .c, .c, .c, .c, .c, .l 1, .c] fun ts19=>
 prP (bnB .neq (tv (nxT ts17 0)) (tv (nxT ts19 0))) fun t64_20=>
 gE t64_20 (
 gE t64_20 (
 gE t64_20 (
 gE t64_20 (
 gP t64_20 false (prP (bnI .neq (tv (nxT ts17 1)) (tv (nxT ts19 1)))) fun t70_21=>
 prP (pk t64_20 (.bool true) t70_21) fun t71_22=>
 gE t71_22 (
 gE t71_22 (
 gE t71_22 (
 gE t71_22 (
 gP t71_22 false (prP (bnI .neq (tv (nxT ts17 2)) (tv (nxT ts19 2)))) fun t77_23=>
 prP (pk t71_22 (.bool true) t77_23) fun t78_24=>
 gE t78_24 (
 gE t78_24 (
 gE t78_24 (
 gE t78_24 (
 gP t78_24 false (prP (bnI .neq (tv (nxT ts17 3)) (tv (nxT ts19 3)))) fun t84_25=>
 prP (pk t78_24 (.bool true) t84_25) fun t85_26=>
 gE t85_26 (
 gE t85_26 (
 gE t85_26 (
 gE t85_26 (
 gP t85_26 false (prP (bnI .neq (tv (nxT ts17 4)) (tv (nxT ts19 4)))) fun t91_27=>
 prP (pk t85_26 (.bool true) t91_27) fun t92_28=>
 gE t92_28 (
 gE t92_28 (
 gE t92_28 (
 gE t92_28 (
 gP t92_28 false (prP (bnI .neq (tv (nxT ts17 5)) (tv (nxT ts19 5)))) fun t98_29=>
 prP (pk t92_28 (.bool true) t98_29) fun t99_30=>
 gE t99_30 (
 gE t99_30 (
 gE t99_30 (
 gE t99_30 (
 gP t99_30 false (prP (bnB .neq (tv (nxT ts17 7)) (tv (nxT ts19 7)))) fun t105_31=>
 prP (pk t99_30 (.bool true) t105_31) fun t106_32=>
 gE t106_32 (
 gE t106_32 (
 gE t106_32 (
 gE t106_32 (
 gP t106_32 false ((fun K=>cl2 C 104 ER.sg [] [(GL c0 [(((AA t53_16)*8)+6)]),(GL c4 [(((AA t58_18)*8)+6)])] fun v33 d34=>K (nx v33 0))) fun t112_35=>
 gP t106_32 false (prP (un .not t112_35)) fun t113_36=>
 prP (pk t106_32 (.bool true) t113_36) fun t114_37=>
 AX t114_37 (
 K [(.bool false)] []) (
 prP (bnI .add (nx x11 0) (.int .i64 1)) fun t49_38=>
 r13 [t49_38] [])))))))))))))))))))))))))))))) (
 BN (fun r41 x39 k40=>
 prP (bnI .lss (nx x39 0) (iv (cnt 2 c1))) fun t119_43=>
 AX t119_43 (
 ixW (cnt 2 c1) (nx x39 0) fun t125_44=>
 ldg c1 [] ((AA t125_44)*2) [.c, .c] fun ts45=>
 ixW (cnt 2 c5) (nx x39 0) fun t130_46=>
 ldg c5 [] ((AA t130_46)*2) [.c, .c] fun ts47=>
 prP (bnA C.P .neq 103 (.agg #[(tv (nxT ts45 0)),(tv (nxT ts45 1))]) (.agg #[(tv (nxT ts47 0)),(tv (nxT ts47 1))])) fun t132_48=>
 AX t132_48 (
 K [(.bool false)] []) (
 prP (bnI .add (nx x39 0) (.int .i64 1)) fun t121_49=>
 r41 [t121_49] [])) (
 BN (fun r52 x50 k51=>
 prP (bnI .lss (nx x50 0) (iv (cnt 1 c3))) fun t137_54=>
 AX t137_54 (
 ixW (cnt 1 c3) (nx x50 0) fun t143_55=>
 ldc c3 [] ((AA t143_55)*1) fun t144_56=>
 ixW (cnt 1 c7) (nx x50 0) fun t148_57=>
 ldc c7 [] ((AA t148_57)*1) fun t149_58=>
 prP (bnS .neq t144_56 t149_58) fun t150_59=>
 AX t150_59 (
 K [(.bool false)] []) (
 prP (bnI .add (nx x50 0) (.int .i64 1)) fun t139_60=>
 r52 [t139_60] [])) (
 K [(.bool true)] [])) [(.int .i64 0)] [])) [(.int .i64 0)] [])) [(.int .i64 0)] [])))))))))))))))))
theorem FC.cl2 {w0:World} {c0 c1 c2 c3 c4 c5 c6 c7:List T} {K:J2} (h:FC.txt ⟨Try.prog,w0⟩ c0 c1 c2 c3 c4 c5 c6 c7 K):Eng.cl2 ⟨Try.prog,w0⟩ 36 FC.sg [] [c0,c1,c2,c3,c4,c5,c6,c7] K:=
 AU (C:=⟨Try.prog,w0⟩) (f:=36) (fn:=Try.f36) [(104,ER.sg)] [(13,[0,1,0,7,15,0,32,0,224,480,1023]),(18,[0,1,0,7,15,0,32,0,224,480,1023])] [(250,⟨[.p (.j 0) 0, .p (.j 1) 0, .v],[],[.bx [.t (.f 0) 8, .t (.f 1) 2, .t (.f 2) 1, .t (.f 3) 1], .bx [.t (.f 4) 8, .t (.f 5) 2, .t (.f 6) 1, .t (.f 7) 1]]⟩),(122,⟨[.p (.j 0) 0, .p (.j 1) 0, .v],[],[.bx [.t (.f 0) 8, .t (.f 1) 2, .t (.f 2) 1, .t (.f 3) 1], .bx [.t (.f 4) 8, .t (.f 5) 2, .t (.f 6) 1, .t (.f 7) 1]]⟩),(58,⟨[.p (.j 0) 0, .p (.j 1) 0, .v],[],[.bx [.t (.f 0) 8, .t (.f 1) 2, .t (.f 2) 1, .t (.f 3) 1], .bx [.t (.f 4) 8, .t (.f 5) 2, .t (.f 6) 1, .t (.f 7) 1]]⟩)] Try.func36 (by kernel_rfl) (by kernel_rfl) (by kernel_rfl) h
end Go.Proofs.Ytklmcfpgdfibnaa.P
