/- A part of the proof. -/
import Derived.Test.YtnhicpkhkaihoaaGreatChecked
import Derived.Test.YtnhicpkhkaihoaaGreatFtEngM5
import Derived.KernelRfl
namespace Go.Proofs.YtnhicpkhkaihoaaGreat.P
open Go Go.Proofs.YtnhicpkhkaihoaaGreat Go.Proofs.YtnhicpkhkaihoaaGreat.Eng
set_option linter.unusedVariables false
set_option maxRecDepth 100000
def DP.sg:Sg:=⟨[],[(0,[.t 1])],[]⟩
def DP.txt (C:Ctx) (K:J2):Prop:=
 BC (fun r3 x1 k2=>
 prP (bnI .lss (nx x1 0) (.int .i64 3)) fun t5_5=>
 AV t5_5 (
 apW [T.c (.int .i64 (-1))] true (cnt 1 (nxc k2 0)) (cnt 1 [T.c (.int .i64 (-1))]) 8 (
 prP (bnI .add (nx x1 0) (.int .i64 1)) fun t7_6=>
 r3 [t7_6] [((nxc k2 0)++[T.c (.int .i64 (-1))])])) (
 K [] [(nxc k2 0)])) [(.int .i64 0)] [[]]
theorem DP.cl2 {w0:World} {K:J2} (h:DP.txt ⟨Tryz.prog,w0⟩ K):Eng.cl2 ⟨Tryz.prog,w0⟩ 102 DP.sg [] [] K:=
 AD (C:=⟨Tryz.prog,w0⟩) (f:=102) (fn:=Tryz.f102) [] [] [(58,⟨[.t (.j 0) 1, .v],[],[.ls]⟩)] Tryz.func102 (by kernel_rfl) (by kernel_rfl) (by kernel_rfl) h
def FO.sg:Sg:=⟨[],[(1,[.t 8, .t 2, .t 1, .t 1])],[]⟩
def FO.txt (C:Ctx) (K:J2):Prop:=
 mkW 80 (.int .i64 8) (.int .i64 8) fun n1=>
 mkW 16 (.int .i64 8) (.int .i64 8) fun n2=>
 BC (fun r5 x3 k4=>
 prP (bnI .lss (nx x3 0) (iv (cnt 8 (nxc k4 0)))) fun t10_7=>
 AV t10_7 (
 cl2 C 102 DP.sg [] [] fun v8 d9=>
 ixW (cnt 8 (nxc k4 0)) (nx x3 0) fun t17_10=>
 stg (nxc k4 0) [] (((AA t17_10)*8)+6) [T.l 1 (nxc d9 0)] fun k11=>
 prP (bnI .add (nx x3 0) (.int .i64 1)) fun t12_12=>
 r5 [t12_12] [k11,(nxc k4 1)]) (
 K [] [(nxc k4 0),(nxc k4 1),[],[]])) [(.int .i64 0)] [(T8 (AA n1) [T.c (.bool false),T.c (.int .i64 0),T.c (.int .i64 0),T.c (.int .i64 0),T.c (.int .i64 0),T.c (.int .i64 0),T.l 1 [],T.c (.bool false)]),(T8 (AA n2) [T.c (.bool false),T.c (.int .i64 0)])]
theorem FO.cl2 {w0:World} {K:J2} (h:FO.txt ⟨Tryz.prog,w0⟩ K):Eng.cl2 ⟨Tryz.prog,w0⟩ 52 FO.sg [] [] K:=
 AD (C:=⟨Tryz.prog,w0⟩) (f:=52) (fn:=Tryz.f52) [(102,DP.sg)] [(1,[0,0,3,0,15]),(5,[0,1,0,0,15,31,63])] [(58,⟨[.p (.j 0) 0, .p (.j 1) 0, .v],[],[.bx [.z, .z, .z, .z], .bx [.t (.j 2) 8, .t (.j 3) 2, .z, .z], .ls, .ls]⟩)] Tryz.func52 (by kernel_rfl) (by kernel_rfl) (by kernel_rfl) h
def DL.sg:Sg:=⟨[(1,[.t 8 0, .t 2 0, .t 1 0, .t 1 0])],[(1,[.t 8, .t 2, .t 1, .t 1])],[]⟩
def DL.txt (C:Ctx) (c0 c1 c2 c3:List T) (K:J2):Prop:=
 apW c1 true (cnt 2 []) (cnt 2 c1) 16 (
 apW c2 true (cnt 1 []) (cnt 1 c2) 8 (
 apW c3 true (cnt 1 []) (cnt 1 c3) 16 (
 BC (fun r3 x1 k2=>
 prP (bnI .lss (nx x1 0) (iv (cnt 8 c0))) fun t23_10=>
 AV t23_10 (
 ixW (cnt 8 c0) (nx x1 0) fun t29_11=>
 ldg c0 [] ((AA t29_11)*8) [.c, .c, .c, .c, .c, .c, .l 1, .c] fun ts12=>
 apW (G4 c0 [(((AA t29_11)*8)+6)]) true (cnt 1 []) (cnt 1 (G4 c0 [(((AA t29_11)*8)+6)])) 8 (
 apW [T.c (tv (nxT ts12 0)),T.c (tv (nxT ts12 1)),T.c (tv (nxT ts12 2)),T.c (tv (nxT ts12 3)),T.c (tv (nxT ts12 4)),T.c (tv (nxT ts12 5)),T.l 1 ([]++(G4 c0 [(((AA t29_11)*8)+6)])),T.c (tv (nxT ts12 7))] false (cnt 8 (nxc k2 0)) (cnt 8 [T.c (tv (nxT ts12 0)),T.c (tv (nxT ts12 1)),T.c (tv (nxT ts12 2)),T.c (tv (nxT ts12 3)),T.c (tv (nxT ts12 4)),T.c (tv (nxT ts12 5)),T.l 1 ([]++(G4 c0 [(((AA t29_11)*8)+6)])),T.c (tv (nxT ts12 7))]) 80 (
 prP (bnI .add (nx x1 0) (.int .i64 1)) fun t25_13=>
 r3 [t25_13] [((nxc k2 0)++[T.c (tv (nxT ts12 0)),T.c (tv (nxT ts12 1)),T.c (tv (nxT ts12 2)),T.c (tv (nxT ts12 3)),T.c (tv (nxT ts12 4)),T.c (tv (nxT ts12 5)),T.l 1 ([]++(G4 c0 [(((AA t29_11)*8)+6)])),T.c (tv (nxT ts12 7))]),(nxc k2 1),(nxc k2 2),(nxc k2 3)]))) (
 K [] [(nxc k2 0),(nxc k2 1),(nxc k2 2),(nxc k2 3)])) [(.int .i64 0)] [[],([]++c1),([]++c2),([]++c3)])))
theorem DL.cl2 {w0:World} {c0 c1 c2 c3:List T} {K:J2} (h:DL.txt ⟨Tryz.prog,w0⟩ c0 c1 c2 c3 K):Eng.cl2 ⟨Tryz.prog,w0⟩ 103 DL.sg [] [c0,c1,c2,c3] K:=
 AD (C:=⟨Tryz.prog,w0⟩) (f:=103) (fn:=Tryz.f103) [] [(1,[0,0,2,7,0,0,32,127,0,0,512,2047,4095,0,16383])] [(58,⟨[.p (.j 0) 0, .p (.j 1) 0, .p (.j 2) 0, .v],[],[.bx [.t (.f 0) 8, .t (.f 1) 2, .t (.f 2) 1, .t (.f 3) 1], .bx [.z, .z, .z, .z], .bx [.t (.j 3) 8, .t (.j 4) 2, .t (.j 5) 1, .t (.j 6) 1], .ls, .ls, .ls, .ls]⟩)] Tryz.func103 (by kernel_rfl) (by kernel_rfl) (by kernel_rfl) h
def BO.sg:Sg:=⟨[(0,[.v]),(0,[.v]),(0,[.v])],[(0,[.v])],[]⟩
def BO.txt (C:Ctx) (a0 a1 a2:Value) (K:J2):Prop:=
 prP (bnI .geq a0 a1) fun t9_1=>
 gE t9_1 (
 gE t9_1 (
 gP t9_1 true (prP (bnI .leq a0 a2)) fun t13_2=>
 prP (pk t9_1 t13_2 (.bool false)) fun t14_3=>
 K [t14_3] []))
theorem BO.cl2 {w0:World} {a0 a1 a2:Value} {K:J2} (h:BO.txt ⟨Tryz.prog,w0⟩ a0 a1 a2 K):Eng.cl2 ⟨Tryz.prog,w0⟩ 54 BO.sg [a0,a1,a2] [] K:=
 AD (C:=⟨Tryz.prog,w0⟩) (f:=54) (fn:=Tryz.f54) [] [] [] Tryz.func54 (by kernel_rfl) (by kernel_rfl) (by kernel_rfl) h
def B4.sg:Sg:=⟨[(1,[.t 8 0, .t 2 0, .t 1 0, .t 1 0]),(0,[.v])],[(0,[.v])],[]⟩
def B4.txt (C:Ctx) (a0:Value) (c0 c1 c2 c3:List T) (K:J2):Prop:=
 prP (bnI .lss a0 (.int .i64 8)) fun t7_1=>
 gE t7_1 (
 gE t7_1 (
 gE t7_1 (
 gP t7_1 false (prP (bnI .neq (iv (cnt 8 c0)) (.int .i64 8))) fun t12_2=>
 prP (pk t7_1 (.bool true) t12_2) fun t13_3=>
 AV t13_3 (
 K [(.int .i64 (-1))] []) (
 prP (bnI .rem a0 (.int .i64 8)) fun t15_4=>
 ixW (cnt 8 c0) t15_4 fun t19_5=>
 ldc c0 [] ((AA t19_5)*8) fun t21_6=>
 prP (un .not t21_6) fun t22_7=>
 gE t22_7 (
 gE t22_7 (
 gE t22_7 (
 gP t22_7 false (ixW (cnt 8 c0) t15_4) fun t27_8=>
 gE t22_7 (
 gP t22_7 false (ldc c0 [] (((AA t27_8)*8)+1)) fun t29_9=>
 gE t22_7 (
 gP t22_7 false (prP (bnI .quo a0 (.int .i64 8))) fun t31_10=>
 gP t22_7 false (prP (bnI .neq t29_9 t31_10)) fun t32_11=>
 prP (pk t22_7 (.bool true) t32_11) fun t33_12=>
 AV t33_12 (
 K [(.int .i64 (-1))] []) (
 K [t15_4] []))))))))))
theorem B4.cl2 {w0:World} {a0:Value} {c0 c1 c2 c3:List T} {K:J2} (h:B4.txt ⟨Tryz.prog,w0⟩ a0 c0 c1 c2 c3 K):Eng.cl2 ⟨Tryz.prog,w0⟩ 55 B4.sg [a0] [c0,c1,c2,c3] K:=
 AD (C:=⟨Tryz.prog,w0⟩) (f:=55) (fn:=Tryz.f55) [] [] [] Tryz.func55 (by kernel_rfl) (by kernel_rfl) (by kernel_rfl) h
def EY.sg:Sg:=⟨[(0,[.v]),(0,[.v])],[(0,[.v])],[]⟩
def EY.txt (C:Ctx) (a0 a1:Value) (K:J2):Prop:=
 cl2 C 54 BO.sg [a0,(.int .i64 0),(.int .i64 7)] [] fun v1 d2=>
 prP (un .not (nx v1 0)) fun t7_4=>
 gE t7_4 (
 gP t7_4 false ((fun K=>cl2 C 54 BO.sg [a1,(.int .i64 1),(.int .i64 999)] [] fun v5 d6=>K (nx v5 0))) fun t10_7=>
 gP t7_4 false (prP (un .not t10_7)) fun t11_8=>
 prP (pk t7_4 (.bool true) t11_8) fun t12_9=>
 AV t12_9 (
 K [(.int .i64 (-1))] []) (
 prP (bnI .mul (.int .i64 8) a1) fun t15_10=>
 prP (bnI .add a0 t15_10) fun t16_11=>
 K [t16_11] []))
theorem EY.cl2 {w0:World} {a0 a1:Value} {K:J2} (h:EY.txt ⟨Tryz.prog,w0⟩ a0 a1 K):Eng.cl2 ⟨Tryz.prog,w0⟩ 58 EY.sg [a0,a1] [] K:=
 AD (C:=⟨Tryz.prog,w0⟩) (f:=58) (fn:=Tryz.f58) [(54,BO.sg)] [] [] Tryz.func58 (by kernel_rfl) (by kernel_rfl) (by kernel_rfl) h
def FR.sg:Sg:=⟨[(1,[.t 8 0, .t 2 0, .t 1 0, .t 1 0]),(0,[.v])],[(0,[.v])],[]⟩
def FR.txt (C:Ctx) (a0:Value) (c0 c1 c2 c3:List T) (K:J2):Prop:=
 prP (bnI .sub (iv (cnt 8 c0)) (.int .i64 1)) fun t13_1=>
 cl2 C 54 BO.sg [a0,(.int .i64 0),t13_1] [] fun v2 d3=>
 prP (un .not (nx v2 0)) fun t15_5=>
 gE t15_5 (
 gE t15_5 (
 gE t15_5 (
 gP t15_5 false (ixW (cnt 8 c0) a0) fun t20_6=>
 gE t15_5 (
 gP t15_5 false (ldc c0 [] ((AA t20_6)*8)) fun t22_7=>
 gP t15_5 false (prP (un .not t22_7)) fun t23_8=>
 prP (pk t15_5 (.bool true) t23_8) fun t24_9=>
 AV t24_9 (
 K [(.int .i64 0)] []) (
 ixW (cnt 8 c0) a0 fun t29_10=>
 ldc c0 [] (((AA t29_10)*8)+1) fun t31_11=>
 cl2 C 58 EY.sg [a0,t31_11] [] fun v12 d13=>
 BC (fun r17 x15 k16=>
 prP (bnI .lss (nx x15 2) (iv (cnt 8 c0))) fun t37_19=>
 AV t37_19 (
 BC (fun r22 x20 k21=>
 ixW (cnt 8 c0) (nx x20 2) fun t44_24=>
 ldl c0 [] (((AA t44_24)*8)+6) 1 fun t46_25=>
 prP (bnI .lss (nx x20 3) (iv (cnt 1 (G4 c0 [(((AA t44_24)*8)+6)])))) fun t48_26=>
 gE t48_26 (
 gE t48_26 (
 gE t48_26 (
 gP t48_26 true (ixW (cnt 8 c0) (nx x20 2)) fun t53_27=>
 gE t48_26 (
 gP t48_26 true (ldc c0 [] ((AA t53_27)*8)) fun t55_28=>
 prP (pk t48_26 t55_28 (.bool false)) fun t56_29=>
 AV t56_29 (
 BW (fun x31 k32=>
 prP (bnI .add (nx x31 3) (.int .i64 1)) fun t58_40=>
 r22 [(nx x31 0),(nx x31 1),(nx x31 2),t58_40] []) fun j33=>
 ixW (cnt 8 c0) (nx x20 2) fun t62_34=>
 ldl c0 [] (((AA t62_34)*8)+6) 1 fun t64_35=>
 ixW (cnt 1 (G4 c0 [(((AA t62_34)*8)+6)])) (nx x20 3) fun t66_36=>
 ldc c0 [(((AA t62_34)*8)+6)] ((AA t66_36)*1) fun t67_37=>
 prP (bnI .eql t67_37 (nx x20 1)) fun t69_38=>
 AV t69_38 (
 prP (bnI .add (nx x20 0) (.int .i64 1)) fun t71_39=>
 j33 [t71_39,(nx x20 1),(nx x20 2),(nx x20 3)] []) (
 j33 [(nx x20 0),(nx x20 1),(nx x20 2),(nx x20 3)] [])) (
 prP (bnI .add (nx x20 2) (.int .i64 1)) fun t39_41=>
 r17 [(nx x20 0),(nx x20 1),t39_41] [])))))) [(nx x15 0),(nx x15 1),(nx x15 2),(.int .i64 0)] []) (
 K [(nx x15 0)] [])) [(.int .i64 0),(nx v12 0),(.int .i64 0)] [])))))
theorem FR.cl2 {w0:World} {a0:Value} {c0 c1 c2 c3:List T} {K:J2} (h:FR.txt ⟨Tryz.prog,w0⟩ a0 c0 c1 c2 c3 K):Eng.cl2 ⟨Tryz.prog,w0⟩ 56 FR.sg [a0] [c0,c1,c2,c3] K:=
 AD (C:=⟨Tryz.prog,w0⟩) (f:=56) (fn:=Tryz.f56) [(54,BO.sg),(58,EY.sg)] [] [(64073,⟨[.p (.j 0) 0, .v, .v, .v, .v],[],[.bx [.t (.f 0) 8, .t (.f 1) 2, .t (.f 2) 1, .t (.f 3) 1]]⟩),(16018,⟨[.p (.j 0) 0, .v, .v, .v, .v],[],[.bx [.t (.f 0) 8, .t (.f 1) 2, .t (.f 2) 1, .t (.f 3) 1]]⟩),(250,⟨[.p (.j 0) 0, .v, .v, .v],[],[.bx [.t (.f 0) 8, .t (.f 1) 2, .t (.f 2) 1, .t (.f 3) 1]]⟩)] Tryz.func56 (by kernel_rfl) (by kernel_rfl) (by kernel_rfl) h
def G7.sg:Sg:=⟨[(0,[.t 1 0]),(0,[.v])],[(0,[.v])],[]⟩
def G7.txt (C:Ctx) (a0:Value) (c0:List T) (K:J2):Prop:=
 BC (fun r3 x1 k2=>
 prP (bnI .lss (nx x1 1) (iv (cnt 1 c0))) fun t9_5=>
 AV t9_5 (
 ixW (cnt 1 c0) (nx x1 1) fun t14_6=>
 ldc c0 [] ((AA t14_6)*1) fun t15_7=>
 prP (bnI .eql t15_7 (nx x1 0)) fun t17_8=>
 AV t17_8 (
 K [(.bool true)] []) (
 prP (bnI .add (nx x1 1) (.int .i64 1)) fun t11_9=>
 r3 [(nx x1 0),t11_9] [])) (
 K [(.bool false)] [])) [a0,(.int .i64 0)] []
theorem G7.cl2 {w0:World} {a0:Value} {c0:List T} {K:J2} (h:G7.txt ⟨Tryz.prog,w0⟩ a0 c0 K):Eng.cl2 ⟨Tryz.prog,w0⟩ 57 G7.sg [a0] [c0] K:=
 AD (C:=⟨Tryz.prog,w0⟩) (f:=57) (fn:=Tryz.f57) [] [] [(26,⟨[.t (.f 0) 1, .v, .v],[],[]⟩)] Tryz.func57 (by kernel_rfl) (by kernel_rfl) (by kernel_rfl) h
def IE.sg:Sg:=⟨[(1,[.t 8 0, .t 2 0, .t 1 0, .t 1 0])],[(0,[.v])],[]⟩
def IE.txt (C:Ctx) (c0 c1 c2 c3:List T) (K:J2):Prop:=
 prP (bnI .neq (iv (cnt 8 c0)) (.int .i64 8)) fun t15_1=>
 gE t15_1 (
 gE t15_1 (
 gE t15_1 (
 gP t15_1 false (prP (bnI .neq (iv (cnt 2 c1)) (.int .i64 8))) fun t20_2=>
 prP (pk t15_1 (.bool true) t20_2) fun t21_3=>
 gE t21_3 (
 gE t21_3 (
 gE t21_3 (
 gP t21_3 false (prP (bnI .gtr (iv (cnt 1 c3)) (.int .i64 6))) fun t26_4=>
 prP (pk t21_3 (.bool true) t26_4) fun t27_5=>
 AV t27_5 (
 K [(.bool false)] []) (
 BC (fun r8 x6 k7=>
 prP (bnI .lss (nx x6 0) (iv (cnt 8 c0))) fun t32_10=>
 AV t32_10 (
 BW (fun x12 k13=>
 prP (bnI .add (nx x12 0) (.int .i64 1)) fun t34_90=>
 r8 [t34_90] []) fun j14=>
 ixW (cnt 8 c0) (nx x6 0) fun t38_15=>
 ldg c0 [] ((AA t38_15)*8) [.c, .c, .c, .c, .c, .c, .l 1, .c] fun ts16=>
 cl2 C 54 BO.sg [(tv (nxT ts16 1)),(.int .i64 0),(.int .i64 999)] [] fun v17 d18=>
 prP (un .not (nx v17 0)) fun t43_20=>
 gE t43_20 (
 gE t43_20 (
 gE t43_20 (
 gP t43_20 false (prP (bnI .neq (iv (cnt 1 (G4 c0 [(((AA t38_15)*8)+6)]))) (.int .i64 3))) fun t48_21=>
 prP (pk t43_20 (.bool true) t48_21) fun t49_22=>
 AV t49_22 (
 K [(.bool false)] []) (
 prP (un .not (tv (nxT ts16 0))) fun t52_23=>
 AV t52_23 (
 prP (bnI .neq (tv (nxT ts16 2)) (.int .i64 0)) fun t55_24=>
 gE t55_24 (
 gE t55_24 (
 gP t55_24 false (prP (bnI .neq (tv (nxT ts16 3)) (.int .i64 0))) fun t59_25=>
 prP (pk t55_24 (.bool true) t59_25) fun t60_26=>
 gE t60_26 (
 gE t60_26 (
 gP t60_26 false (prP (bnI .neq (tv (nxT ts16 4)) (.int .i64 0))) fun t64_27=>
 prP (pk t60_26 (.bool true) t64_27) fun t65_28=>
 gE t65_28 (
 gE t65_28 (
 gP t65_28 false (prP (bnI .neq (tv (nxT ts16 5)) (.int .i64 0))) fun t69_29=>
 prP (pk t65_28 (.bool true) t69_29) fun t70_30=>
 gE t70_30 (
 gE t70_30 (
 prP (pk t70_30 (.bool true) (tv (nxT ts16 7))) fun t74_31=>
 AV t74_31 (
 K [(.bool false)] []) (
 BC (fun r34 x32 k33=>
 prP (bnI .lss (nx x32 1) (.int .i64 3)) fun t76_36=>
 AV t76_36 (
 ixW (cnt 1 (G4 c0 [(AA (nx x32 8))])) (nx x32 1) fun t82_37=>
 ldc c0 [(AA (nx x32 8))] ((AA t82_37)*1) fun t83_38=>
 prP (bnI .neq t83_38 (.int .i64 (-1))) fun t84_39=>
 AV t84_39 (
 K [(.bool false)] []) (
 prP (bnI .add (nx x32 1) (.int .i64 1)) fun t78_40=>
 r34 [(nx x32 0),t78_40,(nx x32 2),(nx x32 3),(nx x32 4),(nx x32 5),(nx x32 6),(nx x32 7),(iv (AA (nx x32 8))),(nx x32 9)] [])) (
 j14 [(nx x32 0)] [])) [(nx x6 0),(.int .i64 0),(tv (nxT ts16 0)),(tv (nxT ts16 1)),(tv (nxT ts16 2)),(tv (nxT ts16 3)),(tv (nxT ts16 4)),(tv (nxT ts16 5)),(iv (((AA t38_15)*8)+6)),(tv (nxT ts16 7))] [])))))))))) (
 prP (bnI .lss (tv (nxT ts16 1)) (.int .i64 1)) fun t87_41=>
 gE t87_41 (
 gE t87_41 (
 gE t87_41 (
 gE t87_41 (
 gE t87_41 (
 gP t87_41 false (prP (bnI .sub (iv (cnt 1 c3)) (.int .i64 1))) fun t94_42=>
 gP t87_41 false ((fun K=>cl2 C 54 BO.sg [(tv (nxT ts16 2)),(.int .i64 0),t94_42] [] fun v43 d44=>K (nx v43 0))) fun t95_45=>
 gP t87_41 false (prP (un .not t95_45)) fun t96_46=>
 prP (pk t87_41 (.bool true) t96_46) fun t97_47=>
 gE t97_47 (
 gE t97_47 (
 gP t97_47 false ((fun K=>cl2 C 54 BO.sg [(tv (nxT ts16 3)),(.int .i64 0),(.int .i64 20)] [] fun v48 d49=>K (nx v48 0))) fun t101_50=>
 gP t97_47 false (prP (un .not t101_50)) fun t102_51=>
 prP (pk t97_47 (.bool true) t102_51) fun t103_52=>
 gE t103_52 (
 gE t103_52 (
 gP t103_52 false ((fun K=>cl2 C 54 BO.sg [(tv (nxT ts16 4)),(.int .i64 0),(.int .i64 20)] [] fun v53 d54=>K (nx v53 0))) fun t107_55=>
 gP t103_52 false (prP (un .not t107_55)) fun t108_56=>
 prP (pk t103_52 (.bool true) t108_56) fun t109_57=>
 AV t109_57 (
 K [(.bool false)] []) (
 BC (fun r60 x58 k59=>
 prP (bnI .lss (nx x58 1) (.int .i64 3)) fun t111_62=>
 AV t111_62 (
 ixW (cnt 1 (G4 c0 [(AA (nx x58 8))])) (nx x58 1) fun t117_63=>
 ldc c0 [(AA (nx x58 8))] ((AA t117_63)*1) fun t118_64=>
 prP (bnI .neq t118_64 (.int .i64 (-1))) fun t119_65=>
 gE t119_65 (
 gE t119_65 (
 gE t119_65 (
 gE t119_65 (
 gP t119_65 true (ixW (cnt 1 (G4 c0 [(AA (nx x58 8))])) (nx x58 1)) fun t125_66=>
 gP t119_65 true (ldc c0 [(AA (nx x58 8))] ((AA t125_66)*1)) fun t126_67=>
 gP t119_65 true ((fun K=>cl2 C 55 B4.sg [t126_67] [c0,c1,c2,c3] fun v68 d69=>K (nx v68 0))) fun t127_70=>
 gP t119_65 true (prP (bnI .lss t127_70 (.int .i64 0))) fun t128_71=>
 prP (pk t119_65 t128_71 (.bool false)) fun t129_72=>
 AV t129_72 (
 K [(.bool false)] []) (
 prP (bnI .add (nx x58 1) (.int .i64 1)) fun t113_73=>
 r60 [(nx x58 0),t113_73,(nx x58 2),(nx x58 3),(nx x58 4),(nx x58 5),(nx x58 6),(nx x58 7),(iv (AA (nx x58 8))),(nx x58 9)] [])))))) (
 prP (bnI .add (nx x58 5) (nx x58 6)) fun t136_74=>
 cl2 C 56 FR.sg [(nx x58 0)] [c0,c1,c2,c3] fun v75 d76=>
 prP (bnI .add t136_74 (nx v75 0)) fun t140_78=>
 prP (bnI .neq (nx x58 7) t140_78) fun t141_79=>
 gE t141_79 (
 gE t141_79 (
 gP t141_79 false (prP (bnI .lss (nx x58 7) (.int .i64 1))) fun t145_80=>
 prP (pk t141_79 (.bool true) t145_80) fun t146_81=>
 gE t146_81 (
 gE t146_81 (
 gE t146_81 (
 gE t146_81 (
 gE t146_81 (
 gE t146_81 (
 gE t146_81 (
 gP t146_81 false ((fun K=>cl2 C 58 EY.sg [(nx x58 0),(nx x58 3)] [] fun v82 d83=>K (nx v82 0))) fun t155_84=>
 gP t146_81 false ((fun K=>cl2 C 57 G7.sg [t155_84] [c2] fun v85 d86=>K (nx v85 0))) fun t156_87=>
 gP t146_81 false (prP (bnB .neq (nx x58 9) t156_87)) fun t157_88=>
 prP (pk t146_81 (.bool true) t157_88) fun t158_89=>
 AV t158_89 (
 K [(.bool false)] []) (
 j14 [(nx x58 0)] [])))))))))))) [(nx x6 0),(.int .i64 0),(tv (nxT ts16 0)),(tv (nxT ts16 1)),(tv (nxT ts16 2)),(tv (nxT ts16 3)),(tv (nxT ts16 4)),(tv (nxT ts16 5)),(iv (((AA t38_15)*8)+6)),(tv (nxT ts16 7))] [])))))))))))))))) (
 BC (fun r93 x91 k92=>
 prP (bnI .lss (nx x91 0) (iv (cnt 2 c1))) fun t163_95=>
 AV t163_95 (
 ixW (cnt 2 c1) (nx x91 0) fun t169_96=>
 ldg c1 [] ((AA t169_96)*2) [.c, .c] fun ts97=>
 prP (un .not (tv (nxT ts97 0))) fun t173_98=>
 gE t173_98 (
 gE t173_98 (
 gP t173_98 true (prP (bnI .neq (tv (nxT ts97 1)) (.int .i64 0))) fun t177_99=>
 prP (pk t173_98 t177_99 (.bool false)) fun t178_100=>
 gE t178_100 (
 gE t178_100 (
 gE t178_100 (
 gE (C2 t178_100 false (tv (nxT ts97 0))) (
 gE (C2 t178_100 false (tv (nxT ts97 0))) (
 gP (C2 t178_100 false (tv (nxT ts97 0))) true ((fun K=>cl2 C 54 BO.sg [(tv (nxT ts97 1)),(.int .i64 8),(.int .i64 7999)] [] fun v101 d102=>K (nx v101 0))) fun t185_103=>
 gP (C2 t178_100 false (tv (nxT ts97 0))) true (prP (un .not t185_103)) fun t186_104=>
 gP t178_100 false (prP (pk (tv (nxT ts97 0)) t186_104 (.bool false))) fun t187_105=>
 prP (pk t178_100 (.bool true) t187_105) fun t188_106=>
 AV t188_106 (
 K [(.bool false)] []) (
 prP (bnI .add (nx x91 0) (.int .i64 1)) fun t165_107=>
 r93 [t165_107] []))))))))) (
 BC (fun r110 x108 k109=>
 prP (bnI .lss (nx x108 0) (iv (cnt 1 c2))) fun t193_112=>
 AV t193_112 (
 ixW (cnt 1 c2) (nx x108 0) fun t200_113=>
 ldc c2 [] ((AA t200_113)*1) fun t201_114=>
 cl2 C 55 B4.sg [t201_114] [c0,c1,c2,c3] fun v115 d116=>
 prP (bnI .lss (nx v115 0) (.int .i64 0)) fun t203_118=>
 gE t203_118 (
 gE t203_118 (
 gE t203_118 (
 gP t203_118 false ((fun K=>scW (cnt 1 c2) none (some (nx x108 0)) fun l m=>K (two l m))) fun t208_119=>
 gE t203_118 (
 gE t203_118 (
 gE t203_118 (
 gP t203_118 false (ixW (cnt 1 c2) (nx x108 0)) fun t212_120=>
 gP t203_118 false (ldc c2 [] ((AA t212_120)*1)) fun t213_121=>
 gP t203_118 false ((fun K=>cl2 C 57 G7.sg [t213_121] [(IP c2 [] ((AA (UT t208_119))*1) ((AA (VM t208_119))*1))] fun v122 d123=>K (nx v122 0))) fun t214_124=>
 prP (pk t203_118 (.bool true) t214_124) fun t215_125=>
 AV t215_125 (
 K [(.bool false)] []) (
 prP (bnI .add (nx x108 0) (.int .i64 1)) fun t195_126=>
 r110 [t195_126] [])))))))) (
 BC (fun r129 x127 k128=>
 prP (bnI .lss (nx x127 0) (iv (cnt 1 c3))) fun t220_131=>
 AV t220_131 (
 ixW (cnt 1 c3) (nx x127 0) fun t226_132=>
 ldc c3 [] ((AA t226_132)*1) fun t227_133=>
 prP (lnS t227_133) fun t228_134=>
 cl2 C 54 BO.sg [t228_134,(.int .i64 1),(.int .i64 8)] [] fun v135 d136=>
 prP (un .not (nx v135 0)) fun t230_138=>
 AV t230_138 (
 K [(.bool false)] []) (
 BC (fun r141 x139 k140=>
 prP (bnI .lss (nx x139 1) (nx x139 0)) fun t233_143=>
 AV t233_143 (
 ixW (cnt 1 c3) (nx x139 1) fun t239_144=>
 ldc c3 [] ((AA t239_144)*1) fun t240_145=>
 ixW (cnt 1 c3) (nx x139 0) fun t244_146=>
 ldc c3 [] ((AA t244_146)*1) fun t245_147=>
 prP (bnS .eql t240_145 t245_147) fun t246_148=>
 AV t246_148 (
 K [(.bool false)] []) (
 prP (bnI .add (nx x139 1) (.int .i64 1)) fun t235_149=>
 r141 [(nx x139 0),t235_149] [])) (
 prP (bnI .add (nx x139 0) (.int .i64 1)) fun t222_150=>
 r129 [t222_150] [])) [(nx x127 0),(.int .i64 0)] [])) (
 K [(.bool true)] [])) [(.int .i64 0)] [])) [(.int .i64 0)] [])) [(.int .i64 0)] [])) [(.int .i64 0)] [])))))))
theorem IE.cl2 {w0:World} {c0 c1 c2 c3:List T} {K:J2} (h:IE.txt ⟨Tryz.prog,w0⟩ c0 c1 c2 c3 K):Eng.cl2 ⟨Tryz.prog,w0⟩ 21 IE.sg [] [c0,c1,c2,c3] K:=
 AD (C:=⟨Tryz.prog,w0⟩) (f:=21) (fn:=Tryz.f21) [(54,BO.sg),(55,B4.sg),(56,FR.sg),(58,EY.sg),(57,G7.sg)] [(22,[0,1,0,7,15,31,63,127,127,383,127,1919,3967,8191,16383,32767]),(24,[0,1,0,4,0,16,60,0,0,384,1020,2047,4095,8191,16383,32767,65535,131071,262143,524287,262143,1310719,262143,262143,8650751,29622271,66322431,134217727,268435455]),(35,[0,0,2,0,14,30,63,127,255,511,1023,511,4095,511,8703,511,57855,123391,262143,524287]),(45,[0,1,0,7,15,0,32,0,224,480,1023])] [(477610,⟨[.p (.j 0) 0, .v, .p (.j 1) 0, .v],[],[.bx [.t (.f 0) 8, .t (.f 1) 2, .t (.f 2) 1, .t (.f 3) 1], .bx [.v, .v, .v, .v, .v, .v, .n (.f 0) 1 1, .v]]⟩),(119418,⟨[.p (.j 0) 0, .v, .p (.j 1) 0, .v],[],[.bx [.t (.f 0) 8, .t (.f 1) 2, .t (.f 2) 1, .t (.f 3) 1], .bx [.v, .v, .v, .v, .v, .v, .n (.f 0) 1 1, .v]]⟩),(233,⟨[.p (.j 0) 0, .v],[],[.bx [.t (.f 0) 8, .t (.f 1) 2, .t (.f 2) 1, .t (.f 3) 1]]⟩),(64806,⟨[.p (.j 0) 0, .v, .v],[],[.bx [.t (.f 0) 8, .t (.f 1) 2, .t (.f 2) 1, .t (.f 3) 1]]⟩),(506,⟨[.p (.j 0) 0, .v],[],[.bx [.t (.f 0) 8, .t (.f 1) 2, .t (.f 2) 1, .t (.f 3) 1]]⟩),(250,⟨[.p (.j 0) 0, .v],[],[.bx [.t (.f 0) 8, .t (.f 1) 2, .t (.f 2) 1, .t (.f 3) 1]]⟩),(122,⟨[.p (.j 0) 0, .v],[],[.bx [.t (.f 0) 8, .t (.f 1) 2, .t (.f 2) 1, .t (.f 3) 1]]⟩),(58,⟨[.p (.j 0) 0, .v],[],[.bx [.t (.f 0) 8, .t (.f 1) 2, .t (.f 2) 1, .t (.f 3) 1]]⟩)] Tryz.func21 (by kernel_rfl) (by kernel_rfl) (by kernel_rfl) h
def GP.sg:Sg:=⟨[(1,[.t 8 0, .t 2 0, .t 1 0, .t 1 0])],[(0,[.v])],[]⟩
def GP.txt (C:Ctx) (c0 c1 c2 c3:List T) (K:J2):Prop:=
 BC (fun r3 x1 k2=>
 prP (bnI .lss (nx x1 0) (iv (cnt 8 c0))) fun t8_5=>
 gE t8_5 (
 gP t8_5 true (prP (bnI .lss (nx x1 0) (.int .i64 8))) fun t11_6=>
 prP (pk t8_5 t11_6 (.bool false)) fun t12_7=>
 AV t12_7 (
 ixW (cnt 8 c0) (nx x1 0) fun t18_8=>
 ldc c0 [] ((AA t18_8)*8) fun t20_9=>
 prP (un .not t20_9) fun t21_10=>
 gE t21_10 (
 gE t21_10 (
 gE t21_10 (
 gP t21_10 true (ixW (cnt 8 c0) (nx x1 0)) fun t26_11=>
 gE t21_10 (
 gP t21_10 true (ldc c0 [] (((AA t26_11)*8)+1)) fun t28_12=>
 gP t21_10 true (prP (bnI .lss t28_12 (.int .i64 999))) fun t29_13=>
 prP (pk t21_10 t29_13 (.bool false)) fun t30_14=>
 AV t30_14 (
 K [(nx x1 0)] []) (
 prP (bnI .add (nx x1 0) (.int .i64 1)) fun t14_15=>
 r3 [t14_15] [])))))) (
 K [(.int .i64 (-1))] []))) [(.int .i64 0)] []
theorem GP.cl2 {w0:World} {c0 c1 c2 c3:List T} {K:J2} (h:GP.txt ⟨Tryz.prog,w0⟩ c0 c1 c2 c3 K):Eng.cl2 ⟨Tryz.prog,w0⟩ 157 GP.sg [] [c0,c1,c2,c3] K:=
 AD (C:=⟨Tryz.prog,w0⟩) (f:=157) (fn:=Tryz.f157) [] [] [(26,⟨[.p (.j 0) 0, .v],[],[.bx [.t (.f 0) 8, .t (.f 1) 2, .t (.f 2) 1, .t (.f 3) 1]]⟩)] Tryz.func157 (by kernel_rfl) (by kernel_rfl) (by kernel_rfl) h
def HF.sg:Sg:=⟨[(1,[.t 8 2, .t 2 0, .t 1 0, .t 1 2]),(1,[.v, .v, .v, .v, .v])],[(1,[.t 8, .a 1, .a 2, .t 1]),(1,[.v, .v, .t 1])],[]⟩
def HF.txt (C:Ctx) (a0 a1 a2 a3 a4:Value) (c0 c1 c2 c3:List T) (K:J2):Prop:=
 prP (lnS a4) fun t12_1=>
 cl2 C 54 BO.sg [t12_1,(.int .i64 1),(.int .i64 8)] [] fun v2 d3=>
 prP (un .not (nx v2 0)) fun t14_5=>
 AV t14_5 (
 K [(.int .i64 2),(.int .i64 0)] [c0,c3,[]]) (
 cl2 C 157 GP.sg [] [c0,c1,c2,c3] fun v6 d7=>
 prP (bnI .lss (nx v6 0) (.int .i64 0)) fun t20_9=>
 AV t20_9 (
 K [(.int .i64 3),(.int .i64 0)] [c0,c3,[]]) (
 BC (fun r12 x10 k11=>
 prP (bnI .lss (nx x10 2) (iv (cnt 1 (nxc k11 1)))) fun t27_14=>
 AV t27_14 (
 BW (fun x16 k17=>
 prP (bnI .add (nx x16 2) (.int .i64 1)) fun t29_22=>
 r12 [(nx x16 0),(nx x16 1),t29_22,(nx x16 3),(nx x16 4),(nx x16 5),(nx x16 6),(nx x16 7),(nx x16 8),(nx x16 9)] [(nxc k17 0),(nxc k17 1)]) fun j18=>
 ixW (cnt 1 (nxc k11 1)) (nx x10 2) fun t33_19=>
 ldc (nxc k11 1) [] ((AA t33_19)*1) fun t34_20=>
 prP (bnS .eql t34_20 (nx x10 7)) fun t37_21=>
 AV t37_21 (
 j18 [(nx x10 0),(nx x10 2),(nx x10 2),(nx x10 3),(nx x10 4),(nx x10 5),(nx x10 6),(nx x10 7),(nx x10 8),(nx x10 9)] [(nxc k11 0),(nxc k11 1)]) (
 j18 [(nx x10 0),(nx x10 1),(nx x10 2),(nx x10 3),(nx x10 4),(nx x10 5),(nx x10 6),(nx x10 7),(nx x10 8),(nx x10 9)] [(nxc k11 0),(nxc k11 1)])) (
 prP (bnI .lss (nx x10 1) (.int .i64 0)) fun t40_23=>
 gE t40_23 (
 gE t40_23 (
 gE t40_23 (
 gP t40_23 true (prP (bnI .geq (iv (cnt 1 (nxc k11 1))) (.int .i64 6))) fun t45_24=>
 prP (pk t40_23 t45_24 (.bool false)) fun t46_25=>
 AV t46_25 (
 K [(.int .i64 6),(.int .i64 0)] [(nxc k11 0),(nxc k11 1),[]]) (
 BW (fun x27 k28=>
 ixW (cnt 8 (nxc k28 0)) (nx x27 0) fun t64_31=>
 ldc (nxc k28 0) [] (((AA t64_31)*8)+1) fun t66_32=>
 prP (bnI .add t66_32 (.int .i64 1)) fun t67_33=>
 cl2 C 102 DP.sg [] [] fun v34 d35=>
 ixW (cnt 8 (nxc k28 0)) (nx x27 0) fun t75_36=>
 stg (nxc k28 0) [] ((AA t75_36)*8) [T.c (.bool true),T.c t67_33,T.c (nx x27 1),T.c (.int .i64 1),T.c (.int .i64 0),T.c (.int .i64 1),T.l 1 (nxc d35 0),T.c (.bool false)] fun k37=>
 cl2 C 58 EY.sg [(nx x27 0),t67_33] [] fun v38 d39=>
 K [(.int .i64 0),(nx v38 0)] [k37,(nxc k28 1),[]]) fun j29=>
 prP (bnI .lss (nx x10 1) (.int .i64 0)) fun t50_30=>
 AV t50_30 (
 apW [T.c (nx x10 7)] true (cnt 1 (nxc k11 1)) (cnt 1 [T.c (nx x10 7)]) 16 (
 j29 [(nx x10 0),(iv (cnt 1 (nxc k11 1))),(nx x10 8),(nx x10 9)] [(nxc k11 0),((nxc k11 1)++[T.c (nx x10 7)])])) (
 j29 [(nx x10 0),(nx x10 1),(nx x10 8),(nx x10 9)] [(nxc k11 0),(nxc k11 1)]))))))) [(nx v6 0),(.int .i64 (-1)),(.int .i64 0),a0,a1,a2,a3,a4,(.int .i64 0),(.int .i64 0)] [c0,c3]))
theorem HF.cl2 {w0:World} {a0 a1 a2 a3 a4:Value} {c0 c1 c2 c3:List T} {K:J2} (h:HF.txt ⟨Tryz.prog,w0⟩ a0 a1 a2 a3 a4 c0 c1 c2 c3 K):Eng.cl2 ⟨Tryz.prog,w0⟩ 104 HF.sg [a0,a1,a2,a3,a4] [c0,c1,c2,c3] K:=
 AD (C:=⟨Tryz.prog,w0⟩) (f:=104) (fn:=Tryz.f104) [(54,BO.sg),(157,GP.sg),(102,DP.sg),(58,EY.sg)] [(10,[0,1,0,7,15,0,32,127]),(18,[0,1,0,0,0,0,56,127,255]),(19,[0,0,0,6,14,15,63])] [(2025,⟨[.p (.j 0) 0, .p (.j 1) 0, .p (.j 2) 0, .p (.j 3) 0, .v, .v, .v],[.w, .t (.f 0) 2, .t (.f 1) 1, .w],[.bx [.t (.j 4) 8, .t (.f 0) 2, .t (.f 1) 1, .t (.j 5) 1], .bx [.v, .v, .v, .v, .v], .bx [.z, .z, .z, .z], .bx [.v, .v, .z], .ls, .ls]⟩),(255,⟨[.p (.j 0) 0, .p (.j 1) 0, .p (.j 2) 0, .v, .v],[.w, .t (.f 0) 2, .t (.f 1) 1, .w],[.bx [.t (.j 3) 8, .t (.f 0) 2, .t (.f 1) 1, .t (.j 4) 1], .bx [.z, .z, .z, .z], .bx [.v, .v, .z], .ls, .ls]⟩),(506,⟨[.p (.j 0) 0, .p (.j 1) 0, .p (.j 2) 0, .p (.j 3) 0, .v, .v, .v],[.w, .t (.f 0) 2, .t (.f 1) 1, .w],[.bx [.t (.j 4) 8, .t (.f 0) 2, .t (.f 1) 1, .t (.j 5) 1], .bx [.v, .v, .v, .v, .v], .bx [.z, .z, .z, .z], .bx [.v, .v, .z], .ls, .ls]⟩)] Tryz.func104 (by kernel_rfl) (by kernel_rfl) (by kernel_rfl) h
def G6.sg:Sg:=⟨[(1,[.t 8 0, .t 2 0, .t 1 0, .t 1 0]),(0,[.v])],[(1,[.t 8, .t 2, .t 1, .t 1])],[]⟩
def G6.txt (C:Ctx) (a0:Value) (c0 c1 c2 c3:List T) (K:J2):Prop:=
 cl2 C 103 DL.sg [] [c0,c1,c2,c3] fun v1 d2=>
 cl2 C 55 B4.sg [a0] [c0,c1,c2,c3] fun v3 d4=>
 BW (fun x7 k8=>
 K [] [(nxc k8 0),(nxc k8 1),(nxc k8 2),(nxc k8 3)]) fun j9=>
 prP (bnI .geq (nx v3 0) (.int .i64 0)) fun t13_10=>
 AV t13_10 (
 ixW (cnt 8 c0) (nx v3 0) fun t20_11=>
 ldc c0 [] (((AA t20_11)*8)+5) fun t22_12=>
 prP (bnI .add t22_12 (.int .i64 1)) fun t23_13=>
 ixW (cnt 8 (nxc d2 0)) (nx v3 0) fun t24_14=>
 stc (nxc d2 0) [] (((AA t24_14)*8)+5) t23_13 fun k15=>
 j9 [] [k15,(nxc d2 1),(nxc d2 2),(nxc d2 3)]) (
 j9 [] [(nxc d2 0),(nxc d2 1),(nxc d2 2),(nxc d2 3)])
theorem G6.cl2 {w0:World} {a0:Value} {c0 c1 c2 c3:List T} {K:J2} (h:G6.txt ⟨Tryz.prog,w0⟩ a0 c0 c1 c2 c3 K):Eng.cl2 ⟨Tryz.prog,w0⟩ 158 G6.sg [a0] [c0,c1,c2,c3] K:=
 AD (C:=⟨Tryz.prog,w0⟩) (f:=158) (fn:=Tryz.f158) [(103,DL.sg),(55,B4.sg)] [(4,[0,1,0,0,8,0,56,120,248,504,1023,2047,4095])] [(15,⟨[.p (.j 0) 0, .p (.j 1) 0],[],[.bx [.z, .z, .z, .z], .bx [.t (.j 2) 8, .t (.j 3) 2, .t (.j 4) 1, .t (.j 5) 1], .ls, .ls, .ls, .ls]⟩)] Tryz.func158 (by kernel_rfl) (by kernel_rfl) (by kernel_rfl) h
def FT.sg:Sg:=⟨[(0,[.t 1 0]),(0,[.v])],[(0,[.t 1])],[]⟩
def FT.txt (C:Ctx) (a0:Value) (c0:List T) (K:J2):Prop:=
 BC (fun r3 x1 k2=>
 prP (bnI .lss (nx x1 1) (iv (cnt 1 c0))) fun t11_5=>
 AV t11_5 (
 BW (fun x7 k8=>
 prP (bnI .add (nx x7 1) (.int .i64 1)) fun t13_15=>
 r3 [(nx x7 0),t13_15] [(nxc k8 0)]) fun j9=>
 ixW (cnt 1 c0) (nx x1 1) fun t16_10=>
 ldc c0 [] ((AA t16_10)*1) fun t17_11=>
 prP (bnI .neq t17_11 (nx x1 0)) fun t19_12=>
 AV t19_12 (
 ixW (cnt 1 c0) (nx x1 1) fun t23_13=>
 ldc c0 [] ((AA t23_13)*1) fun t24_14=>
 apW [T.c t24_14] true (cnt 1 (nxc k2 0)) (cnt 1 [T.c t24_14]) 8 (
 j9 [(nx x1 0),(nx x1 1)] [((nxc k2 0)++[T.c t24_14])])) (
 j9 [(nx x1 0),(nx x1 1)] [(nxc k2 0)])) (
 K [] [(nxc k2 0)])) [a0,(.int .i64 0)] [[]]
theorem FT.cl2 {w0:World} {a0:Value} {c0:List T} {K:J2} (h:FT.txt ⟨Tryz.prog,w0⟩ a0 c0 K):Eng.cl2 ⟨Tryz.prog,w0⟩ 184 FT.sg [a0] [c0] K:=
 AD (C:=⟨Tryz.prog,w0⟩) (f:=184) (fn:=Tryz.f184) [] [] [(233,⟨[.t (.f 0) 1, .v, .t (.j 0) 1, .v],[],[.ls]⟩),(58,⟨[.t (.f 0) 1, .v, .t (.j 0) 1, .v],[],[.ls]⟩)] Tryz.func184 (by kernel_rfl) (by kernel_rfl) (by kernel_rfl) h
def HT.sg:Sg:=⟨[(1,[.t 8 0, .t 2 0, .t 1 0, .t 1 0]),(0,[.t 1 0])],[(1,[.t 8, .t 2, .t 1, .t 1]),(0,[.t 1])],[]⟩
def HT.txt (C:Ctx) (c0 c1 c2 c3 c4:List T) (K:J2):Prop:=
 cl2 C 103 DL.sg [] [c0,c1,c2,c3] fun v1 d2=>
 apW c4 true (cnt 1 []) (cnt 1 c4) 8 (
 BC (fun r5 x3 k4=>
 prP (bnI .gtr (iv (AA (nx x3 0))) (.int .i64 0)) fun t20_65=>
 gE t20_65 (
 gE t20_65 (
 gP t20_65 true (prP (bnI .leq (iv (cnt 1 (nxc k4 0))) (.int .i64 8))) fun t24_66=>
 prP (pk t20_65 t24_66 (.bool false)) fun t25_67=>
 AV t25_67 (
 ixW (AA (nx x3 0)) (.int .i64 0) fun t27_68=>
 ldc (nxc k4 1) [] ((AA (nx x3 1))+((AA t27_68)*1)) fun t28_69=>
 scW (AA (nx x3 0)) (some (.int .i64 1)) none fun l70 m71=>
 cl2 C 55 B4.sg [t28_69] [(nxc k4 2),(nxc k4 3),(nxc k4 4),(nxc k4 5)] fun v72 d73=>
 prP (bnI .lss (nx v72 0) (.int .i64 0)) fun t35_75=>
 AV t35_75 (
 r5 [(iv (AA m71)),(iv ((AA (nx x3 1))+((AA l70)*1)))] [(nxc k4 0),(nxc k4 1),(nxc k4 2),(nxc k4 3),(nxc k4 4),(nxc k4 5)]) (
 ixW (cnt 8 (nxc k4 2)) (nx v72 0) fun t42_76=>
 ldc (nxc k4 2) [] (((AA t42_76)*8)+5) fun t44_77=>
 prP (bnI .sub t44_77 (.int .i64 1)) fun t45_78=>
 ixW (cnt 8 (nxc k4 2)) (nx v72 0) fun t46_79=>
 stc (nxc k4 2) [] (((AA t46_79)*8)+5) t45_78 fun k80=>
 ixW (cnt 8 k80) (nx v72 0) fun t51_81=>
 ldc k80 [] (((AA t51_81)*8)+5) fun t53_82=>
 prP (bnI .gtr t53_82 (.int .i64 0)) fun t54_83=>
 AV t54_83 (
 BW (fun x85 k86=>
 r5 [(iv (AA (nx x85 0))),(iv (AA (nx x85 1)))] [(nxc k86 0),(nxc k86 1),(nxc k86 2),(nxc k86 3),(nxc k86 4),(nxc k86 5)]) fun j87=>
 ixW (cnt 8 k80) (nx v72 0) fun t58_88=>
 ldc k80 [] (((AA t58_88)*8)+7) fun t60_89=>
 prP (un .not t60_89) fun t61_90=>
 AV t61_90 (
 ixW (cnt 8 k80) (nx v72 0) fun t65_91=>
 stc k80 [] (((AA t65_91)*8)+7) (.bool true) fun k92=>
 apW [T.c t28_69] true (cnt 1 (nxc k4 4)) (cnt 1 [T.c t28_69]) 8 (
 j87 [(iv (AA m71)),(iv ((AA (nx x3 1))+((AA l70)*1)))] [(nxc k4 0),(nxc k4 1),k92,(nxc k4 3),((nxc k4 4)++[T.c t28_69]),(nxc k4 5)])) (
 j87 [(iv (AA m71)),(iv ((AA (nx x3 1))+((AA l70)*1)))] [(nxc k4 0),(nxc k4 1),k80,(nxc k4 3),(nxc k4 4),(nxc k4 5)])) (
 apW [T.c t28_69] true (cnt 1 (nxc k4 0)) (cnt 1 [T.c t28_69]) 8 (
 BC (fun r95 x93 k94=>
 ixW (cnt 8 (nxc k94 2)) (nx x93 3) fun t81_97=>
 ldl (nxc k94 2) [] (((AA t81_97)*8)+6) 1 fun t83_98=>
 prP (bnI .lss (nx x93 4) (iv (cnt 1 (G4 (nxc k94 2) [(((AA t81_97)*8)+6)])))) fun t85_99=>
 AV t85_99 (
 BW (fun x101 k102=>
 prP (bnI .add (nx x101 4) (.int .i64 1)) fun t87_113=>
 r95 [(iv (AA (nx x101 0))),(iv (AA (nx x101 1))),(nx x101 2),(nx x101 3),t87_113] [(nxc k102 0),(nxc k102 1),(nxc k102 2),(nxc k102 3),(nxc k102 4),(nxc k102 5)]) fun j103=>
 ixW (cnt 8 (nxc k94 2)) (nx x93 3) fun t91_104=>
 ldl (nxc k94 2) [] (((AA t91_104)*8)+6) 1 fun t93_105=>
 ixW (cnt 1 (G4 (nxc k94 2) [(((AA t91_104)*8)+6)])) (nx x93 4) fun t95_106=>
 ldc (nxc k94 2) [(((AA t91_104)*8)+6)] ((AA t95_106)*1) fun t96_107=>
 prP (bnI .geq t96_107 (.int .i64 0)) fun t97_108=>
 AV t97_108 (
 ixW (cnt 8 (nxc k94 2)) (nx x93 3) fun t102_109=>
 ldl (nxc k94 2) [] (((AA t102_109)*8)+6) 1 fun t104_110=>
 ixW (cnt 1 (G4 (nxc k94 2) [(((AA t102_109)*8)+6)])) (nx x93 4) fun t106_111=>
 ldc (nxc k94 2) [(((AA t102_109)*8)+6)] ((AA t106_111)*1) fun t107_112=>
 apW [T.c t107_112] true (AA (nx x93 0)) (cnt 1 [T.c t107_112]) 8 (
 j103 [(iv (cnt 1 ((IP (nxc k94 1) [] (AA (nx x93 1)) ((AA (nx x93 0))*1))++[T.c t107_112]))),(iv 0),(nx x93 2),(nx x93 3),(nx x93 4)] [(nxc k94 0),((IP (nxc k94 1) [] (AA (nx x93 1)) ((AA (nx x93 0))*1))++[T.c t107_112]),(nxc k94 2),(nxc k94 3),(nxc k94 4),(nxc k94 5)])) (
 j103 [(iv (AA (nx x93 0))),(iv (AA (nx x93 1))),(nx x93 2),(nx x93 3),(nx x93 4)] [(nxc k94 0),(nxc k94 1),(nxc k94 2),(nxc k94 3),(nxc k94 4),(nxc k94 5)])) (
 cl2 C 184 FT.sg [(nx x93 2)] [(nxc k94 4)] fun v114 d115=>
 ixW (cnt 8 (nxc k94 2)) (nx x93 3) fun t121_116=>
 ldc (nxc k94 2) [] (((AA t121_116)*8)+1) fun t123_117=>
 cl2 C 102 DP.sg [] [] fun v118 d119=>
 ixW (cnt 8 (nxc k94 2)) (nx x93 3) fun t126_120=>
 stg (nxc k94 2) [] ((AA t126_120)*8) [T.c (.bool false),T.c t123_117,T.c (.int .i64 0),T.c (.int .i64 0),T.c (.int .i64 0),T.c (.int .i64 0),T.l 1 (nxc d119 0),T.c (.bool false)] fun k121=>
 r5 [(iv (AA (nx x93 0))),(iv (AA (nx x93 1)))] [(nxc k94 0),(nxc k94 1),k121,(nxc k94 3),(nxc d115 0),(nxc k94 5)])) [(iv (AA m71)),(iv ((AA (nx x3 1))+((AA l70)*1))),t28_69,(nx v72 0),(.int .i64 0)] [((nxc k4 0)++[T.c t28_69]),(nxc k4 1),k80,(nxc k4 3),(nxc k4 4),(nxc k4 5)])))) (
 K [] [(nxc k4 2),(nxc k4 3),(nxc k4 4),(nxc k4 5),(nxc k4 0)])))) [(iv (cnt 1 ([]++c4))),(iv 0)] [[],([]++c4),(nxc d2 0),(nxc d2 1),(nxc d2 2),(nxc d2 3)])
theorem HT.cl2 {w0:World} {c0 c1 c2 c3 c4:List T} {K:J2} (h:HT.txt ⟨Tryz.prog,w0⟩ c0 c1 c2 c3 c4 K):Eng.cl2 ⟨Tryz.prog,w0⟩ 159 HT.sg [] [c0,c1,c2,c3,c4] K:=
 AD (C:=⟨Tryz.prog,w0⟩) (f:=159) (fn:=Tryz.f159) [(103,DL.sg),(55,B4.sg),(184,FT.sg),(102,DP.sg)] [(9,[0,1,0,0,8,0,56,120,248,504,1023,2047,4095]),(21,[0,1,0,0,8,0,56,120,248,0,1016,2047,4095])] [(254714,⟨[.p (.j 0) 0, .p (.j 1) 0, .t (.j 2) 1, .s (.j 3) 0 1],[],[.bx [.z, .z, .z, .z], .bx [.t (.j 4) 8, .t (.j 5) 2, .t (.j 6) 1, .t (.j 7) 1], .ls, .ls, .ls, .ls, .ls, .ls]⟩),(4075497,⟨[.p (.j 0) 0, .p (.j 1) 0, .t (.j 2) 1, .s (.j 3) 0 1, .v, .v, .v],[],[.bx [.z, .z, .z, .z], .bx [.t (.j 4) 8, .t (.j 5) 2, .t (.j 6) 1, .t (.j 7) 1], .ls, .ls, .ls, .ls, .ls, .ls]⟩),(1018874,⟨[.p (.j 0) 0, .p (.j 1) 0, .t (.j 2) 1, .s (.j 3) 0 1, .v, .v, .v],[],[.bx [.z, .z, .z, .z], .bx [.t (.j 4) 8, .t (.j 5) 2, .t (.j 6) 1, .t (.j 7) 1], .ls, .ls, .ls, .ls, .ls, .ls]⟩),(124,⟨[.p (.j 0) 0, .p (.j 1) 0, .t (.j 2) 1, .s (.j 3) 0 1],[],[.bx [.z, .z, .z, .z], .bx [.t (.j 4) 8, .t (.j 5) 2, .t (.j 6) 1, .t (.j 7) 1], .ls, .ls, .ls, .ls, .ls, .ls]⟩)] Tryz.func159 (by kernel_rfl) (by kernel_rfl) (by kernel_rfl) h
def IA.sg:Sg:=⟨[(1,[.t 8 2, .t 2 2, .t 1 2, .t 1 2]),(1,[.v, .v, .v, .v, .v])],[(1,[.t 8, .t 2, .t 1, .t 1]),(1,[.v, .v, .t 1])],[]⟩
def IA.txt (C:Ctx) (a0 a1 a2 a3 a4:Value) (c0 c1 c2 c3:List T) (K:J2):Prop:=
 cl2 C 55 B4.sg [a1] [c0,c1,c2,c3] fun v1 d2=>
 prP (bnI .lss (nx v1 0) (.int .i64 0)) fun t15_4=>
 AV t15_4 (
 K [(.int .i64 1),(.int .i64 0)] [c0,c1,c2,c3,[]]) (
 ixW (cnt 8 c0) (nx v1 0) fun t21_5=>
 ldg c0 [] ((AA t21_5)*8) [.c, .c, .c, .c, .c, .c, .l 1, .c] fun ts6=>
 BW (fun x8 k9=>
 cl2 C 159 HT.sg [] [(nxc k9 0),(nxc k9 1),(nxc k9 2),(nxc k9 3),[T.c (nx x8 1)]] fun v50 d51=>
 K [(.int .i64 0),(.int .i64 0)] [(nxc d51 0),(nxc d51 1),(nxc d51 2),(nxc d51 3),(nxc d51 4)]) fun j10=>
 BW (fun x12 k13=>
 AV (nx x12 1) (
 K [(.int .i64 4),(.int .i64 0)] [(nxc k13 0),(nxc k13 1),(nxc k13 2),(nxc k13 3),[]]) (
 BW (fun x22 k23=>
 AV (nx x22 1) (
 K [(.int .i64 5),(.int .i64 0)] [(nxc k23 0),(nxc k23 1),(nxc k23 2),(nxc k23 3),[]]) (
 prP (bnI .eql (nx x22 2) (.int .i64 2)) fun t72_31=>
 AV t72_31 (
 prP (bnI .add (nx x22 12) (.int .i64 1)) fun t78_32=>
 ixW (cnt 8 (nxc k23 0)) (nx x22 0) fun t79_33=>
 stc (nxc k23 0) [] (((AA t79_33)*8)+3) t78_32 fun k34=>
 cl2 C 158 G6.sg [(nx x22 3)] [k34,(nxc k23 1),(nxc k23 2),(nxc k23 3)] fun v35 d36=>
 K [(.int .i64 0),(.int .i64 0)] [(nxc d36 0),(nxc d36 1),(nxc d36 2),(nxc d36 3),[]]) (
 prP (bnI .eql (nx x22 2) (.int .i64 5)) fun t89_37=>
 AV t89_37 (
 prP (bnI .add (nx x22 13) (.int .i64 1)) fun t95_38=>
 ixW (cnt 8 (nxc k23 0)) (nx x22 0) fun t96_39=>
 stc (nxc k23 0) [] (((AA t96_39)*8)+4) t95_38 fun k40=>
 cl2 C 158 G6.sg [(nx x22 3)] [k40,(nxc k23 1),(nxc k23 2),(nxc k23 3)] fun v41 d42=>
 K [(.int .i64 0),(.int .i64 0)] [(nxc d42 0),(nxc d42 1),(nxc d42 2),(nxc d42 3),[]]) (
 prP (bnI .eql (nx x22 2) (.int .i64 3)) fun t106_43=>
 AV t106_43 (
 prP (bnI .sub (nx x22 12) (.int .i64 1)) fun t112_44=>
 ixW (cnt 8 (nxc k23 0)) (nx x22 0) fun t113_45=>
 stc (nxc k23 0) [] (((AA t113_45)*8)+3) t112_44 fun k46=>
 j10 [(nx x22 2),(nx x22 3),(nx x22 4),(nx x22 5),(nx x22 6),(nx x22 7),(nx x22 8)] [k46,(nxc k23 1),(nxc k23 2),(nxc k23 3)]) (
 prP (bnI .sub (nx x22 13) (.int .i64 1)) fun t28_47=>
 ixW (cnt 8 (nxc k23 0)) (nx x22 0) fun t29_48=>
 stc (nxc k23 0) [] (((AA t29_48)*8)+4) t28_47 fun k49=>
 j10 [(nx x22 2),(nx x22 3),(nx x22 4),(nx x22 5),(nx x22 6),(nx x22 7),(nx x22 8)] [k49,(nxc k23 1),(nxc k23 2),(nxc k23 3)]))))) fun j24=>
 prP (bnI .eql (nx x12 2) (.int .i64 3)) fun t53_25=>
 gE t53_25 (
 gE t53_25 (
 gP t53_25 true (prP (bnI .lss (nx x12 12) (.int .i64 1))) fun t57_26=>
 prP (pk t53_25 t57_26 (.bool false)) fun t58_27=>
 AV t58_27 (
 j24 [(nx x12 0),t58_27,(nx x12 2),(nx x12 3),(nx x12 4),(nx x12 5),(nx x12 6),(nx x12 7),(nx x12 8),(nx x12 9),(nx x12 10),(nx x12 11),(nx x12 12),(nx x12 13),(nx x12 14),(iv (AA (nx x12 15))),(nx x12 16)] [(nxc k13 0),(nxc k13 1),(nxc k13 2),(nxc k13 3)]) (
 prP (bnI .eql (nx x12 2) (.int .i64 6)) fun t61_28=>
 gE t61_28 (
 gE t61_28 (
 gP t61_28 true (prP (bnI .lss (nx x12 13) (.int .i64 1))) fun t65_29=>
 prP (pk t61_28 t65_29 (.bool false)) fun t66_30=>
 j24 [(nx x12 0),t66_30,(nx x12 2),(nx x12 3),(nx x12 4),(nx x12 5),(nx x12 6),(nx x12 7),(nx x12 8),(nx x12 9),(nx x12 10),(nx x12 11),(nx x12 12),(nx x12 13),(nx x12 14),(iv (AA (nx x12 15))),(nx x12 16)] [(nxc k13 0),(nxc k13 1),(nxc k13 2),(nxc k13 3)]))))))) fun j14=>
 prP (bnI .eql a0 (.int .i64 2)) fun t34_15=>
 gE t34_15 (
 gE t34_15 (
 gP t34_15 true (prP (bnI .geq (tv (nxT ts6 3)) (.int .i64 20))) fun t38_16=>
 prP (pk t34_15 t38_16 (.bool false)) fun t39_17=>
 AV t39_17 (
 j14 [(nx v1 0),t39_17,a0,a1,a2,a3,a4,(.int .i64 0),(.int .i64 0),(tv (nxT ts6 0)),(tv (nxT ts6 1)),(tv (nxT ts6 2)),(tv (nxT ts6 3)),(tv (nxT ts6 4)),(tv (nxT ts6 5)),(iv (((AA t21_5)*8)+6)),(tv (nxT ts6 7))] [c0,c1,c2,c3]) (
 prP (bnI .eql a0 (.int .i64 5)) fun t42_18=>
 gE t42_18 (
 gE t42_18 (
 gP t42_18 true (prP (bnI .geq (tv (nxT ts6 4)) (.int .i64 20))) fun t46_19=>
 prP (pk t42_18 t46_19 (.bool false)) fun t47_20=>
 j14 [(nx v1 0),t47_20,a0,a1,a2,a3,a4,(.int .i64 0),(.int .i64 0),(tv (nxT ts6 0)),(tv (nxT ts6 1)),(tv (nxT ts6 2)),(tv (nxT ts6 3)),(tv (nxT ts6 4)),(tv (nxT ts6 5)),(iv (((AA t21_5)*8)+6)),(tv (nxT ts6 7))] [c0,c1,c2,c3]))))))
theorem IA.cl2 {w0:World} {a0 a1 a2 a3 a4:Value} {c0 c1 c2 c3:List T} {K:J2} (h:IA.txt ⟨Tryz.prog,w0⟩ a0 a1 a2 a3 a4 c0 c1 c2 c3 K):Eng.cl2 ⟨Tryz.prog,w0⟩ 105 IA.sg [a0,a1,a2,a3,a4] [c0,c1,c2,c3] K:=
 AD (C:=⟨Tryz.prog,w0⟩) (f:=105) (fn:=Tryz.f105) [(55,B4.sg),(158,G6.sg),(159,HT.sg)] [] [(124,⟨[.p (.j 0) 0, .p (.j 1) 0, .p (.j 2) 0, .p (.j 3) 0, .v, .p (.j 4) 0, .v],[],[.bx [.t (.j 5) 8, .t (.j 6) 2, .t (.j 7) 1, .t (.j 8) 1], .bx [.v, .v, .v, .v, .v], .bx [.z, .z, .z, .z], .bx [.v, .v, .z], .bx [.v, .v, .v, .v, .v, .v, .n (.j 5) 1 1, .v], .ls, .ls, .ls, .ls]⟩),(499,⟨[.p (.j 0) 0, .p (.j 1) 0, .p (.j 2) 0, .p (.j 3) 0, .v, .p (.j 4) 0, .v],[],[.bx [.t (.j 5) 8, .t (.j 6) 2, .t (.j 7) 1, .t (.j 8) 1], .bx [.v, .v, .v, .v, .v], .bx [.z, .z, .z, .z], .bx [.v, .v, .z], .bx [.v, .v, .v, .v, .v, .v, .n (.j 5) 1 1, .v], .ls, .ls, .ls, .ls]⟩),(31,⟨[.p (.j 0) 0, .p (.j 1) 0, .p (.j 2) 0, .p (.j 3) 0],[],[.bx [.t (.j 4) 8, .t (.j 5) 2, .t (.j 6) 1, .t (.j 7) 1], .bx [.v, .v, .v, .v, .v], .bx [.z, .z, .z, .z], .bx [.v, .v, .z], .ls, .ls, .ls, .ls]⟩)] Tryz.func105 (by kernel_rfl) (by kernel_rfl) (by kernel_rfl) h
def HL.sg:Sg:=⟨[(1,[.t 8 2, .t 2 2, .t 1 2, .t 1 2]),(1,[.v, .v, .v, .v, .v])],[(1,[.t 8, .t 2, .t 1, .t 1]),(1,[.v, .v, .t 1])],[]⟩
def HL.txt (C:Ctx) (a0 a1 a2 a3 a4:Value) (c0 c1 c2 c3:List T) (K:J2):Prop:=
 cl2 C 55 B4.sg [a1] [c0,c1,c2,c3] fun v1 d2=>
 prP (bnI .lss (nx v1 0) (.int .i64 0)) fun t15_4=>
 gE t15_4 (
 gE t15_4 (
 gP t15_4 false (prP (bnI .neq a3 (.int .i64 (-1)))) fun t19_5=>
 gE t15_4 (
 gE (C2 t15_4 false t19_5) (
 gE (C2 t15_4 false t19_5) (
 gE (C2 t15_4 false t19_5) (
 gP (C2 t15_4 false t19_5) true ((fun K=>cl2 C 55 B4.sg [a3] [c0,c1,c2,c3] fun v6 d7=>K (nx v6 0))) fun t24_8=>
 gP (C2 t15_4 false t19_5) true (prP (bnI .lss t24_8 (.int .i64 0))) fun t25_9=>
 gP t15_4 false (prP (pk t19_5 t25_9 (.bool false))) fun t26_10=>
 prP (pk t15_4 (.bool true) t26_10) fun t27_11=>
 AV t27_11 (
 K [(.int .i64 1),(.int .i64 0)] [c0,c1,c2,c3,[]]) (
 cl2 C 54 BO.sg [a2,(.int .i64 0),(.int .i64 2)] [] fun v12 d13=>
 prP (un .not (nx v12 0)) fun t33_15=>
 AV t33_15 (
 K [(.int .i64 2),(.int .i64 0)] [c0,c1,c2,c3,[]]) (
 ixW (cnt 8 c0) (nx v1 0) fun t39_16=>
 ldl c0 [] (((AA t39_16)*8)+6) 1 fun t41_17=>
 ixW (cnt 1 (G4 c0 [(((AA t39_16)*8)+6)])) a2 fun t44_18=>
 ldc c0 [(((AA t39_16)*8)+6)] ((AA t44_18)*1) fun t45_19=>
 BW (fun x21 k22=>
 ixW (cnt 8 (nxc k22 0)) (nx x21 0) fun t56_27=>
 ldl (nxc k22 0) [] (((AA t56_27)*8)+6) 1 fun t58_28=>
 ixW (cnt 1 (G4 (nxc k22 0) [(((AA t56_27)*8)+6)])) (nx x21 4) fun t63_29=>
 stc (nxc k22 0) [(((AA t56_27)*8)+6)] ((AA t63_29)*1) (nx x21 5) fun k30=>
 prP (bnI .lss (nx x21 1) (.int .i64 0)) fun t65_31=>
 AV t65_31 (
 K [(.int .i64 0),(.int .i64 0)] [k30,(nxc k22 1),(nxc k22 2),(nxc k22 3),[]]) (
 cl2 C 159 HT.sg [] [k30,(nxc k22 1),(nxc k22 2),(nxc k22 3),[T.c (nx x21 1)]] fun v32 d33=>
 K [(.int .i64 0),(.int .i64 0)] [(nxc d33 0),(nxc d33 1),(nxc d33 2),(nxc d33 3),(nxc d33 4)])) fun j23=>
 prP (bnI .geq a3 (.int .i64 0)) fun t48_24=>
 AV t48_24 (
 cl2 C 158 G6.sg [a3] [c0,c1,c2,c3] fun v25 d26=>
 j23 [(nx v1 0),t45_19,a0,a1,a2,a3,a4,(.int .i64 0),(.int .i64 0)] [(nxc d26 0),(nxc d26 1),(nxc d26 2),(nxc d26 3)]) (
 j23 [(nx v1 0),t45_19,a0,a1,a2,a3,a4,(.int .i64 0),(.int .i64 0)] [c0,c1,c2,c3])))))))))
theorem HL.cl2 {w0:World} {a0 a1 a2 a3 a4:Value} {c0 c1 c2 c3:List T} {K:J2} (h:HL.txt ⟨Tryz.prog,w0⟩ a0 a1 a2 a3 a4 c0 c1 c2 c3 K):Eng.cl2 ⟨Tryz.prog,w0⟩ 106 HL.sg [a0,a1,a2,a3,a4] [c0,c1,c2,c3] K:=
 AD (C:=⟨Tryz.prog,w0⟩) (f:=106) (fn:=Tryz.f106) [(55,B4.sg),(54,BO.sg),(158,G6.sg),(159,HT.sg)] [(6,[0,1,0,7,15,31,0,64,255,511,1023]),(9,[0,1,0,7,15,31,0,64,0,256,1023,2047])] [(63,⟨[.p (.j 0) 0, .p (.j 1) 0, .p (.j 2) 0, .p (.j 3) 0, .v, .v],[],[.bx [.t (.j 4) 8, .t (.j 5) 2, .t (.j 6) 1, .t (.j 7) 1], .bx [.v, .v, .v, .v, .v], .bx [.z, .z, .z, .z], .bx [.v, .v, .z], .ls, .ls, .ls, .ls]⟩)] Tryz.func106 (by kernel_rfl) (by kernel_rfl) (by kernel_rfl) h
def H7.sg:Sg:=⟨[(1,[.t 8 0, .t 2 2, .t 1 0, .t 1 0]),(1,[.v, .v, .v, .v, .v])],[(1,[.a 0, .t 2, .a 2, .a 3]),(1,[.v, .v, .t 1])],[]⟩
def H7.txt (C:Ctx) (a0 a1 a2 a3 a4:Value) (c0 c1 c2 c3:List T) (K:J2):Prop:=
 prP (bnI .eql a0 (.int .i64 7)) fun t10_1=>
 AV t10_1 (
 cl2 C 55 B4.sg [a1] [c0,c1,c2,c3] fun v2 d3=>
 prP (bnI .lss (nx v2 0) (.int .i64 0)) fun t15_5=>
 AV t15_5 (
 K [(.int .i64 1),(.int .i64 0)] [c1,[]]) (
 BC (fun r8 x6 k7=>
 prP (bnI .lss (nx x6 0) (iv (cnt 2 (nxc k7 0)))) fun t22_10=>
 AV t22_10 (
 ixW (cnt 2 (nxc k7 0)) (nx x6 0) fun t28_11=>
 ldc (nxc k7 0) [] ((AA t28_11)*2) fun t30_12=>
 prP (un .not t30_12) fun t31_13=>
 AV t31_13 (
 ixW (cnt 2 (nxc k7 0)) (nx x6 0) fun t38_14=>
 stg (nxc k7 0) [] ((AA t38_14)*2) [T.c (.bool true),T.c (nx x6 2)] fun k15=>
 K [(.int .i64 0),(nx x6 0)] [k15,[]]) (
 prP (bnI .add (nx x6 0) (.int .i64 1)) fun t24_16=>
 r8 [t24_16,(nx x6 1),(nx x6 2),(nx x6 3),(nx x6 4),(nx x6 5),(nx x6 6),(nx x6 7)] [(nxc k7 0)])) (
 K [(.int .i64 3),(.int .i64 0)] [(nxc k7 0),[]])) [(.int .i64 0),a0,a1,a2,a3,a4,(.int .i64 0),(.int .i64 0)] [c1])) (
 prP (bnI .sub (iv (cnt 2 c1)) (.int .i64 1)) fun t49_17=>
 cl2 C 54 BO.sg [a1,(.int .i64 0),t49_17] [] fun v18 d19=>
 prP (un .not (nx v18 0)) fun t51_21=>
 gE t51_21 (
 gE t51_21 (
 gE t51_21 (
 gE t51_21 (
 gP t51_21 false (ixW (cnt 2 c1) a1) fun t57_22=>
 gE t51_21 (
 gP t51_21 false (ldc c1 [] ((AA t57_22)*2)) fun t59_23=>
 gP t51_21 false (prP (un .not t59_23)) fun t60_24=>
 prP (pk t51_21 (.bool true) t60_24) fun t61_25=>
 AV t61_25 (
 K [(.int .i64 2),(.int .i64 0)] [c1,[]]) (
 prP (bnI .eql a0 (.int .i64 9)) fun t66_26=>
 AV t66_26 (
 ixW (cnt 2 c1) a1 fun t72_27=>
 stg c1 [] ((AA t72_27)*2) [T.c (.bool false),T.c (.int .i64 0)] fun k28=>
 K [(.int .i64 0),(.int .i64 0)] [k28,[]]) (
 ixW (cnt 2 c1) a1 fun t79_29=>
 ldc c1 [] (((AA t79_29)*2)+1) fun t81_30=>
 cl2 C 55 B4.sg [t81_30] [c0,c1,c2,c3] fun v31 d32=>
 prP (bnI .lss (nx v31 0) (.int .i64 0)) fun t85_34=>
 AV t85_34 (
 K [(.int .i64 0),(.int .i64 (-1))] [c1,[]]) (
 K [(.int .i64 0),t81_30] [c1,[]])))))))))
theorem H7.cl2 {w0:World} {a0 a1 a2 a3 a4:Value} {c0 c1 c2 c3:List T} {K:J2} (h:H7.txt ⟨Tryz.prog,w0⟩ a0 a1 a2 a3 a4 c0 c1 c2 c3 K):Eng.cl2 ⟨Tryz.prog,w0⟩ 107 H7.sg [a0,a1,a2,a3,a4] [c0,c1,c2,c3] K:=
 AD (C:=⟨Tryz.prog,w0⟩) (f:=107) (fn:=Tryz.f107) [(55,B4.sg),(54,BO.sg)] [] [(426,⟨[.p (.j 0) 0, .p (.j 1) 0, .p (.j 2) 0, .p (.j 3) 0, .v],[.t (.f 0) 8, .w, .t (.f 1) 1, .t (.f 2) 1],[.bx [.t (.f 0) 8, .t (.j 4) 2, .t (.f 1) 1, .t (.f 2) 1], .bx [.v, .v, .v, .v, .v], .bx [.z, .z, .z, .z], .bx [.v, .v, .z], .ls]⟩)] Tryz.func107 (by kernel_rfl) (by kernel_rfl) (by kernel_rfl) h
def GF.sg:Sg:=⟨[(1,[.t 8 0, .t 2 0, .t 1 0, .t 1 0])],[(1,[.t 1, .t 1])],[]⟩
def GF.txt (C:Ctx) (c0 c1 c2 c3:List T) (K:J2):Prop:=
 BC (fun r3 x1 k2=>
 prP (bnI .lss (nx x1 0) (iv (cnt 8 c0))) fun t10_12=>
 gE t10_12 (
 gP t10_12 true (prP (bnI .lss (nx x1 0) (.int .i64 8))) fun t13_13=>
 prP (pk t10_12 t13_13 (.bool false)) fun t14_14=>
 AV t14_14 (
 ixW (cnt 8 c0) (nx x1 0) fun t22_15=>
 ldc c0 [] (((AA t22_15)*8)+5) fun t24_16=>
 apW [T.c t24_16] true (cnt 1 (nxc k2 0)) (cnt 1 [T.c t24_16]) 8 (
 apW [T.c (.int .i64 0)] true (cnt 1 (nxc k2 1)) (cnt 1 [T.c (.int .i64 0)]) 8 (
 prP (bnI .add (nx x1 0) (.int .i64 1)) fun t16_17=>
 r3 [t16_17] [((nxc k2 0)++[T.c t24_16]),((nxc k2 1)++[T.c (.int .i64 0)])]))) (
 K [] [(nxc k2 0),(nxc k2 1)]))) [(.int .i64 0)] [[],[]]
theorem GF.cl2 {w0:World} {c0 c1 c2 c3:List T} {K:J2} (h:GF.txt ⟨Tryz.prog,w0⟩ c0 c1 c2 c3 K):Eng.cl2 ⟨Tryz.prog,w0⟩ 160 GF.sg [] [c0,c1,c2,c3] K:=
 AD (C:=⟨Tryz.prog,w0⟩) (f:=160) (fn:=Tryz.f160) [] [(5,[0,1,0,4,0,28,60,124,252,511,1023,2047])] [(58,⟨[.p (.j 0) 0, .p (.j 1) 0, .p (.j 2) 0, .v],[],[.bx [.t (.f 0) 8, .t (.f 1) 2, .t (.f 2) 1, .t (.f 3) 1], .bx [.z, .z], .bx [.t (.j 3) 1, .t (.j 4) 1], .ls, .ls]⟩)] Tryz.func160 (by kernel_rfl) (by kernel_rfl) (by kernel_rfl) h
def GU.sg:Sg:=⟨[(1,[.t 1 0, .t 1 0])],[(1,[.t 1, .t 1])],[]⟩
def GU.txt (C:Ctx) (c0 c1:List T) (K:J2):Prop:=
 apW c0 true (cnt 1 []) (cnt 1 c0) 8 (
 apW c1 true (cnt 1 []) (cnt 1 c1) 8 (
 K [] [([]++c0),([]++c1)]))
theorem GU.cl2 {w0:World} {c0 c1:List T} {K:J2} (h:GU.txt ⟨Tryz.prog,w0⟩ c0 c1 K):Eng.cl2 ⟨Tryz.prog,w0⟩ 185 GU.sg [] [c0,c1] K:=
 AD (C:=⟨Tryz.prog,w0⟩) (f:=185) (fn:=Tryz.f185) [] [(1,[0,0,2,7,0,0,32,127,255,511])] [] Tryz.func185 (by kernel_rfl) (by kernel_rfl) (by kernel_rfl) h
def IV.sg:Sg:=⟨[(1,[.t 8 0, .t 2 0, .t 1 0, .t 1 0]),(1,[.t 1 0, .t 1 0]),(0,[.v])],[(0,[.v])],[]⟩
def IV.txt (C:Ctx) (a0:Value) (c0 c1 c2 c3 c4 c5:List T) (K:J2):Prop:=
 prP (bnI .eql (iv (cnt 8 c0)) (.int .i64 8)) fun t10_1=>
 gE t10_1 (
 gE t10_1 (
 gE t10_1 (
 gP t10_1 true (prP (bnI .eql (iv (cnt 1 c4)) (.int .i64 8))) fun t15_2=>
 prP (pk t10_1 t15_2 (.bool false)) fun t16_3=>
 gE t16_3 (
 gE t16_3 (
 gE t16_3 (
 gP t16_3 true (prP (bnI .eql (iv (cnt 1 c5)) (.int .i64 8))) fun t21_4=>
 prP (pk t16_3 t21_4 (.bool false)) fun t22_5=>
 gE t22_5 (
 gP t22_5 true ((fun K=>cl2 C 54 BO.sg [a0,(.int .i64 0),(.int .i64 7)] [] fun v6 d7=>K (nx v6 0))) fun t25_8=>
 prP (pk t22_5 t25_8 (.bool false)) fun t26_9=>
 gE t26_9 (
 gE t26_9 (
 gE t26_9 (
 gP t26_9 true (ixW (cnt 8 c0) a0) fun t31_10=>
 gE t26_9 (
 gP t26_9 true (ldc c0 [] ((AA t31_10)*8)) fun t33_11=>
 prP (pk t26_9 t33_11 (.bool false)) fun t34_12=>
 K [t34_12] [])))))))))))
theorem IV.cl2 {w0:World} {a0:Value} {c0 c1 c2 c3 c4 c5:List T} {K:J2} (h:IV.txt ⟨Tryz.prog,w0⟩ a0 c0 c1 c2 c3 c4 c5 K):Eng.cl2 ⟨Tryz.prog,w0⟩ 186 IV.sg [a0] [c0,c1,c2,c3,c4,c5] K:=
 AD (C:=⟨Tryz.prog,w0⟩) (f:=186) (fn:=Tryz.f186) [(54,BO.sg)] [] [] Tryz.func186 (by kernel_rfl) (by kernel_rfl) (by kernel_rfl) h
def E9.sg:Sg:=⟨[(1,[.t 8 0, .t 2 0, .t 1 0, .t 1 0]),(0,[.v])],[(0,[.t 1])],[]⟩
def E9.txt (C:Ctx) (a0:Value) (c0 c1 c2 c3:List T) (K:J2):Prop:=
 BC (fun r3 x1 k2=>
 ixW (cnt 8 c0) (nx x1 0) fun t13_5=>
 ldl c0 [] (((AA t13_5)*8)+6) 1 fun t15_6=>
 prP (bnI .lss (nx x1 1) (iv (cnt 1 (G4 c0 [(((AA t13_5)*8)+6)])))) fun t17_7=>
 AV t17_7 (
 BW (fun x9 k10=>
 prP (bnI .add (nx x9 1) (.int .i64 1)) fun t19_20=>
 r3 [(nx x9 0),t19_20] [(nxc k10 0)]) fun j11=>
 ixW (cnt 8 c0) (nx x1 0) fun t24_12=>
 ldl c0 [] (((AA t24_12)*8)+6) 1 fun t26_13=>
 ixW (cnt 1 (G4 c0 [(((AA t24_12)*8)+6)])) (nx x1 1) fun t28_14=>
 ldc c0 [(((AA t24_12)*8)+6)] ((AA t28_14)*1) fun t29_15=>
 cl2 C 55 B4.sg [t29_15] [c0,c1,c2,c3] fun v16 d17=>
 prP (bnI .geq (nx v16 0) (.int .i64 0)) fun t32_19=>
 AV t32_19 (
 apW [T.c (nx v16 0)] true (cnt 1 (nxc k2 0)) (cnt 1 [T.c (nx v16 0)]) 8 (
 j11 [(nx x1 0),(nx x1 1)] [((nxc k2 0)++[T.c (nx v16 0)])])) (
 j11 [(nx x1 0),(nx x1 1)] [(nxc k2 0)])) (
 K [] [(nxc k2 0)])) [a0,(.int .i64 0)] [[]]
theorem E9.cl2 {w0:World} {a0:Value} {c0 c1 c2 c3:List T} {K:J2} (h:E9.txt ⟨Tryz.prog,w0⟩ a0 c0 c1 c2 c3 K):Eng.cl2 ⟨Tryz.prog,w0⟩ 187 E9.sg [a0] [c0,c1,c2,c3] K:=
 AD (C:=⟨Tryz.prog,w0⟩) (f:=187) (fn:=Tryz.f187) [(55,B4.sg)] [(5,[0,0,2,0,14,30,62,0,254,510,1023,2047])] [(233,⟨[.v, .p (.j 0) 0, .t (.j 1) 1, .v],[],[.bx [.t (.f 0) 8, .t (.f 1) 2, .t (.f 2) 1, .t (.f 3) 1], .ls]⟩),(58,⟨[.v, .p (.j 0) 0, .t (.j 1) 1, .v],[],[.bx [.t (.f 0) 8, .t (.f 1) 2, .t (.f 2) 1, .t (.f 3) 1], .ls]⟩)] Tryz.func187 (by kernel_rfl) (by kernel_rfl) (by kernel_rfl) h
end Go.Proofs.YtnhicpkhkaihoaaGreat.P
