/- A part of the proof. -/
import Derived.Test.YtnhicpkhkaihoaaGreatChecked
import Derived.Test.YtnhicpkhkaihoaaGreatFtPZ1
import Derived.KernelRfl
namespace Go.Proofs.YtnhicpkhkaihoaaGreat.P
open Go Go.Proofs.YtnhicpkhkaihoaaGreat Go.Proofs.YtnhicpkhkaihoaaGreat.Eng
set_option linter.unusedVariables false
set_option maxRecDepth 100000
def CV.sg:Sg:=⟨[(0,[.t 1 0])],[(0,[.t 1])],[]⟩
def CV.txt (C:Ctx) (c0:List T) (K:J2):Prop:=
 apW c0 true 0 (cnt 1 c0) 8 (
 K [] [([]++c0)])
theorem CV.cl2 {w0:World} {c0:List T} {K:J2} (h:CV.txt ⟨Tryz.prog,w0⟩ c0 K):Eng.cl2 ⟨Tryz.prog,w0⟩ 144 CV.sg [] [c0] K:=
 AD (C:=⟨Tryz.prog,w0⟩) (f:=144) (fn:=Tryz.f144) [] [] [] Tryz.func144 (by kernel_rfl) (by kernel_rfl) (by kernel_rfl) h
def HM.sg:Sg:=⟨[(0,[.t 1 0]),(0,[.v])],[(0,[.t 1])],[]⟩
def HM.txt (C:Ctx) (a0:Value) (c0:List T) (K:J2):Prop:=
 BC (fun r3 x1 k2=>
 prP (bnI .lss (nx x1 2) (nx x1 1)) fun t11_15=>
 AV t11_15 (
 BW (fun x17 k18=>
 prP (bnI .add (nx x17 2) (.int .i64 1)) fun t21_23=>
 r3 [(nx x17 0),(nx x17 1),t21_23] [(nxc k18 0)]) fun j19=>
 ixW (cnt 1 c0) (nx x1 2) fun t12_20=>
 ldc c0 [] ((AA t12_20)*1) fun t13_21=>
 prP (bnI .neq t13_21 (nx x1 0)) fun t16_22=>
 AV t16_22 (
 apW [T.c t13_21] true (cnt 1 (nxc k2 0)) (cnt 1 [T.c t13_21]) 8 (
 j19 [(nx x1 0),(nx x1 1),(nx x1 2)] [((nxc k2 0)++[T.c t13_21])])) (
 j19 [(nx x1 0),(nx x1 1),(nx x1 2)] [(nxc k2 0)])) (
 K [] [(nxc k2 0)])) [a0,(iv (cnt 1 c0)),(.int .i64 0)] [[]]
theorem HM.cl2 {w0:World} {a0:Value} {c0:List T} {K:J2} (h:HM.txt ⟨Tryz.prog,w0⟩ a0 c0 K):Eng.cl2 ⟨Tryz.prog,w0⟩ 189 HM.sg [a0] [c0] K:=
 AD (C:=⟨Tryz.prog,w0⟩) (f:=189) (fn:=Tryz.f189) [] [] [(467,⟨[.v, .t (.j 0) 1, .t (.f 0) 1, .v, .v],[],[.ls]⟩),(58,⟨[.v, .t (.j 0) 1, .t (.f 0) 1, .v, .v],[],[.ls]⟩)] Tryz.func189 (by kernel_rfl) (by kernel_rfl) (by kernel_rfl) h
def DS.sg:Sg:=⟨[(2,[.t 8 2, .t 2 0, .t 1 2, .t 1 0]),(0,[.t 1 0])],[(0,[.t 1])],[[.t 8, .a 1, .t 1, .a 3]]⟩
def DS.txt (C:Ctx) (c0 c1 c2 c3 c4:List T) (K:J2):Prop:=
 cl2 C 144 CV.sg [] [c4] fun v1 d2=>
 BC (fun r5 x3 k4=>
 prP (bnI .gtr (iv (AA (nx x3 0))) (.int .i64 0)) fun t16_51=>
 gE t16_51 (
 gE t16_51 (
 gP t16_51 true (prP (bnI .leq (iv (cnt 1 (nxc k4 0))) (.int .i64 8))) fun t20_52=>
 prP (pk t16_51 t20_52 (.bool false)) fun t21_53=>
 AV t21_53 (
 ixW (AA (nx x3 0)) (.int .i64 0) fun t23_54=>
 ldc (nxc k4 1) [] ((AA (nx x3 1))+((AA t23_54)*1)) fun t24_55=>
 scW (AA (nx x3 0)) (some (.int .i64 1)) none fun l56 m57=>
 cl2 C 147 BZ.sg [t24_55] [(nxc k4 2),c1,(nxc k4 3),c3] fun v58 d59=>
 prP (bnI .lss (nx v58 0) (.int .i64 0)) fun t33_61=>
 AV t33_61 (
 r5 [(iv (AA m57)),(iv ((AA (nx x3 1))+((AA l56)*1)))] [(nxc k4 0),(nxc k4 1),(nxc k4 2),(nxc k4 3)]) (
 ixW (cnt 8 (nxc k4 2)) (nx v58 0) fun t39_62=>
 ldc (nxc k4 2) [] (((AA t39_62)*8)+5) fun t43_63=>
 prP (bnI .sub t43_63 (.int .i64 1)) fun t44_64=>
 stc (nxc k4 2) [] (((AA t39_62)*8)+5) t44_64 fun k65=>
 ldc k65 [] (((AA t39_62)*8)+5) fun t51_66=>
 prP (bnI .gtr t51_66 (.int .i64 0)) fun t52_67=>
 gE t52_67 (
 gE t52_67 (
 gE t52_67 (
 gP t52_67 true (ldc k65 [] (((AA t39_62)*8)+7)) fun t57_68=>
 gP t52_67 true (prP (un .not t57_68)) fun t58_69=>
 prP (pk t52_67 t58_69 (.bool false)) fun t59_70=>
 AV t59_70 (
 stc k65 [] (((AA t39_62)*8)+7) (.bool true) fun k71=>
 apW [T.c t24_55] true (cnt 1 (nxc k4 3)) (cnt 1 [T.c t24_55]) 8 (
 r5 [(iv (AA m57)),(iv ((AA (nx x3 1))+((AA l56)*1)))] [(nxc k4 0),(nxc k4 1),k71,((nxc k4 3)++[T.c t24_55])])) (
 ldc k65 [] (((AA t39_62)*8)+5) fun t77_72=>
 prP (bnI .leq t77_72 (.int .i64 0)) fun t78_73=>
 AV t78_73 (
 apW [T.c t24_55] true (cnt 1 (nxc k4 0)) (cnt 1 [T.c t24_55]) 8 (
 ldl k65 [] (((AA t39_62)*8)+6) 1 fun t86_74=>
 BC (fun r77 x75 k76=>
 prP (bnI .lss (nx x75 6) (nx x75 5)) fun t89_79=>
 AV t89_79 (
 BW (fun x81 k82=>
 prP (bnI .add (nx x81 6) (.int .i64 1)) fun t98_87=>
 r77 [(iv (AA (nx x81 0))),(iv (AA (nx x81 1))),(nx x81 2),(iv (AA (nx x81 3))),(iv (AA (nx x81 4))),(nx x81 5),t98_87] [(nxc k82 0),(nxc k82 1),(nxc k82 2),(nxc k82 3)]) fun j83=>
 ixW (cnt 1 (G4 (nxc k76 2) [(AA (nx x75 4))])) (nx x75 6) fun t90_84=>
 ldc (nxc k76 2) [(AA (nx x75 4))] ((AA t90_84)*1) fun t91_85=>
 prP (bnI .geq t91_85 (.int .i64 0)) fun t93_86=>
 AV t93_86 (
 apW [T.c t91_85] true (AA (nx x75 0)) (cnt 1 [T.c t91_85]) 8 (
 j83 [(iv (cnt 1 ((IP (nxc k76 1) [] (AA (nx x75 1)) ((AA (nx x75 0))*1))++[T.c t91_85]))),(iv 0),(nx x75 2),(iv (AA (nx x75 3))),(iv (AA (nx x75 4))),(nx x75 5),(nx x75 6)] [(nxc k76 0),((IP (nxc k76 1) [] (AA (nx x75 1)) ((AA (nx x75 0))*1))++[T.c t91_85]),(nxc k76 2),(nxc k76 3)])) (
 j83 [(iv (AA (nx x75 0))),(iv (AA (nx x75 1))),(nx x75 2),(iv (AA (nx x75 3))),(iv (AA (nx x75 4))),(nx x75 5),(nx x75 6)] [(nxc k76 0),(nxc k76 1),(nxc k76 2),(nxc k76 3)])) (
 cl2 C 189 HM.sg [(nx x75 2)] [(nxc k76 3)] fun v88 d89=>
 ldc (nxc k76 2) [] ((AA (nx x75 3))+1) fun t112_90=>
 cl2 C 82 H4.sg [t112_90] [] fun v91 d92=>
 stg (nxc k76 2) [] (AA (nx x75 3)) [T.c (nx v91 0),T.c (nx v91 1),T.c (nx v91 2),T.c (nx v91 3),T.c (nx v91 4),T.c (nx v91 5),T.l 1 (nxc d92 0),T.c (nx v91 6)] fun k93=>
 r5 [(iv (AA (nx x75 0))),(iv (AA (nx x75 1)))] [(nxc k76 0),(nxc k76 1),k93,(nxc d89 0)])) [(iv (AA m57)),(iv ((AA (nx x3 1))+((AA l56)*1))),t24_55,(iv ((AA t39_62)*8)),(iv (((AA t39_62)*8)+6)),(iv (cnt 1 (G4 k65 [(((AA t39_62)*8)+6)]))),(.int .i64 0)] [((nxc k4 0)++[T.c t24_55]),(nxc k4 1),k65,(nxc k4 3)])) (
 r5 [(iv (AA m57)),(iv ((AA (nx x3 1))+((AA l56)*1)))] [(nxc k4 0),(nxc k4 1),k65,(nxc k4 3)]))))))) (
 K [] [(nxc k4 0),(nxc k4 2),(nxc k4 3)])))) [(iv (cnt 1 (nxc d2 0))),(iv 0)] [[],(nxc d2 0),c0,c2]
theorem DS.cl2 {w0:World} {c0 c1 c2 c3 c4:List T} {K:J2} (h:DS.txt ⟨Tryz.prog,w0⟩ c0 c1 c2 c3 c4 K):Eng.cl2 ⟨Tryz.prog,w0⟩ 170 DS.sg [] [c0,c1,c2,c3,c4] K:=
 AD (C:=⟨Tryz.prog,w0⟩) (f:=170) (fn:=Tryz.f170) [(144,CV.sg),(147,BZ.sg),(189,HM.sg),(82,H4.sg)] [] [(126613331,⟨[.p (.j 0) 0, .t (.j 1) 1, .s (.j 2) 0 1, .v, .e (.j 3) 0, .n (.j 3) 1 1, .v, .v],[.p (.j 0) 0, .w, .t (.f 0) 2, .w, .t (.f 1) 1, .t (.f 2) 1],[.bx [.t (.j 3) 8, .t (.f 0) 2, .t (.j 4) 1, .t (.f 1) 1], .ls, .ls, .ls, .ls]⟩),(15826666,⟨[.p (.j 0) 0, .t (.j 1) 1, .s (.j 2) 0 1, .v, .e (.j 3) 0, .n (.j 3) 1 1, .v, .v],[.p (.j 0) 0, .w, .t (.f 0) 2, .w, .t (.f 1) 1, .t (.f 2) 1],[.bx [.t (.j 3) 8, .t (.f 0) 2, .t (.j 4) 1, .t (.f 1) 1], .ls, .ls, .ls, .ls]⟩),(60,⟨[.p (.j 0) 0, .t (.j 1) 1, .s (.j 2) 0 1],[.p (.j 0) 0, .w, .t (.f 0) 2, .w, .t (.f 1) 1, .t (.f 2) 1],[.bx [.t (.j 3) 8, .t (.f 0) 2, .t (.j 4) 1, .t (.f 1) 1], .ls, .ls, .ls, .ls]⟩)] Tryz.func170 (by kernel_rfl) (by kernel_rfl) (by kernel_rfl) h
def DJ.sg:Sg:=⟨[(2,[.t 8 2, .t 2 0, .t 1 2, .t 1 0]),(0,[.v]),(0,[.v])],[(1,[.v, .v, .t 1])],[[.t 8, .a 1, .t 1, .a 3]]⟩
def DJ.txt (C:Ctx) (a0 a1:Value) (c0 c1 c2 c3:List T) (K:J2):Prop:=
 cl2 C 147 BZ.sg [a1] [c0,c1,c2,c3] fun v1 d2=>
 prP (bnI .lss (nx v1 0) (.int .i64 0)) fun t15_4=>
 AV t15_4 (
 cl2 C 85 BX.sg [(.int .i64 1)] [] fun v5 d6=>
 K [(nx v5 0),(nx v5 1)] [(nxc d6 0),c0,c2]) (
 ixW (cnt 8 c0) (nx v1 0) fun t22_7=>
 BW (fun x9 k10=>
 prP (bnI .eql (nx x9 0) (.int .i64 2)) fun t38_16=>
 gE t38_16 (
 gP t38_16 false (prP (bnI .eql (nx x9 0) (.int .i64 5))) fun t41_17=>
 prP (pk t38_16 (.bool true) t41_17) fun t42_18=>
 AV t42_18 (
 ldc (nxc k10 0) [] (AA (nx x9 2)) fun t45_19=>
 prP (bnI .eql t45_19 (.int .i64 20)) fun t46_20=>
 AV t46_20 (
 cl2 C 85 BX.sg [(.int .i64 4)] [] fun v21 d22=>
 K [(nx v21 0),(nx v21 1)] [(nxc d22 0),(nxc k10 0),(nxc k10 1)]) (
 ldc (nxc k10 0) [] (AA (nx x9 2)) fun t50_23=>
 prP (bnI .add t50_23 (.int .i64 1)) fun t51_24=>
 stc (nxc k10 0) [] (AA (nx x9 2)) t51_24 fun k25=>
 cl2 C 169 DR.sg [(nx x9 1)] [k25,c1,(nxc k10 1),c3] fun v26 d27=>
 K [(.int .i64 0),(.int .i64 0)] [[],(nxc d27 0),(nxc k10 1)])) (
 ldc (nxc k10 0) [] (AA (nx x9 2)) fun t59_28=>
 prP (bnI .eql t59_28 (.int .i64 0)) fun t60_29=>
 AV t60_29 (
 cl2 C 85 BX.sg [(.int .i64 5)] [] fun v30 d31=>
 K [(nx v30 0),(nx v30 1)] [(nxc d31 0),(nxc k10 0),(nxc k10 1)]) (
 ldc (nxc k10 0) [] (AA (nx x9 2)) fun t64_32=>
 prP (bnI .sub t64_32 (.int .i64 1)) fun t65_33=>
 stc (nxc k10 0) [] (AA (nx x9 2)) t65_33 fun k34=>
 cl2 C 170 DS.sg [] [k34,c1,(nxc k10 1),c3,[T.c (nx x9 1)]] fun v35 d36=>
 K [(.int .i64 0),(.int .i64 0)] [(nxc d36 0),(nxc d36 1),(nxc d36 2)])))) fun j11=>
 prP (bnI .eql a0 (.int .i64 5)) fun t25_12=>
 gE t25_12 (
 gP t25_12 false (prP (bnI .eql a0 (.int .i64 6))) fun t28_13=>
 prP (pk t25_12 (.bool true) t28_13) fun t29_14=>
 AV t29_14 (
 ixW (cnt 8 c0) (nx v1 0) fun t35_15=>
 j11 [a0,a1,(iv (((AA t35_15)*8)+4)),(.int .i64 0),(.int .i64 0)] [c0,c2]) (
 j11 [a0,a1,(iv (((AA t22_7)*8)+3)),(.int .i64 0),(.int .i64 0)] [c0,c2])))
theorem DJ.cl2 {w0:World} {a0 a1:Value} {c0 c1 c2 c3:List T} {K:J2} (h:DJ.txt ⟨Tryz.prog,w0⟩ a0 a1 c0 c1 c2 c3 K):Eng.cl2 ⟨Tryz.prog,w0⟩ 127 DJ.sg [a0,a1] [c0,c1,c2,c3] K:=
 AD (C:=⟨Tryz.prog,w0⟩) (f:=127) (fn:=Tryz.f127) [(147,BZ.sg),(85,BX.sg),(169,DR.sg),(170,DS.sg)] [] [(31,⟨[.p (.j 0) 0, .v, .v, .p (.j 1) 0, .e (.j 2) 0],[.p (.j 0) 0, .w, .t (.f 0) 2, .w, .t (.f 1) 1],[.bx [.t (.j 2) 8, .t (.f 0) 2, .t (.j 3) 1, .t (.f 1) 1], .bx [.v, .v, .z], .ls, .ls]⟩)] Tryz.func127 (by kernel_rfl) (by kernel_rfl) (by kernel_rfl) h
def EN.sg:Sg:=⟨[(2,[.t 8 2, .t 2 0, .t 1 2, .t 1 0]),(1,[.v, .v, .v, .v, .v])],[(1,[.v, .v, .t 1])],[[.t 8, .a 1, .t 1, .a 3]]⟩
def EN.txt (C:Ctx) (a0 a1 a2 a3 a4:Value) (c0 c1 c2 c3:List T) (K:J2):Prop:=
 cl2 C 147 BZ.sg [a1] [c0,c1,c2,c3] fun v1 d2=>
 prP (bnI .lss (nx v1 0) (.int .i64 0)) fun t15_4=>
 gE t15_4 (
 gE t15_4 (
 gP t15_4 false (prP (bnI .neq a3 (.int .i64 (-1)))) fun t19_5=>
 gE t15_4 (
 gE (C2 t15_4 false t19_5) (
 gE (C2 t15_4 false t19_5) (
 gE (C2 t15_4 false t19_5) (
 gE (C2 t15_4 false t19_5) (
 gE (C2 t15_4 false t19_5) (
 gP (C2 t15_4 false t19_5) true ((fun K=>cl2 C 147 BZ.sg [a3] [c0,c1,c2,c3] fun v6 d7=>K (nx v6 0))) fun t26_8=>
 gP (C2 t15_4 false t19_5) true (prP (bnI .lss t26_8 (.int .i64 0))) fun t27_9=>
 gP t15_4 false (prP (pk t19_5 t27_9 (.bool false))) fun t28_10=>
 prP (pk t15_4 (.bool true) t28_10) fun t29_11=>
 AV t29_11 (
 cl2 C 85 BX.sg [(.int .i64 1)] [] fun v12 d13=>
 K [(nx v12 0),(nx v12 1)] [(nxc d13 0),c0,c2]) (
 cl2 C 94 B6.sg [a2,(.int .i64 0),(.int .i64 2)] [] fun v14 d15=>
 prP (un .not (nx v14 0)) fun t35_17=>
 AV t35_17 (
 cl2 C 85 BX.sg [(.int .i64 2)] [] fun v18 d19=>
 K [(nx v18 0),(nx v18 1)] [(nxc d19 0),c0,c2]) (
 cl2 C 169 DR.sg [a3] [c0,c1,c2,c3] fun v20 d21=>
 ixW (cnt 8 (nxc d21 0)) (nx v1 0) fun t46_22=>
 ldl (nxc d21 0) [] (((AA t46_22)*8)+6) 1 fun t48_23=>
 ixW (cnt 1 (G4 (nxc d21 0) [(((AA t46_22)*8)+6)])) a2 fun t51_24=>
 ldc (nxc d21 0) [(((AA t46_22)*8)+6)] ((AA t51_24)*1) fun t52_25=>
 ixW (cnt 8 (nxc d21 0)) (nx v1 0) fun t58_26=>
 ldl (nxc d21 0) [] (((AA t58_26)*8)+6) 1 fun t60_27=>
 ixW (cnt 1 (G4 (nxc d21 0) [(((AA t58_26)*8)+6)])) a2 fun t65_28=>
 stc (nxc d21 0) [(((AA t58_26)*8)+6)] ((AA t65_28)*1) a3 fun k29=>
 prP (bnI .eql t52_25 (.int .i64 (-1))) fun t67_30=>
 AV t67_30 (
 K [(.int .i64 0),(.int .i64 0)] [[],k29,c2]) (
 cl2 C 170 DS.sg [] [k29,c1,c2,c3,[T.c t52_25]] fun v31 d32=>
 K [(.int .i64 0),(.int .i64 0)] [(nxc d32 0),(nxc d32 1),(nxc d32 2)])))))))))))
theorem EN.cl2 {w0:World} {a0 a1 a2 a3 a4:Value} {c0 c1 c2 c3:List T} {K:J2} (h:EN.txt ⟨Tryz.prog,w0⟩ a0 a1 a2 a3 a4 c0 c1 c2 c3 K):Eng.cl2 ⟨Tryz.prog,w0⟩ 128 EN.sg [a0,a1,a2,a3,a4] [c0,c1,c2,c3] K:=
 AD (C:=⟨Tryz.prog,w0⟩) (f:=128) (fn:=Tryz.f128) [(147,BZ.sg),(85,BX.sg),(94,B6.sg),(169,DR.sg),(170,DS.sg)] [(1,[0,1,3,0,8,31,63]),(2,[0,1,3,7,15,31,63,127,255,511,127,1151,4095,8191,16383,32767,65535]),(7,[0,1,3,7,0,31,63,127,0,256,1023,2047,4095]),(8,[0,1,3,7,0,31,63,127,0,256,0,1024,4095,8191])] [] Tryz.func128 (by kernel_rfl) (by kernel_rfl) (by kernel_rfl) h
def GQ.sg:Sg:=⟨[(0,[.t 2 0])],[(0,[.v])],[]⟩
def GQ.txt (C:Ctx) (c0:List T) (K:J2):Prop:=
 BC (fun r3 x1 k2=>
 prP (bnI .lss (nx x1 1) (nx x1 0)) fun t8_5=>
 AV t8_5 (
 ixW (cnt 2 c0) (nx x1 1) fun t10_6=>
 ldg c0 [] ((AA t10_6)*2) [.c, .c] fun ts7=>
 prP (un .not (tv (nxT ts7 0))) fun t14_8=>
 AV t14_8 (
 K [(nx x1 1)] []) (
 prP (bnI .add (nx x1 1) (.int .i64 1)) fun t16_9=>
 r3 [(nx x1 0),t16_9] [])) (
 K [(.int .i64 (-1))] [])) [(iv (cnt 2 c0)),(.int .i64 0)] []
theorem GQ.cl2 {w0:World} {c0:List T} {K:J2} (h:GQ.txt ⟨Tryz.prog,w0⟩ c0 K):Eng.cl2 ⟨Tryz.prog,w0⟩ 171 GQ.sg [] [c0] K:=
 AD (C:=⟨Tryz.prog,w0⟩) (f:=171) (fn:=Tryz.f171) [] [] [(26,⟨[.t (.f 0) 2, .v, .v],[],[]⟩)] Tryz.func171 (by kernel_rfl) (by kernel_rfl) (by kernel_rfl) h
def FK.sg:Sg:=⟨[(2,[.t 8 0, .t 2 2, .t 1 0, .t 1 0]),(0,[.v])],[(1,[.v, .v, .t 1])],[[.a 0, .t 2, .a 2, .a 3]]⟩
def FK.txt (C:Ctx) (a0:Value) (c0 c1 c2 c3:List T) (K:J2):Prop:=
 cl2 C 171 GQ.sg [] [c1] fun v1 d2=>
 cl2 C 147 BZ.sg [a0] [c0,c1,c2,c3] fun v4 d5=>
 prP (bnI .lss (nx v4 0) (.int .i64 0)) fun t17_7=>
 AV t17_7 (
 cl2 C 85 BX.sg [(.int .i64 1)] [] fun v8 d9=>
 K [(nx v8 0),(nx v8 1)] [(nxc d9 0),c1]) (
 prP (bnI .lss (nx v1 0) (.int .i64 0)) fun t21_10=>
 AV t21_10 (
 cl2 C 85 BX.sg [(.int .i64 3)] [] fun v11 d12=>
 K [(nx v11 0),(nx v11 1)] [(nxc d12 0),c1]) (
 ixW (cnt 2 c1) (nx v1 0) fun t30_13=>
 stg c1 [] ((AA t30_13)*2) [T.c (.bool true),T.c a0] fun k14=>
 K [(.int .i64 0),(nx v1 0)] [[],k14]))
theorem FK.cl2 {w0:World} {a0:Value} {c0 c1 c2 c3:List T} {K:J2} (h:FK.txt ⟨Tryz.prog,w0⟩ a0 c0 c1 c2 c3 K):Eng.cl2 ⟨Tryz.prog,w0⟩ 129 FK.sg [a0] [c0,c1,c2,c3] K:=
 AD (C:=⟨Tryz.prog,w0⟩) (f:=129) (fn:=Tryz.f129) [(171,GQ.sg),(147,BZ.sg),(85,BX.sg)] [] [] Tryz.func129 (by kernel_rfl) (by kernel_rfl) (by kernel_rfl) h
def DY.sg:Sg:=⟨[(2,[.t 8 0, .t 2 2, .t 1 0, .t 1 0]),(0,[.v]),(0,[.v])],[(1,[.v, .v, .t 1])],[[.a 0, .t 2, .a 2, .a 3]]⟩
def DY.txt (C:Ctx) (a0 a1:Value) (c0 c1 c2 c3:List T) (K:J2):Prop:=
 prP (bnI .sub (iv (cnt 2 c1)) (.int .i64 1)) fun t13_1=>
 cl2 C 94 B6.sg [a1,(.int .i64 0),t13_1] [] fun v2 d3=>
 prP (un .not (nx v2 0)) fun t15_5=>
 gE t15_5 (
 gE t15_5 (
 gE t15_5 (
 gE t15_5 (
 gE t15_5 (
 gP t15_5 false (ixW (cnt 2 c1) a1) fun t22_6=>
 gE t15_5 (
 gP t15_5 false (ldc c1 [] ((AA t22_6)*2)) fun t24_7=>
 gP t15_5 false (prP (un .not t24_7)) fun t25_8=>
 prP (pk t15_5 (.bool true) t25_8) fun t26_9=>
 AV t26_9 (
 cl2 C 85 BX.sg [(.int .i64 2)] [] fun v10 d11=>
 K [(nx v10 0),(nx v10 1)] [(nxc d11 0),c1]) (
 prP (bnI .eql a0 (.int .i64 9)) fun t29_12=>
 AV t29_12 (
 ixW (cnt 2 c1) a1 fun t36_13=>
 stg c1 [] ((AA t36_13)*2) [T.c (.bool false),T.c (.int .i64 0)] fun k14=>
 K [(.int .i64 0),(.int .i64 0)] [[],k14]) (
 ixW (cnt 2 c1) a1 fun t46_15=>
 ldc c1 [] (((AA t46_15)*2)+1) fun t48_16=>
 cl2 C 147 BZ.sg [t48_16] [c0,c1,c2,c3] fun v17 d18=>
 prP (bnI .lss (nx v17 0) (.int .i64 0)) fun t50_20=>
 AV t50_20 (
 K [(.int .i64 0),(.int .i64 (-1))] [[],c1]) (
 ixW (cnt 2 c1) a1 fun t57_21=>
 ldc c1 [] (((AA t57_21)*2)+1) fun t59_22=>
 K [(.int .i64 0),t59_22] [[],c1])))))))))
theorem DY.cl2 {w0:World} {a0 a1:Value} {c0 c1 c2 c3:List T} {K:J2} (h:DY.txt ⟨Tryz.prog,w0⟩ a0 a1 c0 c1 c2 c3 K):Eng.cl2 ⟨Tryz.prog,w0⟩ 130 DY.sg [a0,a1] [c0,c1,c2,c3] K:=
 AD (C:=⟨Tryz.prog,w0⟩) (f:=130) (fn:=Tryz.f130) [(94,B6.sg),(85,BX.sg),(147,BZ.sg)] [(6,[0,1,3,0,8,24,56,0,248,504,1016,2047,4095])] [] Tryz.func130 (by kernel_rfl) (by kernel_rfl) (by kernel_rfl) h
def DD.sg:Sg:=⟨[(0,[.t 1 0])],[(0,[.t 1])],[]⟩
def DD.txt (C:Ctx) (c0:List T) (K:J2):Prop:=
 apW c0 true 0 (cnt 1 c0) 16 (
 K [] [([]++c0)])
theorem DD.cl2 {w0:World} {c0:List T} {K:J2} (h:DD.txt ⟨Tryz.prog,w0⟩ c0 K):Eng.cl2 ⟨Tryz.prog,w0⟩ 143 DD.sg [] [c0] K:=
 AD (C:=⟨Tryz.prog,w0⟩) (f:=143) (fn:=Tryz.f143) [] [] [] Tryz.func143 (by kernel_rfl) (by kernel_rfl) (by kernel_rfl) h
def EE.sg:Sg:=⟨[(1,[.t 8 0, .t 2 0, .t 1 0, .t 1 0])],[(1,[.t 8, .t 2, .t 1, .t 1])],[]⟩
def EE.txt (C:Ctx) (c0 c1 c2 c3:List T) (K:J2):Prop:=
 apW c1 true 0 (cnt 2 c1) 16 (
 cl2 C 144 CV.sg [] [c2] fun v1 d2=>
 cl2 C 143 DD.sg [] [c3] fun v3 d4=>
 BC (fun r7 x5 k6=>
 prP (bnI .lss (nx x5 1) (nx x5 0)) fun t20_16=>
 AV t20_16 (
 ixW (cnt 8 c0) (nx x5 1) fun t21_17=>
 ldg c0 [] ((AA t21_17)*8) [.c, .c, .c, .c, .c, .c, .l 1, .c] fun ts18=>
 cl2 C 144 CV.sg [] [(G4 c0 [(((AA t21_17)*8)+6)])] fun v19 d20=>
 apW [T.c (tv (nxT ts18 0)),T.c (tv (nxT ts18 1)),T.c (tv (nxT ts18 2)),T.c (tv (nxT ts18 3)),T.c (tv (nxT ts18 4)),T.c (tv (nxT ts18 5)),T.l 1 (nxc d20 0),T.c (tv (nxT ts18 7))] false (cnt 8 (nxc k6 0)) (cnt 8 [T.c (tv (nxT ts18 0)),T.c (tv (nxT ts18 1)),T.c (tv (nxT ts18 2)),T.c (tv (nxT ts18 3)),T.c (tv (nxT ts18 4)),T.c (tv (nxT ts18 5)),T.l 1 (nxc d20 0),T.c (tv (nxT ts18 7))]) 80 (
 prP (bnI .add (nx x5 1) (.int .i64 1)) fun t33_21=>
 r7 [(nx x5 0),t33_21] [((nxc k6 0)++[T.c (tv (nxT ts18 0)),T.c (tv (nxT ts18 1)),T.c (tv (nxT ts18 2)),T.c (tv (nxT ts18 3)),T.c (tv (nxT ts18 4)),T.c (tv (nxT ts18 5)),T.l 1 (nxc d20 0),T.c (tv (nxT ts18 7))]),(nxc k6 1),(nxc k6 2),(nxc k6 3)])) (
 K [] [(nxc k6 0),(nxc k6 1),(nxc k6 2),(nxc k6 3)])) [(iv (cnt 8 c0)),(.int .i64 0)] [[],([]++c1),(nxc d2 0),(nxc d4 0)])
theorem EE.cl2 {w0:World} {c0 c1 c2 c3:List T} {K:J2} (h:EE.txt ⟨Tryz.prog,w0⟩ c0 c1 c2 c3 K):Eng.cl2 ⟨Tryz.prog,w0⟩ 83 EE.sg [] [c0,c1,c2,c3] K:=
 AD (C:=⟨Tryz.prog,w0⟩) (f:=83) (fn:=Tryz.f83) [(144,CV.sg),(143,DD.sg)] [(1,[0,1,3,0,8,31,0,64,255,511,0,2047])] [(58,⟨[.p (.j 0) 0, .p (.j 1) 0, .t (.f 0) 8, .v, .v],[],[.bx [.z, .z, .z, .z], .bx [.t (.j 2) 8, .t (.j 3) 2, .t (.j 4) 1, .t (.j 5) 1], .ls, .ls, .ls, .ls]⟩)] Tryz.func83 (by kernel_rfl) (by kernel_rfl) (by kernel_rfl) h
def GH.sg:Sg:=⟨[(1,[.t 8 0, .t 2 0, .t 1 0, .t 1 0])],[(1,[.t 1, .t 1])],[]⟩
def GH.txt (C:Ctx) (c0 c1 c2 c3:List T) (K:J2):Prop:=
 BC (fun r3 x1 k2=>
 prP (bnI .lss (nx x1 1) (nx x1 0)) fun t10_15=>
 AV t10_15 (
 BW (fun x17 k18=>
 prP (bnI .add (nx x17 1) (.int .i64 1)) fun t28_23=>
 r3 [(nx x17 0),t28_23] [(nxc k18 0),(nxc k18 1)]) fun j19=>
 ixW (cnt 8 c0) (nx x1 1) fun t12_20=>
 ldg c0 [] ((AA t12_20)*8) [.c, .c, .c, .c, .c, .c, .l 1, .c] fun ts21=>
 prP (bnI .lss (nx x1 1) (.int .i64 8)) fun t15_22=>
 AV t15_22 (
 apW [T.c (tv (nxT ts21 5))] true (cnt 1 (nxc k2 0)) (cnt 1 [T.c (tv (nxT ts21 5))]) 8 (
 apW [T.c (.int .i64 0)] true (cnt 1 (nxc k2 1)) (cnt 1 [T.c (.int .i64 0)]) 8 (
 j19 [(nx x1 0),(nx x1 1)] [((nxc k2 0)++[T.c (tv (nxT ts21 5))]),((nxc k2 1)++[T.c (.int .i64 0)])]))) (
 j19 [(nx x1 0),(nx x1 1)] [(nxc k2 0),(nxc k2 1)])) (
 K [] [(nxc k2 0),(nxc k2 1)])) [(iv (cnt 8 c0)),(.int .i64 0)] [[],[]]
theorem GH.cl2 {w0:World} {c0 c1 c2 c3:List T} {K:J2} (h:GH.txt ⟨Tryz.prog,w0⟩ c0 c1 c2 c3 K):Eng.cl2 ⟨Tryz.prog,w0⟩ 172 GH.sg [] [c0,c1,c2,c3] K:=
 AD (C:=⟨Tryz.prog,w0⟩) (f:=172) (fn:=Tryz.f172) [] [] [(467,⟨[.p (.j 0) 0, .p (.j 1) 0, .t (.f 0) 8, .v, .v],[],[.bx [.z, .z], .bx [.t (.j 2) 1, .t (.j 3) 1], .ls, .ls]⟩),(58,⟨[.p (.j 0) 0, .p (.j 1) 0, .t (.f 0) 8, .v, .v],[],[.bx [.z, .z], .bx [.t (.j 2) 1, .t (.j 3) 1], .ls, .ls]⟩)] Tryz.func172 (by kernel_rfl) (by kernel_rfl) (by kernel_rfl) h
def DN.sg:Sg:=⟨[(1,[.t 1 0, .t 1 0])],[(1,[.t 1, .t 1])],[]⟩
def DN.txt (C:Ctx) (c0 c1:List T) (K:J2):Prop:=
 cl2 C 144 CV.sg [] [c0] fun v1 d2=>
 cl2 C 144 CV.sg [] [c1] fun v3 d4=>
 K [] [(nxc d2 0),(nxc d4 0)]
theorem DN.cl2 {w0:World} {c0 c1:List T} {K:J2} (h:DN.txt ⟨Tryz.prog,w0⟩ c0 c1 K):Eng.cl2 ⟨Tryz.prog,w0⟩ 190 DN.sg [] [c0,c1] K:=
 AD (C:=⟨Tryz.prog,w0⟩) (f:=190) (fn:=Tryz.f190) [(144,CV.sg)] [(1,[0,1,3,0,8,31,63,127])] [] Tryz.func190 (by kernel_rfl) (by kernel_rfl) (by kernel_rfl) h
def GS.sg:Sg:=⟨[(1,[.t 8 0, .t 2 0, .t 1 0, .t 1 0]),(1,[.t 1 0, .t 1 0]),(0,[.v])],[(0,[.v])],[]⟩
def GS.txt (C:Ctx) (a0:Value) (c0 c1 c2 c3 c4 c5:List T) (K:J2):Prop:=
 prP (bnI .eql (iv (cnt 8 c0)) (.int .i64 8)) fun t10_1=>
 gE t10_1 (
 gE t10_1 (
 gE t10_1 (
 gP t10_1 true (prP (bnI .eql (iv (cnt 1 c4)) (.int .i64 8))) fun t15_2=>
 prP (pk t10_1 t15_2 (.bool false)) fun t16_3=>
 gE t16_3 (
 gE t16_3 (
 gE t16_3 (
 gP t16_3 true (prP (bnI .eql (iv (cnt 1 c5)) (.int .i64 8))) fun t21_4=>
 prP (pk t16_3 t21_4 (.bool false)) fun t22_5=>
 gE t22_5 (
 gP t22_5 true ((fun K=>cl2 C 94 B6.sg [a0,(.int .i64 0),(.int .i64 7)] [] fun v6 d7=>K (nx v6 0))) fun t25_8=>
 prP (pk t22_5 t25_8 (.bool false)) fun t26_9=>
 gE t26_9 (
 gE t26_9 (
 gE t26_9 (
 gP t26_9 true (ixW (cnt 8 c0) a0) fun t31_10=>
 gE t26_9 (
 gP t26_9 true (ldc c0 [] ((AA t31_10)*8)) fun t33_11=>
 prP (pk t26_9 t33_11 (.bool false)) fun t34_12=>
 K [t34_12] [])))))))))))
theorem GS.cl2 {w0:World} {a0:Value} {c0 c1 c2 c3 c4 c5:List T} {K:J2} (h:GS.txt ⟨Tryz.prog,w0⟩ a0 c0 c1 c2 c3 c4 c5 K):Eng.cl2 ⟨Tryz.prog,w0⟩ 191 GS.sg [a0] [c0,c1,c2,c3,c4,c5] K:=
 AD (C:=⟨Tryz.prog,w0⟩) (f:=191) (fn:=Tryz.f191) [(94,B6.sg)] [] [] Tryz.func191 (by kernel_rfl) (by kernel_rfl) (by kernel_rfl) h
def FL.sg:Sg:=⟨[(1,[.t 8 0, .t 2 0, .t 1 0, .t 1 0]),(0,[.v])],[(0,[.t 1])],[]⟩
def FL.txt (C:Ctx) (a0:Value) (c0 c1 c2 c3:List T) (K:J2):Prop:=
 ixW (cnt 8 c0) a0 fun t12_1=>
 ldl c0 [] (((AA t12_1)*8)+6) 1 fun t14_2=>
 BC (fun r5 x3 k4=>
 prP (bnI .lss (nx x3 2) (nx x3 1)) fun t17_20=>
 AV t17_20 (
 BW (fun x22 k23=>
 prP (bnI .add (nx x22 2) (.int .i64 1)) fun t29_31=>
 r5 [(iv (AA (nx x22 0))),(nx x22 1),t29_31] [(nxc k23 0)]) fun j24=>
 ixW (cnt 1 (G4 c0 [(AA (nx x3 0))])) (nx x3 2) fun t18_25=>
 ldc c0 [(AA (nx x3 0))] ((AA t18_25)*1) fun t19_26=>
 cl2 C 147 BZ.sg [t19_26] [c0,c1,c2,c3] fun v27 d28=>
 prP (bnI .geq (nx v27 0) (.int .i64 0)) fun t24_30=>
 AV t24_30 (
 apW [T.c (nx v27 0)] true (cnt 1 (nxc k4 0)) (cnt 1 [T.c (nx v27 0)]) 8 (
 j24 [(iv (AA (nx x3 0))),(nx x3 1),(nx x3 2)] [((nxc k4 0)++[T.c (nx v27 0)])])) (
 j24 [(iv (AA (nx x3 0))),(nx x3 1),(nx x3 2)] [(nxc k4 0)])) (
 K [] [(nxc k4 0)])) [(iv (((AA t12_1)*8)+6)),(iv (cnt 1 (G4 c0 [(((AA t12_1)*8)+6)]))),(.int .i64 0)] [[]]
theorem FL.cl2 {w0:World} {a0:Value} {c0 c1 c2 c3:List T} {K:J2} (h:FL.txt ⟨Tryz.prog,w0⟩ a0 c0 c1 c2 c3 K):Eng.cl2 ⟨Tryz.prog,w0⟩ 194 FL.sg [a0] [c0,c1,c2,c3] K:=
 AD (C:=⟨Tryz.prog,w0⟩) (f:=194) (fn:=Tryz.f194) [(147,BZ.sg)] [] [(467,⟨[.p (.j 0) 0, .t (.j 1) 1, .n (.f 0) 1 1, .v, .v],[],[.bx [.t (.f 0) 8, .t (.f 1) 2, .t (.f 2) 1, .t (.f 3) 1], .ls]⟩),(58,⟨[.p (.j 0) 0, .t (.j 1) 1, .n (.f 0) 1 1, .v, .v],[],[.bx [.t (.f 0) 8, .t (.f 1) 2, .t (.f 2) 1, .t (.f 3) 1], .ls]⟩)] Tryz.func194 (by kernel_rfl) (by kernel_rfl) (by kernel_rfl) h
def B8.sg:Sg:=⟨[(2,[.t 1 2, .t 1 2]),(1,[.t 8 0, .t 2 0, .t 1 0, .t 1 0]),(0,[.v]),(0,[.v]),(0,[.v])],[],[[.t 1, .t 1]]⟩
def B8.txt (C:Ctx) (a0 a1 a2:Value) (c0 c1 c2 c3 c4 c5:List T) (K:J2):Prop:=
 ixW (cnt 1 c1) a0 fun t17_1=>
 ldc c1 [] ((AA t17_1)*1) fun t18_2=>
 prP (bnI .eql t18_2 a1) fun t20_3=>
 AV t20_3 (
 K [] [c0,c1]) (
 ixW (cnt 1 c1) a0 fun t27_4=>
 stc c1 [] ((AA t27_4)*1) a1 fun k5=>
 cl2 C 194 FL.sg [a0] [c2,c3,c4,c5] fun v6 d7=>
 BC (fun r10 x8 k9=>
 prP (bnI .lss (nx x8 3) (nx x8 2)) fun t33_12=>
 AV t33_12 (
 ixW (cnt 1 (nxc k9 0)) (nx x8 3) fun t34_13=>
 ldc (nxc k9 0) [] ((AA t34_13)*1) fun t35_14=>
 ixW (cnt 1 (nxc k9 1)) t35_14 fun t41_15=>
 ldc (nxc k9 1) [] ((AA t41_15)*1) fun t42_16=>
 prP (bnI .add t42_16 (nx x8 1)) fun t44_17=>
 ixW (cnt 1 (nxc k9 1)) t35_14 fun t45_18=>
 stc (nxc k9 1) [] ((AA t45_18)*1) t44_17 fun k19=>
 cl2 C 192 B8.sg [t35_14,(nx x8 0),(nx x8 1)] [k19,(nxc k9 2),c2,c3,c4,c5] fun v20 d21=>
 prP (bnI .add (nx x8 3) (.int .i64 1)) fun t52_22=>
 r10 [(nx x8 0),(nx x8 1),(nx x8 2),t52_22] [(nxc k9 0),(nxc d21 0),(nxc d21 1)]) (
 K [] [(nxc k9 1),(nxc k9 2)])) [a1,a2,(iv (cnt 1 (nxc d7 0))),(.int .i64 0)] [(nxc d7 0),c0,k5])
theorem B8.cl2 {w0:World} {a0 a1 a2:Value} {c0 c1 c2 c3 c4 c5:List T} {K:J2} (h:B8.txt ⟨Tryz.prog,w0⟩ a0 a1 a2 c0 c1 c2 c3 c4 c5 K):Eng.cl2 ⟨Tryz.prog,w0⟩ 192 B8.sg [a0,a1,a2] [c0,c1,c2,c3,c4,c5] K:=
 AD (C:=⟨Tryz.prog,w0⟩) (f:=192) (fn:=Tryz.f192) [(194,FL.sg),(192,B8.sg)] [] [(62,⟨[.p (.j 0) 0, .v, .v, .p (.j 1) 0, .t (.j 2) 1, .v, .v],[.p (.j 0) 0],[.bx [.t (.j 3) 1, .t (.j 4) 1], .bx [.t (.f 0) 8, .t (.f 1) 2, .t (.f 2) 1, .t (.f 3) 1], .ls, .ls, .ls]⟩)] Tryz.func192 (by kernel_rfl) (by kernel_rfl) (by kernel_rfl) h
def GM.sg:Sg:=⟨[(1,[.t 8 0, .t 2 0, .t 1 0, .t 1 0]),(1,[.t 1 0, .t 1 0]),(0,[.v])],[(1,[.t 1, .t 1])],[]⟩
def GM.txt (C:Ctx) (a0:Value) (c0 c1 c2 c3 c4 c5:List T) (K:J2):Prop:=
 cl2 C 190 DN.sg [] [c4,c5] fun v1 d2=>
 BW (fun x4 k5=>
 K [] [(nxc k5 0),(nxc k5 1)]) fun j6=>
 cl2 C 191 GS.sg [a0] [c0,c1,c2,c3,c4,c5] fun v7 d8=>
 AV (nx v7 0) (
 cl2 C 192 B8.sg [a0,(.int .i64 1),(.int .i64 (-1))] [(nxc d2 0),(nxc d2 1),c0,c1,c2,c3] fun v10 d11=>
 j6 [] [(nxc d11 0),(nxc d11 1)]) (
 j6 [] [(nxc d2 0),(nxc d2 1)])
theorem GM.cl2 {w0:World} {a0:Value} {c0 c1 c2 c3 c4 c5:List T} {K:J2} (h:GM.txt ⟨Tryz.prog,w0⟩ a0 c0 c1 c2 c3 c4 c5 K):Eng.cl2 ⟨Tryz.prog,w0⟩ 173 GM.sg [a0] [c0,c1,c2,c3,c4,c5] K:=
 AD (C:=⟨Tryz.prog,w0⟩) (f:=173) (fn:=Tryz.f173) [(190,DN.sg),(191,GS.sg),(192,B8.sg)] [] [(7,⟨[.p (.j 0) 0, .p (.j 1) 0],[],[.bx [.z, .z], .bx [.t (.j 2) 1, .t (.j 3) 1], .ls, .ls]⟩)] Tryz.func173 (by kernel_rfl) (by kernel_rfl) (by kernel_rfl) h
def CN.sg:Sg:=⟨[(2,[.t 1 2, .t 1 2]),(1,[.t 8 0, .t 2 0, .t 1 0, .t 1 0]),(0,[.v])],[],[[.t 1, .t 1]]⟩
def CN.txt (C:Ctx) (a0:Value) (c0 c1 c2 c3 c4 c5:List T) (K:J2):Prop:=
 ixW (cnt 1 c1) a0 fun t13_1=>
 ldc c1 [] ((AA t13_1)*1) fun t14_2=>
 prP (bnI .neq t14_2 (.int .i64 1)) fun t15_3=>
 AV t15_3 (
 K [] [c0,c1]) (
 ixW (cnt 1 c0) a0 fun t21_4=>
 ldc c0 [] ((AA t21_4)*1) fun t22_5=>
 prP (bnI .gtr t22_5 (.int .i64 0)) fun t23_6=>
 AV t23_6 (
 cl2 C 192 B8.sg [a0,(.int .i64 0),(.int .i64 1)] [c0,c1,c2,c3,c4,c5] fun v7 d8=>
 K [] [(nxc d8 0),(nxc d8 1)]) (
 ixW (cnt 1 c1) a0 fun t33_9=>
 stc c1 [] ((AA t33_9)*1) (.int .i64 2) fun k10=>
 cl2 C 194 FL.sg [a0] [c2,c3,c4,c5] fun v11 d12=>
 BC (fun r15 x13 k14=>
 prP (bnI .lss (nx x13 1) (nx x13 0)) fun t39_17=>
 AV t39_17 (
 ixW (cnt 1 (nxc k14 0)) (nx x13 1) fun t40_18=>
 ldc (nxc k14 0) [] ((AA t40_18)*1) fun t41_19=>
 cl2 C 193 CN.sg [t41_19] [(nxc k14 1),(nxc k14 2),c2,c3,c4,c5] fun v20 d21=>
 prP (bnI .add (nx x13 1) (.int .i64 1)) fun t46_22=>
 r15 [(nx x13 0),t46_22] [(nxc k14 0),(nxc d21 0),(nxc d21 1)]) (
 K [] [(nxc k14 1),(nxc k14 2)])) [(iv (cnt 1 (nxc d12 0))),(.int .i64 0)] [(nxc d12 0),c0,k10]))
theorem CN.cl2 {w0:World} {a0:Value} {c0 c1 c2 c3 c4 c5:List T} {K:J2} (h:CN.txt ⟨Tryz.prog,w0⟩ a0 c0 c1 c2 c3 c4 c5 K):Eng.cl2 ⟨Tryz.prog,w0⟩ 193 CN.sg [a0] [c0,c1,c2,c3,c4,c5] K:=
 AD (C:=⟨Tryz.prog,w0⟩) (f:=193) (fn:=Tryz.f193) [(192,B8.sg),(194,FL.sg),(193,CN.sg)] [] [(126,⟨[.p (.j 0) 0, .p (.j 1) 0, .t (.j 2) 1, .v, .v],[.p (.j 0) 0],[.bx [.t (.j 3) 1, .t (.j 4) 1], .bx [.t (.f 0) 8, .t (.f 1) 2, .t (.f 2) 1, .t (.f 3) 1], .ls, .ls, .ls]⟩)] Tryz.func193 (by kernel_rfl) (by kernel_rfl) (by kernel_rfl) h
def GI.sg:Sg:=⟨[(1,[.t 8 0, .t 2 0, .t 1 0, .t 1 0]),(1,[.t 1 0, .t 1 0]),(0,[.v])],[(1,[.t 1, .t 1])],[]⟩
def GI.txt (C:Ctx) (a0:Value) (c0 c1 c2 c3 c4 c5:List T) (K:J2):Prop:=
 cl2 C 190 DN.sg [] [c4,c5] fun v1 d2=>
 BW (fun x4 k5=>
 K [] [(nxc k5 0),(nxc k5 1)]) fun j6=>
 cl2 C 191 GS.sg [a0] [c0,c1,c2,c3,c4,c5] fun v7 d8=>
 AV (nx v7 0) (
 cl2 C 193 CN.sg [a0] [(nxc d2 0),(nxc d2 1),c0,c1,c2,c3] fun v10 d11=>
 j6 [] [(nxc d11 0),(nxc d11 1)]) (
 j6 [] [(nxc d2 0),(nxc d2 1)])
theorem GI.cl2 {w0:World} {a0:Value} {c0 c1 c2 c3 c4 c5:List T} {K:J2} (h:GI.txt ⟨Tryz.prog,w0⟩ a0 c0 c1 c2 c3 c4 c5 K):Eng.cl2 ⟨Tryz.prog,w0⟩ 174 GI.sg [a0] [c0,c1,c2,c3,c4,c5] K:=
 AD (C:=⟨Tryz.prog,w0⟩) (f:=174) (fn:=Tryz.f174) [(190,DN.sg),(191,GS.sg),(193,CN.sg)] [] [(7,⟨[.p (.j 0) 0, .p (.j 1) 0],[],[.bx [.z, .z], .bx [.t (.j 2) 1, .t (.j 3) 1], .ls, .ls]⟩)] Tryz.func174 (by kernel_rfl) (by kernel_rfl) (by kernel_rfl) h
def IG.sg:Sg:=⟨[(1,[.t 1 0, .t 1 0])],[(0,[.t 1])],[]⟩
def IG.txt (C:Ctx) (c0 c1:List T) (K:J2):Prop:=
 BC (fun r3 x1 k2=>
 prP (bnI .lss (nx x1 1) (nx x1 0)) fun t10_15=>
 AV t10_15 (
 BW (fun x17 k18=>
 prP (bnI .add (nx x17 1) (.int .i64 1)) fun t20_23=>
 r3 [(nx x17 0),t20_23] [(nxc k18 0)]) fun j19=>
 ixW (cnt 1 c1) (nx x1 1) fun t12_20=>
 ldc c1 [] ((AA t12_20)*1) fun t13_21=>
 prP (bnI .eql t13_21 (.int .i64 2)) fun t15_22=>
 AV t15_22 (
 apW [T.c (nx x1 1)] true (cnt 1 (nxc k2 0)) (cnt 1 [T.c (nx x1 1)]) 8 (
 j19 [(nx x1 0),(nx x1 1)] [((nxc k2 0)++[T.c (nx x1 1)])])) (
 j19 [(nx x1 0),(nx x1 1)] [(nxc k2 0)])) (
 K [] [(nxc k2 0)])) [(iv (cnt 1 c1)),(.int .i64 0)] [[]]
theorem IG.cl2 {w0:World} {c0 c1:List T} {K:J2} (h:IG.txt ⟨Tryz.prog,w0⟩ c0 c1 K):Eng.cl2 ⟨Tryz.prog,w0⟩ 175 IG.sg [] [c0,c1] K:=
 AD (C:=⟨Tryz.prog,w0⟩) (f:=175) (fn:=Tryz.f175) [] [] [(467,⟨[.t (.j 0) 1, .t (.f 1) 1, .v, .v],[],[.ls]⟩),(58,⟨[.t (.j 0) 1, .t (.f 1) 1, .v, .v],[],[.ls]⟩)] Tryz.func175 (by kernel_rfl) (by kernel_rfl) (by kernel_rfl) h
def FP.sg:Sg:=⟨[(1,[.t 8 0, .t 2 0, .t 1 0, .t 1 0]),(0,[.v])],[(0,[.v])],[]⟩
def FP.txt (C:Ctx) (a0:Value) (c0 c1 c2 c3:List T) (K:J2):Prop:=
 prP (bnI .sub (iv (cnt 8 c0)) (.int .i64 1)) fun t15_1=>
 cl2 C 94 B6.sg [a0,(.int .i64 0),t15_1] [] fun v2 d3=>
 prP (un .not (nx v2 0)) fun t17_5=>
 gE t17_5 (
 gE t17_5 (
 gE t17_5 (
 gP t17_5 false (ixW (cnt 8 c0) a0) fun t22_6=>
 gE t17_5 (
 gP t17_5 false (ldc c0 [] ((AA t22_6)*8)) fun t24_7=>
 gP t17_5 false (prP (un .not t24_7)) fun t25_8=>
 prP (pk t17_5 (.bool true) t25_8) fun t26_9=>
 AV t26_9 (
 K [(.int .i64 0)] []) (
 ixW (cnt 8 c0) a0 fun t31_10=>
 ldc c0 [] (((AA t31_10)*8)+1) fun t33_11=>
 cl2 C 168 F7.sg [a0,t33_11] [] fun v12 d13=>
 BC (fun r17 x15 k16=>
 prP (bnI .lss (nx x15 3) (nx x15 2)) fun t39_19=>
 AV t39_19 (
 ixW (cnt 8 c0) (nx x15 3) fun t40_20=>
 ldg c0 [] ((AA t40_20)*8) [.c, .c, .c, .c, .c, .c, .l 1, .c] fun ts21=>
 BC (fun r24 x22 k23=>
 prP (bnI .lss (nx x22 6) (nx x22 5)) fun t46_26=>
 AV t46_26 (
 BW (fun x28 k29=>
 prP (bnI .add (nx x28 6) (.int .i64 1)) fun t58_36=>
 r24 [(nx x28 0),(nx x28 1),(nx x28 2),(nx x28 3),(iv (AA (nx x28 4))),(nx x28 5),t58_36,(nx x28 7),(nx x28 8),(nx x28 9),(nx x28 10),(nx x28 11),(nx x28 12),(iv (AA (nx x28 13))),(nx x28 14)] []) fun j30=>
 ixW (cnt 1 (G4 c0 [(AA (nx x22 4))])) (nx x22 6) fun t47_31=>
 ldc c0 [(AA (nx x22 4))] ((AA t47_31)*1) fun t48_32=>
 gE (nx x22 7) (
 gE (nx x22 7) (
 gP (nx x22 7) true (prP (bnI .eql t48_32 (nx x22 0))) fun t54_33=>
 prP (pk (nx x22 7) t54_33 (.bool false)) fun t55_34=>
 AV t55_34 (
 prP (bnI .add (nx x22 1) (.int .i64 1)) fun t57_35=>
 j30 [(nx x22 0),t57_35,(nx x22 2),(nx x22 3),(iv (AA (nx x22 4))),(nx x22 5),(nx x22 6),(nx x22 7),(nx x22 8),(nx x22 9),(nx x22 10),(nx x22 11),(nx x22 12),(iv (AA (nx x22 13))),(nx x22 14)] []) (
 j30 [(nx x22 0),(nx x22 1),(nx x22 2),(nx x22 3),(iv (AA (nx x22 4))),(nx x22 5),(nx x22 6),(nx x22 7),(nx x22 8),(nx x22 9),(nx x22 10),(nx x22 11),(nx x22 12),(iv (AA (nx x22 13))),(nx x22 14)] [])))) (
 prP (bnI .add (nx x22 3) (.int .i64 1)) fun t59_37=>
 r17 [(nx x22 0),(nx x22 1),(nx x22 2),t59_37] [])) [(nx x15 0),(nx x15 1),(nx x15 2),(nx x15 3),(iv (((AA t40_20)*8)+6)),(iv (cnt 1 (G4 c0 [(((AA t40_20)*8)+6)]))),(.int .i64 0),(tv (nxT ts21 0)),(tv (nxT ts21 1)),(tv (nxT ts21 2)),(tv (nxT ts21 3)),(tv (nxT ts21 4)),(tv (nxT ts21 5)),(iv (((AA t40_20)*8)+6)),(tv (nxT ts21 7))] []) (
 K [(nx x15 1)] [])) [(nx v12 0),(.int .i64 0),(iv (cnt 8 c0)),(.int .i64 0)] [])))))
theorem FP.cl2 {w0:World} {a0:Value} {c0 c1 c2 c3:List T} {K:J2} (h:FP.txt ⟨Tryz.prog,w0⟩ a0 c0 c1 c2 c3 K):Eng.cl2 ⟨Tryz.prog,w0⟩ 176 FP.sg [a0] [c0,c1,c2,c3] K:=
 AD (C:=⟨Tryz.prog,w0⟩) (f:=176) (fn:=Tryz.f176) [(94,B6.sg),(168,F7.sg)] [] [(512819,⟨[.v, .v, .p (.j 0) 0, .t (.f 0) 8, .v, .v, .n (.f 0) 1 1, .v, .v],[],[.bx [.v, .v, .v, .v, .v, .v, .n (.f 0) 1 1, .v]]⟩),(64102,⟨[.v, .v, .p (.j 0) 0, .t (.f 0) 8, .v, .v, .n (.f 0) 1 1, .v, .v],[],[.bx [.v, .v, .v, .v, .v, .v, .n (.f 0) 1 1, .v]]⟩),(250,⟨[.v, .v, .t (.f 0) 8, .v, .v],[],[]⟩)] Tryz.func176 (by kernel_rfl) (by kernel_rfl) (by kernel_rfl) h
def HH.sg:Sg:=⟨[(1,[.t 8 0, .t 2 0, .t 1 0, .t 1 0])],[(1,[.t 8, .t 2, .t 1, .t 1]),(0,[.t 1])],[]⟩
def HH.txt (C:Ctx) (c0 c1 c2 c3:List T) (K:J2):Prop:=
 cl2 C 83 EE.sg [] [c0,c1,c2,c3] fun v1 d2=>
 prP (bnI .neq (iv (cnt 8 c0)) (.int .i64 8)) fun t20_3=>
 AV t20_3 (
 K [] [(nxc d2 0),(nxc d2 1),(nxc d2 2),(nxc d2 3),[]]) (
 cl2 C 172 GH.sg [] [c0,c1,c2,c3] fun v4 d5=>
 BC (fun r8 x6 k7=>
 prP (bnI .lss (nx x6 1) (nx x6 0)) fun t28_10=>
 AV t28_10 (
 ixW (cnt 1 c2) (nx x6 1) fun t29_11=>
 ldc c2 [] ((AA t29_11)*1) fun t30_12=>
 cl2 C 147 BZ.sg [t30_12] [c0,c1,c2,c3] fun v13 d14=>
 cl2 C 173 GM.sg [(nx v13 0)] [c0,c1,c2,c3,(nxc k7 4),(nxc k7 5)] fun v16 d17=>
 prP (bnI .add (nx x6 1) (.int .i64 1)) fun t37_18=>
 r8 [(nx x6 0),t37_18] [(nxc k7 0),(nxc k7 1),(nxc k7 2),(nxc k7 3),(nxc d17 0),(nxc d17 1)]) (
 BC (fun r21 x19 k20=>
 prP (bnI .lss (nx x19 1) (nx x19 0)) fun t42_23=>
 AV t42_23 (
 ixW (cnt 1 c2) (nx x19 1) fun t43_24=>
 ldc c2 [] ((AA t43_24)*1) fun t44_25=>
 cl2 C 147 BZ.sg [t44_25] [c0,c1,c2,c3] fun v26 d27=>
 cl2 C 174 GI.sg [(nx v26 0)] [c0,c1,c2,c3,(nxc k20 4),(nxc k20 5)] fun v29 d30=>
 prP (bnI .add (nx x19 1) (.int .i64 1)) fun t51_31=>
 r21 [(nx x19 0),t51_31] [(nxc k20 0),(nxc k20 1),(nxc k20 2),(nxc k20 3),(nxc d30 0),(nxc d30 1)]) (
 cl2 C 175 IG.sg [] [(nxc k20 4),(nxc k20 5)] fun v32 d33=>
 BC (fun r36 x34 k35=>
 prP (bnI .lss (nx x34 1) (nx x34 0)) fun t56_75=>
 AV t56_75 (
 ixW (cnt 1 (nxc k35 1)) (nx x34 1) fun t57_76=>
 ldc (nxc k35 1) [] ((AA t57_76)*1) fun t58_77=>
 ixW (cnt 8 c0) t58_77 fun t64_78=>
 ldc c0 [] (((AA t64_78)*8)+1) fun t66_79=>
 cl2 C 168 F7.sg [t58_77,t66_79] [] fun v80 d81=>
 apW [T.c (nx v80 0)] true (cnt 1 (nxc k35 0)) (cnt 1 [T.c (nx v80 0)]) 8 (
 ixW (cnt 8 c0) t58_77 fun t76_83=>
 ldc c0 [] (((AA t76_83)*8)+1) fun t78_84=>
 cl2 C 82 H4.sg [t78_84] [] fun v85 d86=>
 ixW (cnt 8 (nxc k35 2)) t58_77 fun t80_87=>
 stg (nxc k35 2) [] ((AA t80_87)*8) [T.c (nx v85 0),T.c (nx v85 1),T.c (nx v85 2),T.c (nx v85 3),T.c (nx v85 4),T.c (nx v85 5),T.l 1 (nxc d86 0),T.c (nx v85 6)] fun k88=>
 prP (bnI .add (nx x34 1) (.int .i64 1)) fun t81_89=>
 r36 [(nx x34 0),t81_89] [((nxc k35 0)++[T.c (nx v80 0)]),(nxc k35 1),k88,(nxc k35 3),(nxc k35 4),(nxc k35 5)])) (
 BC (fun r92 x90 k91=>
 prP (bnI .lss (nx x90 1) (nx x90 0)) fun t86_94=>
 AV t86_94 (
 BW (fun x96 k97=>
 prP (bnI .add (nx x96 1) (.int .i64 1)) fun t115_110=>
 r92 [(nx x96 0),t115_110] [(nxc k97 0),(nxc k97 1),(nxc k97 2),(nxc k97 3),(nxc k97 4)]) fun j98=>
 ixW (cnt 8 (nxc k91 1)) (nx x90 1) fun t91_99=>
 stc (nxc k91 1) [] (((AA t91_99)*8)+7) (.bool false) fun k100=>
 ldc k100 [] ((AA t91_99)*8) fun t98_101=>
 AV t98_101 (
 ldc k100 [] (((AA t91_99)*8)+3) fun t103_102=>
 ldc k100 [] (((AA t91_99)*8)+4) fun t107_103=>
 prP (bnI .add t103_102 t107_103) fun t108_104=>
 cl2 C 176 FP.sg [(nx x90 1)] [k100,(nxc k91 2),(nxc k91 3),(nxc k91 4)] fun v105 d106=>
 prP (bnI .add t108_104 (nx v105 0)) fun t112_108=>
 stc k100 [] (((AA t91_99)*8)+5) t112_108 fun k109=>
 j98 [(nx x90 0),(nx x90 1)] [(nxc k91 0),k109,(nxc k91 2),(nxc k91 3),(nxc k91 4)]) (
 j98 [(nx x90 0),(nx x90 1)] [(nxc k91 0),k100,(nxc k91 2),(nxc k91 3),(nxc k91 4)])) (
 K [] [(nxc k91 1),(nxc k91 2),[],(nxc k91 4),(nxc k91 0)])) [(iv (cnt 8 (nxc k35 2))),(.int .i64 0)] [(nxc k35 0),(nxc k35 2),(nxc k35 3),(nxc k35 4),(nxc k35 5)])) [(iv (cnt 1 (nxc d33 0))),(.int .i64 0)] [[],(nxc d33 0),(nxc k20 0),(nxc k20 1),(nxc k20 2),(nxc k20 3)])) [(iv (cnt 1 c2)),(.int .i64 0)] [(nxc k7 0),(nxc k7 1),(nxc k7 2),(nxc k7 3),(nxc k7 4),(nxc k7 5)])) [(iv (cnt 1 c2)),(.int .i64 0)] [(nxc d2 0),(nxc d2 1),(nxc d2 2),(nxc d2 3),(nxc d5 0),(nxc d5 1)])
theorem HH.cl2 {w0:World} {c0 c1 c2 c3:List T} {K:J2} (h:HH.txt ⟨Tryz.prog,w0⟩ c0 c1 c2 c3 K):Eng.cl2 ⟨Tryz.prog,w0⟩ 131 HH.sg [] [c0,c1,c2,c3] K:=
 AD (C:=⟨Tryz.prog,w0⟩) (f:=131) (fn:=Tryz.f131) [(83,EE.sg),(172,GH.sg),(147,BZ.sg),(173,GM.sg),(174,GI.sg),(175,IG.sg),(168,F7.sg),(82,H4.sg),(176,FP.sg)] [(8,[0,0,0,0,12,31,63]),(13,[0,0,0,0,12,31,63]),(20,[0,1,0,0,8,0,56,120,248,504,1023,2047]),(28,[0,0,2,6,14,0,32,96,224,510,0,0,3072,8190,16383,32767,65535])] [(32723,⟨[.p (.j 0) 0, .p (.j 1) 0, .t (.j 2) 1, .v, .v],[],[.bx [.z, .z, .z, .z], .bx [.t (.j 3) 8, .t (.j 4) 2, .t (.j 5) 1, .t (.j 6) 1], .ls, .ls, .ls, .ls, .ls]⟩),(4090,⟨[.p (.j 0) 0, .p (.j 1) 0, .t (.j 2) 1, .v, .v],[],[.bx [.z, .z, .z, .z], .bx [.t (.j 3) 8, .t (.j 4) 2, .t (.j 5) 1, .t (.j 6) 1], .ls, .ls, .ls, .ls, .ls]⟩),(2042,⟨[.p (.j 0) 0, .p (.j 1) 0, .p (.j 2) 0, .t (.j 3) 1, .t (.j 4) 1, .v, .v],[],[.bx [.t (.f 0) 8, .t (.f 1) 2, .t (.f 2) 1, .t (.f 3) 1], .bx [.z, .z, .z, .z], .bx [.t (.j 5) 8, .t (.j 6) 2, .t (.j 7) 1, .t (.j 8) 1], .ls, .ls, .ls, .ls, .ls, .ls]⟩),(506,⟨[.p (.j 0) 0, .p (.j 1) 0, .p (.j 2) 0, .p (.j 3) 0, .t (.f 2) 1, .v, .v],[],[.bx [.t (.f 0) 8, .t (.f 1) 2, .t (.f 2) 1, .t (.f 3) 1], .bx [.z, .z, .z, .z], .bx [.t (.j 4) 8, .t (.j 5) 2, .t (.j 6) 1, .t (.j 7) 1], .bx [.t (.j 8) 1, .t (.j 9) 1], .ls, .ls, .ls, .ls, .ls, .ls]⟩),(250,⟨[.p (.j 0) 0, .p (.j 1) 0, .p (.j 2) 0, .p (.j 3) 0, .t (.f 2) 1, .v, .v],[],[.bx [.t (.f 0) 8, .t (.f 1) 2, .t (.f 2) 1, .t (.f 3) 1], .bx [.z, .z, .z, .z], .bx [.t (.j 4) 8, .t (.j 5) 2, .t (.j 6) 1, .t (.j 7) 1], .bx [.t (.j 8) 1, .t (.j 9) 1], .ls, .ls, .ls, .ls, .ls, .ls]⟩)] Tryz.func131 (by kernel_rfl) (by kernel_rfl) (by kernel_rfl) h
def DB.sg:Sg:=⟨[(2,[.t 8 2, .t 2 2, .t 1 2, .t 1 2]),(1,[.v, .v, .v, .v, .v])],[(1,[.v, .v, .t 1])],[[.t 8, .t 2, .t 1, .t 1]]⟩
def DB.txt (C:Ctx) (a0 a1 a2 a3 a4:Value) (c0 c1 c2 c3:List T) (K:J2):Prop:=
 prP (bnI .eql a0 (.int .i64 1)) fun t10_1=>
 AV t10_1 (
 cl2 C 126 EH.sg [a4] [c0,c1,c2,c3] fun v2 d3=>
 K [(nx v2 0),(nx v2 1)] [(nxc d3 0),(nxc d3 1),c1,c2,(nxc d3 2)]) (
 BW (fun x5 k6=>
 AV (nx x5 1) (
 cl2 C 127 DJ.sg [(nx x5 2),(nx x5 3)] [(nxc k6 0),(nxc k6 1),(nxc k6 2),(nxc k6 3)] fun v12 d13=>
 K [(nx v12 0),(nx v12 1)] [(nxc d13 0),(nxc d13 1),(nxc k6 1),(nxc d13 2),(nxc k6 3)]) (
 prP (bnI .eql (nx x5 0) (.int .i64 4)) fun t27_14=>
 AV t27_14 (
 cl2 C 128 EN.sg [(nx x5 2),(nx x5 3),(nx x5 4),(nx x5 5),(nx x5 6)] [(nxc k6 0),(nxc k6 1),(nxc k6 2),(nxc k6 3)] fun v15 d16=>
 K [(nx v15 0),(nx v15 1)] [(nxc d16 0),(nxc d16 1),(nxc k6 1),(nxc d16 2),(nxc k6 3)]) (
 prP (bnI .eql (nx x5 0) (.int .i64 7)) fun t32_17=>
 AV t32_17 (
 cl2 C 129 FK.sg [(nx x5 3)] [(nxc k6 0),(nxc k6 1),(nxc k6 2),(nxc k6 3)] fun v18 d19=>
 K [(nx v18 0),(nx v18 1)] [(nxc d19 0),(nxc k6 0),(nxc d19 1),(nxc k6 2),(nxc k6 3)]) (
 BW (fun x21 k22=>
 AV (nx x21 1) (
 cl2 C 130 DY.sg [(nx x21 2),(nx x21 3)] [(nxc k22 0),(nxc k22 1),(nxc k22 2),(nxc k22 3)] fun v26 d27=>
 K [(nx v26 0),(nx v26 1)] [(nxc d27 0),(nxc k22 0),(nxc d27 1),(nxc k22 2),(nxc k22 3)]) (
 prP (bnI .eql (nx x21 0) (.int .i64 10)) fun t47_28=>
 AV t47_28 (
 cl2 C 131 HH.sg [] [(nxc k22 0),(nxc k22 1),(nxc k22 2),(nxc k22 3)] fun v29 d30=>
 K [(.int .i64 0),(.int .i64 0)] [(nxc d30 4),(nxc d30 0),(nxc d30 1),(nxc d30 2),(nxc d30 3)]) (
 cl2 C 85 BX.sg [(.int .i64 2)] [] fun v31 d32=>
 K [(nx v31 0),(nx v31 1)] [(nxc d32 0),(nxc k22 0),(nxc k22 1),(nxc k22 2),(nxc k22 3)]))) fun j23=>
 prP (bnI .eql (nx x5 0) (.int .i64 8)) fun t38_24=>
 AV t38_24 (
 j23 [(nx x5 0),t38_24,(nx x5 2),(nx x5 3),(nx x5 4),(nx x5 5),(nx x5 6),(nx x5 7),(nx x5 8)] [(nxc k6 0),(nxc k6 1),(nxc k6 2),(nxc k6 3)]) (
 prP (bnI .eql (nx x5 0) (.int .i64 9)) fun t39_25=>
 j23 [(nx x5 0),t39_25,(nx x5 2),(nx x5 3),(nx x5 4),(nx x5 5),(nx x5 6),(nx x5 7),(nx x5 8)] [(nxc k6 0),(nxc k6 1),(nxc k6 2),(nxc k6 3)]))))) fun j7=>
 prP (bnI .eql a0 (.int .i64 2)) fun t16_8=>
 AV t16_8 (
 j7 [a0,t16_8,a0,a1,a2,a3,a4,(.int .i64 0),(.int .i64 0)] [c0,c1,c2,c3]) (
 prP (bnI .eql a0 (.int .i64 3)) fun t17_9=>
 AV t17_9 (
 j7 [a0,t17_9,a0,a1,a2,a3,a4,(.int .i64 0),(.int .i64 0)] [c0,c1,c2,c3]) (
 prP (bnI .eql a0 (.int .i64 5)) fun t18_10=>
 AV t18_10 (
 j7 [a0,t18_10,a0,a1,a2,a3,a4,(.int .i64 0),(.int .i64 0)] [c0,c1,c2,c3]) (
 prP (bnI .eql a0 (.int .i64 6)) fun t19_11=>
 j7 [a0,t19_11,a0,a1,a2,a3,a4,(.int .i64 0),(.int .i64 0)] [c0,c1,c2,c3]))))
theorem DB.cl2 {w0:World} {a0 a1 a2 a3 a4:Value} {c0 c1 c2 c3:List T} {K:J2} (h:DB.txt ⟨Tryz.prog,w0⟩ a0 a1 a2 a3 a4 c0 c1 c2 c3 K):Eng.cl2 ⟨Tryz.prog,w0⟩ 73 DB.sg [a0,a1,a2,a3,a4] [c0,c1,c2,c3] K:=
 AD (C:=⟨Tryz.prog,w0⟩) (f:=73) (fn:=Tryz.f73) [(126,EH.sg),(127,DJ.sg),(128,EN.sg),(129,FK.sg),(130,DY.sg),(131,HH.sg),(85,BX.sg)] [] [(107,⟨[.p (.j 0) 0, .p (.j 1) 0, .p (.j 2) 0, .v, .v],[.p (.j 0) 0],[.bx [.t (.j 3) 8, .t (.j 4) 2, .t (.j 5) 1, .t (.j 6) 1], .bx [.v, .v, .v, .v, .v], .bx [.v, .v, .z], .ls, .ls, .ls, .ls]⟩),(6911,⟨[.p (.j 0) 0, .p (.j 1) 0, .p (.j 2) 0, .v, .v],[.p (.j 0) 0],[.bx [.t (.j 3) 8, .t (.j 4) 2, .t (.j 5) 1, .t (.j 6) 1], .bx [.v, .v, .v, .v, .v], .bx [.v, .v, .z], .ls, .ls, .ls, .ls]⟩)] Tryz.func73 (by kernel_rfl) (by kernel_rfl) (by kernel_rfl) h
def KH.sg:Sg:=⟨[(0,[.t 5 0])],[(1,[.t 8, .t 2, .t 1, .t 1]),(0,[.t 3])],[]⟩
def KH.txt (C:Ctx) (c0:List T) (K:J2):Prop:=
 cl2 C 43 FM.sg [] [] fun v1 d2=>
 F6 C 72 5 (cnt 5 c0) fun t11_3=>
 BC (fun r6 x4 k5=>
 prP (bnI .lss (nx x4 3) (nx x4 2)) fun t14_15=>
 AV t14_15 (
 ixW (AA (nx x4 0)) (nx x4 3) fun t15_16=>
 ldg c0 [] ((AA (nx x4 1))+((AA t15_16)*5)) [.c, .c, .c, .c, .c] fun ts17=>
 cl2 C 73 DB.sg [(tv (nxT ts17 0)),(tv (nxT ts17 1)),(tv (nxT ts17 2)),(tv (nxT ts17 3)),(tv (nxT ts17 4))] [(nxc k5 1),(nxc k5 2),(nxc k5 3),(nxc k5 4)] fun v18 d19=>
 apW [T.c (nx v18 0),T.c (nx v18 1),T.l 1 (nxc d19 0)] false (cnt 3 (nxc k5 0)) (cnt 3 [T.c (nx v18 0),T.c (nx v18 1),T.l 1 (nxc d19 0)]) 40 (
 prP (bnI .add (nx x4 3) (.int .i64 1)) fun t23_20=>
 r6 [(iv (AA (nx x4 0))),(iv (AA (nx x4 1))),(nx x4 2),t23_20] [((nxc k5 0)++[T.c (nx v18 0),T.c (nx v18 1),T.l 1 (nxc d19 0)]),(nxc d19 1),(nxc d19 2),(nxc d19 3),(nxc d19 4)])) (
 K [] [(nxc k5 1),(nxc k5 2),(nxc k5 3),(nxc k5 4),(nxc k5 0)])) [(iv (AA t11_3)),(iv 0),(iv (AA t11_3)),(.int .i64 0)] [[],(nxc d2 0),(nxc d2 1),(nxc d2 2),(nxc d2 3)]
theorem KH.cl2 {w0:World} {c0:List T} {K:J2} (h:KH.txt ⟨Tryz.prog,w0⟩ c0 K):Eng.cl2 ⟨Tryz.prog,w0⟩ 35 KH.sg [] [c0] K:=
 AD (C:=⟨Tryz.prog,w0⟩) (f:=35) (fn:=Tryz.f35) [(43,FM.sg),(72,fT.sg),(73,DB.sg)] [] [(122,⟨[.p (.j 0) 0, .p (.j 1) 0, .t (.j 2) 3, .s (.f 0) 0 5, .v, .v],[],[.bx [.z, .z, .z, .z], .bx [.t (.j 3) 8, .t (.j 4) 2, .t (.j 5) 1, .t (.j 6) 1], .ls, .ls, .ls, .ls, .ls]⟩)] Tryz.func35 (by kernel_rfl) (by kernel_rfl) (by kernel_rfl) h
def EK.sg:Sg:=⟨[(1,[.v, .t 1 0])],[(1,[.v, .t 1])],[]⟩
def EK.txt (C:Ctx) (a0:Value) (c0:List T) (K:J2):Prop:=
 cl2 C 143 DD.sg [] [c0] fun v1 d2=>
 K [a0] [(nxc d2 0)]
theorem EK.cl2 {w0:World} {a0:Value} {c0:List T} {K:J2} (h:EK.txt ⟨Tryz.prog,w0⟩ a0 c0 K):Eng.cl2 ⟨Tryz.prog,w0⟩ 81 EK.sg [a0] [c0] K:=
 AD (C:=⟨Tryz.prog,w0⟩) (f:=81) (fn:=Tryz.f81) [(143,DD.sg)] [(1,[0,1,0,4,12,31,63])] [] Tryz.func81 (by kernel_rfl) (by kernel_rfl) (by kernel_rfl) h
def D9.sg:Sg:=⟨[(0,[.v])],[(0,[.v])],[]⟩
def D9.txt (C:Ctx) (a0:Value) (K:J2):Prop:=
 cl2 C 94 B6.sg [a0,(.int .i64 (-1000000000)),(.int .i64 1000000000)] [] fun v1 d2=>
 K [(nx v1 0)] []
theorem D9.cl2 {w0:World} {a0:Value} {K:J2} (h:D9.txt ⟨Tryz.prog,w0⟩ a0 K):Eng.cl2 ⟨Tryz.prog,w0⟩ 149 D9.sg [a0] [] K:=
 AD (C:=⟨Tryz.prog,w0⟩) (f:=149) (fn:=Tryz.f149) [(94,B6.sg)] [] [] Tryz.func149 (by kernel_rfl) (by kernel_rfl) (by kernel_rfl) h
def GW.sg:Sg:=⟨[(1,[.v, .v, .v, .v, .v])],[(0,[.v])],[]⟩
def GW.txt (C:Ctx) (a0 a1 a2 a3 a4:Value) (K:J2):Prop:=
 cl2 C 149 D9.sg [a0] [] fun v1 d2=>
 gE (nx v1 0) (
 gE (nx v1 0) (
 gP (nx v1 0) true ((fun K=>cl2 C 149 D9.sg [a1] [] fun v4 d5=>K (nx v4 0))) fun t9_6=>
 prP (pk (nx v1 0) t9_6 (.bool false)) fun t10_7=>
 gE t10_7 (
 gE t10_7 (
 gP t10_7 true ((fun K=>cl2 C 149 D9.sg [a2] [] fun v8 d9=>K (nx v8 0))) fun t14_10=>
 prP (pk t10_7 t14_10 (.bool false)) fun t15_11=>
 gE t15_11 (
 gE t15_11 (
 gP t15_11 true ((fun K=>cl2 C 149 D9.sg [a3] [] fun v12 d13=>K (nx v12 0))) fun t19_14=>
 prP (pk t15_11 t19_14 (.bool false)) fun t20_15=>
 gE t20_15 (
 gE t20_15 (
 gP t20_15 true (prP (lnS a4)) fun t24_16=>
 gP t20_15 true (prP (bnI .leq t24_16 (.int .i64 8))) fun t25_17=>
 prP (pk t20_15 t25_17 (.bool false)) fun t26_18=>
 K [t26_18] []))))))))
theorem GW.cl2 {w0:World} {a0 a1 a2 a3 a4:Value} {K:J2} (h:GW.txt ⟨Tryz.prog,w0⟩ a0 a1 a2 a3 a4 K):Eng.cl2 ⟨Tryz.prog,w0⟩ 87 GW.sg [a0,a1,a2,a3,a4] [] K:=
 AD (C:=⟨Tryz.prog,w0⟩) (f:=87) (fn:=Tryz.f87) [(149,D9.sg)] [] [] Tryz.func87 (by kernel_rfl) (by kernel_rfl) (by kernel_rfl) h
def EJ.sg:Sg:=⟨[(1,[.v, .v, .t 1 0])],[(0,[.v])],[]⟩
def EJ.txt (C:Ctx) (a0 a1:Value) (c0:List T) (K:J2):Prop:=
 BC (fun r3 x1 k2=>
 prP (bnI .lss (nx x1 1) (nx x1 0)) fun t9_5=>
 AV t9_5 (
 ixW (cnt 1 c0) (nx x1 1) fun t10_6=>
 ldc c0 [] ((AA t10_6)*1) fun t11_7=>
 cl2 C 149 D9.sg [t11_7] [] fun v8 d9=>
 prP (un .not (nx v8 0)) fun t14_11=>
 AV t14_11 (
 K [(.bool false)] []) (
 prP (bnI .add (nx x1 1) (.int .i64 1)) fun t15_12=>
 r3 [(nx x1 0),t15_12,(nx x1 2),(nx x1 3)] [])) (
 cl2 C 94 B6.sg [(nx x1 2),(.int .i64 0),(.int .i64 6)] [] fun v13 d14=>
 gE (nx v13 0) (
 gE (nx v13 0) (
 gP (nx v13 0) true ((fun K=>cl2 C 149 D9.sg [(nx x1 3)] [] fun v16 d17=>K (nx v16 0))) fun t22_18=>
 prP (pk (nx v13 0) t22_18 (.bool false)) fun t23_19=>
 gE t23_19 (
 gE t23_19 (
 gE t23_19 (
 gP t23_19 true (prP (bnI .leq (iv (cnt 1 c0)) (.int .i64 8))) fun t28_20=>
 prP (pk t23_19 t28_20 (.bool false)) fun t29_21=>
 K [t29_21] []))))))) [(iv (cnt 1 c0)),(.int .i64 0),a0,a1] []
theorem EJ.cl2 {w0:World} {a0 a1:Value} {c0:List T} {K:J2} (h:EJ.txt ⟨Tryz.prog,w0⟩ a0 a1 c0 K):Eng.cl2 ⟨Tryz.prog,w0⟩ 88 EJ.sg [a0,a1] [c0] K:=
 AD (C:=⟨Tryz.prog,w0⟩) (f:=88) (fn:=Tryz.f88) [(149,D9.sg),(94,B6.sg)] [] [(26,⟨[.p (.j 0) 0, .t (.f 0) 1, .v, .v],[],[.bx [.v, .v, .t (.f 0) 1]]⟩)] Tryz.func88 (by kernel_rfl) (by kernel_rfl) (by kernel_rfl) h
def GJ.sg:Sg:=⟨[(0,[.t 1 0]),(0,[.v])],[(0,[.v])],[]⟩
def GJ.txt (C:Ctx) (a0:Value) (c0:List T) (K:J2):Prop:=
 cl2 C 91 ET.sg [a0] [c0] fun v1 d2=>
 prP (bnI .geq (nx v1 0) (.int .i64 0)) fun t8_4=>
 K [t8_4] []
theorem GJ.cl2 {w0:World} {a0:Value} {c0:List T} {K:J2} (h:GJ.txt ⟨Tryz.prog,w0⟩ a0 c0 K):Eng.cl2 ⟨Tryz.prog,w0⟩ 150 GJ.sg [a0] [c0] K:=
 AD (C:=⟨Tryz.prog,w0⟩) (f:=150) (fn:=Tryz.f150) [(91,ET.sg)] [] [] Tryz.func150 (by kernel_rfl) (by kernel_rfl) (by kernel_rfl) h
def JB.sg:Sg:=⟨[(1,[.v, .t 1 0])],[(0,[.v])],[]⟩
def JB.txt (C:Ctx) (a0:Value) (c0:List T) (K:J2):Prop:=
 BC (fun r3 x1 k2=>
 prP (bnI .lss (nx x1 1) (nx x1 0)) fun t9_5=>
 AV t9_5 (
 ixW (cnt 1 c0) (nx x1 1) fun t11_6=>
 ldc c0 [] ((AA t11_6)*1) fun t12_7=>
 prP (lnS t12_7) fun t14_8=>
 prP (bnI .gtr t14_8 (.int .i64 8)) fun t15_9=>
 gE t15_9 (
 gE t15_9 (
 gE t15_9 (
 gP t15_9 false ((fun K=>scW (cnt 1 c0) none (some (nx x1 1)) fun l m=>K (two l m))) fun t20_10=>
 gE t15_9 (
 gP t15_9 false ((fun K=>cl2 C 150 GJ.sg [t12_7] [(IP c0 [] ((AA (UT t20_10))*1) ((AA (VM t20_10))*1))] fun v11 d12=>K (nx v11 0))) fun t22_13=>
 prP (pk t15_9 (.bool true) t22_13) fun t23_14=>
 AV t23_14 (
 K [(.bool false)] []) (
 prP (bnI .add (nx x1 1) (.int .i64 1)) fun t24_15=>
 r3 [(nx x1 0),t24_15,(nx x1 2)] [])))))) (
 cl2 C 149 D9.sg [(nx x1 2)] [] fun v16 d17=>
 gE (nx v16 0) (
 gE (nx v16 0) (
 gE (nx v16 0) (
 gP (nx v16 0) true (prP (bnI .leq (iv (cnt 1 c0)) (.int .i64 400))) fun t32_19=>
 prP (pk (nx v16 0) t32_19 (.bool false)) fun t33_20=>
 K [t33_20] []))))) [(iv (cnt 1 c0)),(.int .i64 0),a0] []
theorem JB.cl2 {w0:World} {a0:Value} {c0:List T} {K:J2} (h:JB.txt ⟨Tryz.prog,w0⟩ a0 c0 K):Eng.cl2 ⟨Tryz.prog,w0⟩ 89 JB.sg [a0] [c0] K:=
 AD (C:=⟨Tryz.prog,w0⟩) (f:=89) (fn:=Tryz.f89) [(150,GJ.sg),(149,D9.sg)] [] [(26,⟨[.p (.j 0) 0, .t (.f 0) 1, .v, .v],[],[.bx [.v, .t (.f 0) 1]]⟩)] Tryz.func89 (by kernel_rfl) (by kernel_rfl) (by kernel_rfl) h
def NG.sg:Sg:=⟨[(0,[.v])],[(0,[.v])],[]⟩
def NG.txt (C:Ctx) (a0:Value) (K:J2):Prop:=
 cl2 C 94 B6.sg [a0,(.int .i64 (-100000000000000)),(.int .i64 100000000000000)] [] fun v1 d2=>
 prP (un .not (nx v1 0)) fun t6_4=>
 AV t6_4 (
 K [(.int .i64 (-1))] []) (
 prP (bnI .lss a0 (.int .i64 0)) fun t9_5=>
 AV t9_5 (
 prP (bnI .mul (.int .i64 (-2)) a0) fun t11_6=>
 prP (bnI .sub t11_6 (.int .i64 1)) fun t12_7=>
 K [t12_7] []) (
 prP (bnI .mul (.int .i64 2) a0) fun t14_8=>
 K [t14_8] []))
theorem NG.cl2 {w0:World} {a0:Value} {K:J2} (h:NG.txt ⟨Tryz.prog,w0⟩ a0 K):Eng.cl2 ⟨Tryz.prog,w0⟩ 151 NG.sg [a0] [] K:=
 AD (C:=⟨Tryz.prog,w0⟩) (f:=151) (fn:=Tryz.f151) [(94,B6.sg)] [] [] Tryz.func151 (by kernel_rfl) (by kernel_rfl) (by kernel_rfl) h
def FG.sg:Sg:=⟨[(0,[.v])],[(0,[.v])],[]⟩
def FG.txt (C:Ctx) (a0:Value) (K:J2):Prop:=
 cl2 C 94 B6.sg [a0,(.int .i64 0),(.int .i64 562949953421311)] [] fun v1 d2=>
 prP (un .not (nx v1 0)) fun t6_4=>
 AV t6_4 (
 K [(.string {data:= #[]})] []) (
 BC (fun r7 x5 k6=>
 prP (bnI .gtr (nx x5 0) (.int .i64 127)) fun t8_17=>
 AV t8_17 (
 prP (bnI .rem (nx x5 0) (.int .i64 128)) fun t11_18=>
 prP (bnI .add t11_18 (.int .i64 128)) fun t12_19=>
 prP (cvI .u8 t12_19) fun t13_20=>
 apW [T.c t13_20] true (cnt 1 (nxc k6 0)) (cnt 1 [T.c t13_20]) 1 (
 prP (bnI .quo (nx x5 0) (.int .i64 128)) fun t17_21=>
 r7 [t17_21] [((nxc k6 0)++[T.c t13_20])])) (
 prP (cvI .u8 (nx x5 0)) fun t20_22=>
 apW [T.c t20_22] true (cnt 1 (nxc k6 0)) (cnt 1 [T.c t20_22]) 1 (
 prP (b2T ((nxc k6 0)++[T.c t20_22])) fun t23_23=>
 K [t23_23] []))) [a0] [[]])
theorem FG.cl2 {w0:World} {a0:Value} {K:J2} (h:FG.txt ⟨Tryz.prog,w0⟩ a0 K):Eng.cl2 ⟨Tryz.prog,w0⟩ 92 FG.sg [a0] [] K:=
 AD (C:=⟨Tryz.prog,w0⟩) (f:=92) (fn:=Tryz.f92) [(94,B6.sg)] [] [(60,⟨[.v, .t (.j 0) 1],[],[.ls]⟩)] Tryz.func92 (by kernel_rfl) (by kernel_rfl) (by kernel_rfl) h
def DW.sg:Sg:=⟨[(0,[.v])],[(0,[.v])],[]⟩
def DW.txt (C:Ctx) (a0:Value) (K:J2):Prop:=
 cl2 C 151 NG.sg [a0] [] fun v1 d2=>
 cl2 C 92 FG.sg [(nx v1 0)] [] fun v4 d5=>
 K [(nx v4 0)] []
theorem DW.cl2 {w0:World} {a0:Value} {K:J2} (h:DW.txt ⟨Tryz.prog,w0⟩ a0 K):Eng.cl2 ⟨Tryz.prog,w0⟩ 90 DW.sg [a0] [] K:=
 AD (C:=⟨Tryz.prog,w0⟩) (f:=90) (fn:=Tryz.f90) [(151,NG.sg),(92,FG.sg)] [] [] Tryz.func90 (by kernel_rfl) (by kernel_rfl) (by kernel_rfl) h
def HR.sg:Sg:=⟨[(0,[.v])],[(0,[.v])],[]⟩
def HR.txt (C:Ctx) (a0:Value) (K:J2):Prop:=
 prP (lnS a0) fun t4_1=>
 prP (bnI .gtr t4_1 (.int .i64 8)) fun t5_2=>
 AV t5_2 (
 K [(.string {data:= #[]})] []) (
 prP (lnS a0) fun t7_3=>
 cl2 C 92 FG.sg [t7_3] [] fun v4 d5=>
 prP (bnS .add (nx v4 0) a0) fun t10_7=>
 K [t10_7] [])
theorem HR.cl2 {w0:World} {a0:Value} {K:J2} (h:HR.txt ⟨Tryz.prog,w0⟩ a0 K):Eng.cl2 ⟨Tryz.prog,w0⟩ 93 HR.sg [a0] [] K:=
 AD (C:=⟨Tryz.prog,w0⟩) (f:=93) (fn:=Tryz.f93) [(92,FG.sg)] [] [] Tryz.func93 (by kernel_rfl) (by kernel_rfl) (by kernel_rfl) h
end Go.Proofs.YtnhicpkhkaihoaaGreat.P
