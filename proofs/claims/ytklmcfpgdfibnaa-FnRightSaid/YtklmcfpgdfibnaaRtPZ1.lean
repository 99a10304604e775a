/- A part of the proof. -/
import Derived.Test.YtklmcfpgdfibnaaChecked
import Derived.Test.YtklmcfpgdfibnaaRtPZ0
import Derived.KernelRfl
namespace Go.Proofs.Ytklmcfpgdfibnaa.P
open Go Go.Proofs.Ytklmcfpgdfibnaa Go.Proofs.Ytklmcfpgdfibnaa.Eng
set_option linter.unusedVariables false
set_option maxRecDepth 100000
def FZ.sg:Sg:=⟨[(1,[.t 8 2, .t 2 2, .t 1 2, .t 1 2]),(1,[.v, .v, .v, .v, .v])],[(1,[.t 8, .t 2, .t 1, .t 1]),(1,[.v, .v, .t 1])],[]⟩
def FZ.txt (C:Ctx) (a0 a1 a2 a3 a4:Value) (c0 c1 c2 c3:List T) (K:J2):Prop:=
 cl2 C 24 BX.sg [a1] [c0,c1,c2,c3] fun v1 d2=>
 prP (bnI .lss (nx v1 0) (.int .i64 0)) fun t15_4=>
 gE t15_4 (
 gE t15_4 (
 gP t15_4 false (prP (bnI .neq a3 (.int .i64 (-1)))) fun t19_5=>
 gE t15_4 (
 gE (CJ t15_4 false t19_5) (
 gE (CJ t15_4 false t19_5) (
 gE (CJ t15_4 false t19_5) (
 gP (CJ t15_4 false t19_5) true ((fun K=>cl2 C 24 BX.sg [a3] [c0,c1,c2,c3] fun v6 d7=>K (nx v6 0))) fun t24_8=>
 gP (CJ t15_4 false t19_5) true (prP (bnI .lss t24_8 (.int .i64 0))) fun t25_9=>
 gP t15_4 false (prP (pk t19_5 t25_9 (.bool false))) fun t26_10=>
 prP (pk t15_4 (.bool true) t26_10) fun t27_11=>
 AX t27_11 (
 K [(.int .i64 1),(.int .i64 0)] [c0,c1,c2,c3,[]]) (
 cl2 C 87 CC.sg [a2,(.int .i64 0),(.int .i64 2)] [] fun v12 d13=>
 prP (un .not (nx v12 0)) fun t33_15=>
 AX t33_15 (
 K [(.int .i64 2),(.int .i64 0)] [c0,c1,c2,c3,[]]) (
 ixW (cnt 8 c0) (nx v1 0) fun t39_16=>
 ldl c0 [] (((AA t39_16)*8)+6) 1 fun t41_17=>
 ixW (cnt 1 (GL c0 [(((AA t39_16)*8)+6)])) a2 fun t44_18=>
 ldc c0 [(((AA t39_16)*8)+6)] ((AA t44_18)*1) fun t45_19=>
 BV (fun x21 k22=>
 ixW (cnt 8 (nxc k22 0)) (nx x21 0) fun t56_27=>
 ldl (nxc k22 0) [] (((AA t56_27)*8)+6) 1 fun t58_28=>
 ixW (cnt 1 (GL (nxc k22 0) [(((AA t56_27)*8)+6)])) (nx x21 4) fun t63_29=>
 stc (nxc k22 0) [(((AA t56_27)*8)+6)] ((AA t63_29)*1) (nx x21 5) fun k30=>
 prP (bnI .lss (nx x21 1) (.int .i64 0)) fun t65_31=>
 AX t65_31 (
 K [(.int .i64 0),(.int .i64 0)] [k30,(nxc k22 1),(nxc k22 2),(nxc k22 3),[]]) (
 cl2 C 154 GF.sg [] [k30,(nxc k22 1),(nxc k22 2),(nxc k22 3),[T.c (nx x21 1)]] fun v32 d33=>
 K [(.int .i64 0),(.int .i64 0)] [(nxc d33 0),(nxc d33 1),(nxc d33 2),(nxc d33 3),(nxc d33 4)])) fun j23=>
 prP (bnI .geq a3 (.int .i64 0)) fun t48_24=>
 AX t48_24 (
 cl2 C 153 FT.sg [a3] [c0,c1,c2,c3] fun v25 d26=>
 j23 [(nx v1 0),t45_19,a0,a1,a2,a3,a4,(.int .i64 0),(.int .i64 0)] [(nxc d26 0),(nxc d26 1),(nxc d26 2),(nxc d26 3)]) (
 j23 [(nx v1 0),t45_19,a0,a1,a2,a3,a4,(.int .i64 0),(.int .i64 0)] [c0,c1,c2,c3])))))))))
theorem FZ.cl2 {w0:World} {a0 a1 a2 a3 a4:Value} {c0 c1 c2 c3:List T} {K:J2} (h:FZ.txt ⟨Try.prog,w0⟩ a0 a1 a2 a3 a4 c0 c1 c2 c3 K):Eng.cl2 ⟨Try.prog,w0⟩ 125 FZ.sg [a0,a1,a2,a3,a4] [c0,c1,c2,c3] K:=
 AU (C:=⟨Try.prog,w0⟩) (f:=125) (fn:=Try.f125) [(24,BX.sg),(87,CC.sg),(153,FT.sg),(154,GF.sg)] [(6,[0,1,0,7,15,31,0,64,255,511,1023]),(9,[0,1,0,7,15,31,0,64,0,256,1023,2047])] [(63,⟨[.p (.j 0) 0, .p (.j 1) 0, .p (.j 2) 0, .p (.j 3) 0, .v, .v],[],[.bx [.t (.j 4) 8, .t (.j 5) 2, .t (.j 6) 1, .t (.j 7) 1], .bx [.v, .v, .v, .v, .v], .bx [.z, .z, .z, .z], .bx [.v, .v, .z], .ls, .ls, .ls, .ls]⟩)] Try.func125 (by kernel_rfl) (by kernel_rfl) (by kernel_rfl) h
def GW.sg:Sg:=⟨[(1,[.t 8 0, .t 2 2, .t 1 0, .t 1 0]),(1,[.v, .v, .v, .v, .v])],[(1,[.a 0, .t 2, .a 2, .a 3]),(1,[.v, .v, .t 1])],[]⟩
def GW.txt (C:Ctx) (a0 a1 a2 a3 a4:Value) (c0 c1 c2 c3:List T) (K:J2):Prop:=
 prP (bnI .eql a0 (.int .i64 7)) fun t10_1=>
 AX t10_1 (
 cl2 C 24 BX.sg [a1] [c0,c1,c2,c3] fun v2 d3=>
 prP (bnI .lss (nx v2 0) (.int .i64 0)) fun t15_5=>
 AX t15_5 (
 K [(.int .i64 1),(.int .i64 0)] [c1,[]]) (
 BN (fun r8 x6 k7=>
 prP (bnI .lss (nx x6 0) (iv (cnt 2 (nxc k7 0)))) fun t22_10=>
 AX t22_10 (
 ixW (cnt 2 (nxc k7 0)) (nx x6 0) fun t28_11=>
 ldc (nxc k7 0) [] ((AA t28_11)*2) fun t30_12=>
 prP (un .not t30_12) fun t31_13=>
 AX t31_13 (
 ixW (cnt 2 (nxc k7 0)) (nx x6 0) fun t38_14=>
 stg (nxc k7 0) [] ((AA t38_14)*2) [T.c (.bool true),T.c (nx x6 2)] fun k15=>
 K [(.int .i64 0),(nx x6 0)] [k15,[]]) (
 prP (bnI .add (nx x6 0) (.int .i64 1)) fun t24_16=>
 r8 [t24_16,(nx x6 1),(nx x6 2),(nx x6 3),(nx x6 4),(nx x6 5),(nx x6 6),(nx x6 7)] [(nxc k7 0)])) (
 K [(.int .i64 3),(.int .i64 0)] [(nxc k7 0),[]])) [(.int .i64 0),a0,a1,a2,a3,a4,(.int .i64 0),(.int .i64 0)] [c1])) (
 prP (bnI .sub (iv (cnt 2 c1)) (.int .i64 1)) fun t49_17=>
 cl2 C 87 CC.sg [a1,(.int .i64 0),t49_17] [] fun v18 d19=>
 prP (un .not (nx v18 0)) fun t51_21=>
 gE t51_21 (
 gE t51_21 (
 gE t51_21 (
 gE t51_21 (
 gP t51_21 false (ixW (cnt 2 c1) a1) fun t57_22=>
 gE t51_21 (
 gP t51_21 false (ldc c1 [] ((AA t57_22)*2)) fun t59_23=>
 gP t51_21 false (prP (un .not t59_23)) fun t60_24=>
 prP (pk t51_21 (.bool true) t60_24) fun t61_25=>
 AX t61_25 (
 K [(.int .i64 2),(.int .i64 0)] [c1,[]]) (
 prP (bnI .eql a0 (.int .i64 9)) fun t66_26=>
 AX t66_26 (
 ixW (cnt 2 c1) a1 fun t72_27=>
 stg c1 [] ((AA t72_27)*2) [T.c (.bool false),T.c (.int .i64 0)] fun k28=>
 K [(.int .i64 0),(.int .i64 0)] [k28,[]]) (
 ixW (cnt 2 c1) a1 fun t79_29=>
 ldc c1 [] (((AA t79_29)*2)+1) fun t81_30=>
 cl2 C 24 BX.sg [t81_30] [c0,c1,c2,c3] fun v31 d32=>
 prP (bnI .lss (nx v31 0) (.int .i64 0)) fun t85_34=>
 AX t85_34 (
 K [(.int .i64 0),(.int .i64 (-1))] [c1,[]]) (
 K [(.int .i64 0),t81_30] [c1,[]])))))))))
theorem GW.cl2 {w0:World} {a0 a1 a2 a3 a4:Value} {c0 c1 c2 c3:List T} {K:J2} (h:GW.txt ⟨Try.prog,w0⟩ a0 a1 a2 a3 a4 c0 c1 c2 c3 K):Eng.cl2 ⟨Try.prog,w0⟩ 126 GW.sg [a0,a1,a2,a3,a4] [c0,c1,c2,c3] K:=
 AU (C:=⟨Try.prog,w0⟩) (f:=126) (fn:=Try.f126) [(24,BX.sg),(87,CC.sg)] [] [(426,⟨[.p (.j 0) 0, .p (.j 1) 0, .p (.j 2) 0, .p (.j 3) 0, .v],[.t (.f 0) 8, .w, .t (.f 1) 1, .t (.f 2) 1],[.bx [.t (.f 0) 8, .t (.j 4) 2, .t (.f 1) 1, .t (.f 2) 1], .bx [.v, .v, .v, .v, .v], .bx [.z, .z, .z, .z], .bx [.v, .v, .z], .ls]⟩)] Try.func126 (by kernel_rfl) (by kernel_rfl) (by kernel_rfl) h
def FH.sg:Sg:=⟨[(1,[.t 8 0, .t 2 0, .t 1 0, .t 1 0])],[(1,[.t 1, .t 1])],[]⟩
def FH.txt (C:Ctx) (c0 c1 c2 c3:List T) (K:J2):Prop:=
 BN (fun r3 x1 k2=>
 prP (bnI .lss (nx x1 0) (iv (cnt 8 c0))) fun t10_12=>
 gE t10_12 (
 gP t10_12 true (prP (bnI .lss (nx x1 0) (.int .i64 8))) fun t13_13=>
 prP (pk t10_12 t13_13 (.bool false)) fun t14_14=>
 AX t14_14 (
 ixW (cnt 8 c0) (nx x1 0) fun t22_15=>
 ldc c0 [] (((AA t22_15)*8)+5) fun t24_16=>
 apW [T.c t24_16] true (cnt 1 (nxc k2 0)) (cnt 1 [T.c t24_16]) 8 (
 apW [T.c (.int .i64 0)] true (cnt 1 (nxc k2 1)) (cnt 1 [T.c (.int .i64 0)]) 8 (
 prP (bnI .add (nx x1 0) (.int .i64 1)) fun t16_17=>
 r3 [t16_17] [((nxc k2 0)++[T.c t24_16]),((nxc k2 1)++[T.c (.int .i64 0)])]))) (
 K [] [(nxc k2 0),(nxc k2 1)]))) [(.int .i64 0)] [[],[]]
theorem FH.cl2 {w0:World} {c0 c1 c2 c3:List T} {K:J2} (h:FH.txt ⟨Try.prog,w0⟩ c0 c1 c2 c3 K):Eng.cl2 ⟨Try.prog,w0⟩ 155 FH.sg [] [c0,c1,c2,c3] K:=
 AU (C:=⟨Try.prog,w0⟩) (f:=155) (fn:=Try.f155) [] [(5,[0,1,0,4,0,28,60,124,252,511,1023,2047])] [(58,⟨[.p (.j 0) 0, .p (.j 1) 0, .p (.j 2) 0, .v],[],[.bx [.t (.f 0) 8, .t (.f 1) 2, .t (.f 2) 1, .t (.f 3) 1], .bx [.z, .z], .bx [.t (.j 3) 1, .t (.j 4) 1], .ls, .ls]⟩)] Try.func155 (by kernel_rfl) (by kernel_rfl) (by kernel_rfl) h
def FL.sg:Sg:=⟨[(1,[.t 1 0, .t 1 0])],[(1,[.t 1, .t 1])],[]⟩
def FL.txt (C:Ctx) (c0 c1:List T) (K:J2):Prop:=
 apW c0 true (cnt 1 []) (cnt 1 c0) 8 (
 apW c1 true (cnt 1 []) (cnt 1 c1) 8 (
 K [] [([]++c0),([]++c1)]))
theorem FL.cl2 {w0:World} {c0 c1:List T} {K:J2} (h:FL.txt ⟨Try.prog,w0⟩ c0 c1 K):Eng.cl2 ⟨Try.prog,w0⟩ 168 FL.sg [] [c0,c1] K:=
 AU (C:=⟨Try.prog,w0⟩) (f:=168) (fn:=Try.f168) [] [(1,[0,0,2,7,0,0,32,127,255,511])] [] Try.func168 (by kernel_rfl) (by kernel_rfl) (by kernel_rfl) h
def HC.sg:Sg:=⟨[(1,[.t 8 0, .t 2 0, .t 1 0, .t 1 0]),(1,[.t 1 0, .t 1 0]),(0,[.v])],[(0,[.v])],[]⟩
def HC.txt (C:Ctx) (a0:Value) (c0 c1 c2 c3 c4 c5:List T) (K:J2):Prop:=
 prP (bnI .eql (iv (cnt 8 c0)) (.int .i64 8)) fun t10_1=>
 gE t10_1 (
 gE t10_1 (
 gE t10_1 (
 gP t10_1 true (prP (bnI .eql (iv (cnt 1 c4)) (.int .i64 8))) fun t15_2=>
 prP (pk t10_1 t15_2 (.bool false)) fun t16_3=>
 gE t16_3 (
 gE t16_3 (
 gE t16_3 (
 gP t16_3 true (prP (bnI .eql (iv (cnt 1 c5)) (.int .i64 8))) fun t21_4=>
 prP (pk t16_3 t21_4 (.bool false)) fun t22_5=>
 gE t22_5 (
 gP t22_5 true ((fun K=>cl2 C 87 CC.sg [a0,(.int .i64 0),(.int .i64 7)] [] fun v6 d7=>K (nx v6 0))) fun t25_8=>
 prP (pk t22_5 t25_8 (.bool false)) fun t26_9=>
 gE t26_9 (
 gE t26_9 (
 gE t26_9 (
 gP t26_9 true (ixW (cnt 8 c0) a0) fun t31_10=>
 gE t26_9 (
 gP t26_9 true (ldc c0 [] ((AA t31_10)*8)) fun t33_11=>
 prP (pk t26_9 t33_11 (.bool false)) fun t34_12=>
 K [t34_12] [])))))))))))
theorem HC.cl2 {w0:World} {a0:Value} {c0 c1 c2 c3 c4 c5:List T} {K:J2} (h:HC.txt ⟨Try.prog,w0⟩ a0 c0 c1 c2 c3 c4 c5 K):Eng.cl2 ⟨Try.prog,w0⟩ 169 HC.sg [a0] [c0,c1,c2,c3,c4,c5] K:=
 AU (C:=⟨Try.prog,w0⟩) (f:=169) (fn:=Try.f169) [(87,CC.sg)] [] [] Try.func169 (by kernel_rfl) (by kernel_rfl) (by kernel_rfl) h
def D5.sg:Sg:=⟨[(1,[.t 8 0, .t 2 0, .t 1 0, .t 1 0]),(0,[.v])],[(0,[.t 1])],[]⟩
def D5.txt (C:Ctx) (a0:Value) (c0 c1 c2 c3:List T) (K:J2):Prop:=
 BN (fun r3 x1 k2=>
 ixW (cnt 8 c0) (nx x1 0) fun t13_5=>
 ldl c0 [] (((AA t13_5)*8)+6) 1 fun t15_6=>
 prP (bnI .lss (nx x1 1) (iv (cnt 1 (GL c0 [(((AA t13_5)*8)+6)])))) fun t17_7=>
 AX t17_7 (
 BV (fun x9 k10=>
 prP (bnI .add (nx x9 1) (.int .i64 1)) fun t19_20=>
 r3 [(nx x9 0),t19_20] [(nxc k10 0)]) fun j11=>
 ixW (cnt 8 c0) (nx x1 0) fun t24_12=>
 ldl c0 [] (((AA t24_12)*8)+6) 1 fun t26_13=>
 ixW (cnt 1 (GL c0 [(((AA t24_12)*8)+6)])) (nx x1 1) fun t28_14=>
 ldc c0 [(((AA t24_12)*8)+6)] ((AA t28_14)*1) fun t29_15=>
 cl2 C 24 BX.sg [t29_15] [c0,c1,c2,c3] fun v16 d17=>
 prP (bnI .geq (nx v16 0) (.int .i64 0)) fun t32_19=>
 AX t32_19 (
 apW [T.c (nx v16 0)] true (cnt 1 (nxc k2 0)) (cnt 1 [T.c (nx v16 0)]) 8 (
 j11 [(nx x1 0),(nx x1 1)] [((nxc k2 0)++[T.c (nx v16 0)])])) (
 j11 [(nx x1 0),(nx x1 1)] [(nxc k2 0)])) (
 K [] [(nxc k2 0)])) [a0,(.int .i64 0)] [[]]
theorem D5.cl2 {w0:World} {a0:Value} {c0 c1 c2 c3:List T} {K:J2} (h:D5.txt ⟨Try.prog,w0⟩ a0 c0 c1 c2 c3 K):Eng.cl2 ⟨Try.prog,w0⟩ 170 D5.sg [a0] [c0,c1,c2,c3] K:=
 AU (C:=⟨Try.prog,w0⟩) (f:=170) (fn:=Try.f170) [(24,BX.sg)] [(5,[0,0,2,0,14,30,62,0,254,510,1023,2047])] [(233,⟨[.v, .p (.j 0) 0, .t (.j 1) 1, .v],[],[.bx [.t (.f 0) 8, .t (.f 1) 2, .t (.f 2) 1, .t (.f 3) 1], .ls]⟩),(58,⟨[.v, .p (.j 0) 0, .t (.j 1) 1, .v],[],[.bx [.t (.f 0) 8, .t (.f 1) 2, .t (.f 2) 1, .t (.f 3) 1], .ls]⟩)] Try.func170 (by kernel_rfl) (by kernel_rfl) (by kernel_rfl) h
def E9.sg:Sg:=⟨[(1,[.t 8 0, .t 2 0, .t 1 0, .t 1 0]),(1,[.t 1 0, .t 1 0]),(0,[.v])],[(1,[.t 1, .t 1])],[]⟩
def E9.txt (C:Ctx) (a0:Value) (c0 c1 c2 c3 c4 c5:List T) (K:J2):Prop:=
 cl2 C 168 FL.sg [] [c4,c5] fun v1 d2=>
 cl2 C 169 HC.sg [a0] [c0,c1,c2,c3,c4,c5] fun v3 d4=>
 prP (un .not (nx v3 0)) fun t18_6=>
 gE t18_6 (
 gE t18_6 (
 gE t18_6 (
 gP t18_6 false (ixW (cnt 1 c5) a0) fun t23_7=>
 gP t18_6 false (ldc c5 [] ((AA t23_7)*1)) fun t24_8=>
 gP t18_6 false (prP (bnI .eql t24_8 (.int .i64 1))) fun t25_9=>
 prP (pk t18_6 (.bool true) t25_9) fun t26_10=>
 AX t26_10 (
 K [] [(nxc d2 0),(nxc d2 1)]) (
 ixW (cnt 1 (nxc d2 1)) a0 fun t31_11=>
 stc (nxc d2 1) [] ((AA t31_11)*1) (.int .i64 1) fun k12=>
 BN (fun r15 x13 k14=>
 prP (bnI .gtr (iv (AA (nx x13 0))) (.int .i64 0)) fun t36_57=>
 AX t36_57 (
 prP (bnI .sub (iv (AA (nx x13 0))) (.int .i64 1)) fun t40_58=>
 ixW (AA (nx x13 0)) t40_58 fun t41_59=>
 ldc (nxc k14 0) [] ((AA (nx x13 1))+((AA t41_59)*1)) fun t42_60=>
 prP (bnI .sub (iv (AA (nx x13 0))) (.int .i64 1)) fun t46_61=>
 scW (AA (nx x13 0)) none (some t46_61) fun l62 m63=>
 cl2 C 170 D5.sg [t42_60] [c0,c1,c2,c3] fun v64 d65=>
 BN (fun r68 x66 k67=>
 prP (bnI .lss (nx x66 2) (iv (cnt 1 (nxc k67 1)))) fun t54_70=>
 AX t54_70 (
 BV (fun x72 k73=>
 prP (bnI .add (nx x72 2) (.int .i64 1)) fun t56_95=>
 r68 [(iv (AA (nx x72 0))),(iv (AA (nx x72 1))),t56_95] [(nxc k73 0),(nxc k73 1),(nxc k73 2),(nxc k73 3)]) fun j74=>
 ixW (cnt 1 (nxc k67 1)) (nx x66 2) fun t61_75=>
 ldc (nxc k67 1) [] ((AA t61_75)*1) fun t62_76=>
 ixW (cnt 1 (nxc k67 1)) (nx x66 2) fun t67_77=>
 ldc (nxc k67 1) [] ((AA t67_77)*1) fun t68_78=>
 ixW (cnt 1 (nxc k67 2)) t68_78 fun t69_79=>
 ldc (nxc k67 2) [] ((AA t69_79)*1) fun t70_80=>
 prP (bnI .sub t70_80 (.int .i64 1)) fun t71_81=>
 ixW (cnt 1 (nxc k67 2)) t62_76 fun t72_82=>
 stc (nxc k67 2) [] ((AA t72_82)*1) t71_81 fun k83=>
 ixW (cnt 1 (nxc k67 1)) (nx x66 2) fun t77_84=>
 ldc (nxc k67 1) [] ((AA t77_84)*1) fun t78_85=>
 ixW (cnt 1 (nxc k67 3)) t78_85 fun t79_86=>
 ldc (nxc k67 3) [] ((AA t79_86)*1) fun t80_87=>
 prP (bnI .neq t80_87 (.int .i64 1)) fun t81_88=>
 AX t81_88 (
 ixW (cnt 1 (nxc k67 1)) (nx x66 2) fun t86_89=>
 ldc (nxc k67 1) [] ((AA t86_89)*1) fun t87_90=>
 ixW (cnt 1 (nxc k67 3)) t87_90 fun t88_91=>
 stc (nxc k67 3) [] ((AA t88_91)*1) (.int .i64 1) fun k92=>
 ixW (cnt 1 (nxc k67 1)) (nx x66 2) fun t92_93=>
 ldc (nxc k67 1) [] ((AA t92_93)*1) fun t93_94=>
 apW [T.c t93_94] true (AA (nx x66 0)) (cnt 1 [T.c t93_94]) 8 (
 j74 [(iv (cnt 1 ((GM (nxc k67 0) [] (AA (nx x66 1)) ((AA (nx x66 0))*1))++[T.c t93_94]))),(iv 0),(nx x66 2)] [((GM (nxc k67 0) [] (AA (nx x66 1)) ((AA (nx x66 0))*1))++[T.c t93_94]),(nxc k67 1),k83,k92])) (
 j74 [(iv (AA (nx x66 0))),(iv (AA (nx x66 1))),(nx x66 2)] [(nxc k67 0),(nxc k67 1),k83,(nxc k67 3)])) (
 r15 [(iv (AA (nx x66 0))),(iv (AA (nx x66 1)))] [(nxc k67 0),(nxc k67 2),(nxc k67 3)])) [(iv (AA m63)),(iv ((AA (nx x13 1))+((AA l62)*1))),(.int .i64 0)] [(nxc k14 0),(nxc d65 0),(nxc k14 1),(nxc k14 2)]) (
 K [] [(nxc k14 1),(nxc k14 2)])) [(iv (cnt 1 [T.c a0])),(iv 0)] [[T.c a0],(nxc d2 0),k12]))))
theorem E9.cl2 {w0:World} {a0:Value} {c0 c1 c2 c3 c4 c5:List T} {K:J2} (h:E9.txt ⟨Try.prog,w0⟩ a0 c0 c1 c2 c3 c4 c5 K):Eng.cl2 ⟨Try.prog,w0⟩ 156 E9.sg [a0] [c0,c1,c2,c3,c4,c5] K:=
 AU (C:=⟨Try.prog,w0⟩) (f:=156) (fn:=Try.f156) [(168,FL.sg),(169,HC.sg),(170,D5.sg)] [(13,[0,1,0,0,12,28,0,64,0,0,768,1792,4032,8128,16320,32767,65535]),(14,[0,1,0,0,12,28,63,127,255]),(15,[0,1,0,0,12,28,63,127])] [(258425,⟨[.p (.j 0) 0, .p (.j 1) 0, .p (.j 2) 0, .s (.j 3) 0 1, .t (.j 4) 1, .v],[],[.bx [.t (.f 0) 8, .t (.f 1) 2, .t (.f 2) 1, .t (.f 3) 1], .bx [.z, .z], .bx [.t (.j 5) 1, .t (.j 6) 1], .ls, .ls, .ls, .ls]⟩),(64606,⟨[.p (.j 0) 0, .p (.j 1) 0, .p (.j 2) 0, .s (.j 3) 0 1, .t (.j 4) 1, .v],[],[.bx [.t (.f 0) 8, .t (.f 1) 2, .t (.f 2) 1, .t (.f 3) 1], .bx [.z, .z], .bx [.t (.j 5) 1, .t (.j 6) 1], .ls, .ls, .ls, .ls]⟩),(252,⟨[.p (.j 0) 0, .p (.j 1) 0, .p (.j 2) 0, .s (.j 3) 0 1],[],[.bx [.t (.f 0) 8, .t (.f 1) 2, .t (.f 2) 1, .t (.f 3) 1], .bx [.z, .z], .bx [.t (.j 4) 1, .t (.j 5) 1], .ls, .ls, .ls]⟩)] Try.func156 (by kernel_rfl) (by kernel_rfl) (by kernel_rfl) h
def F6.sg:Sg:=⟨[(1,[.t 8 0, .t 2 0, .t 1 0, .t 1 0]),(1,[.t 1 2, .t 1 2]),(0,[.v])],[(1,[.t 1, .t 1])],[]⟩
def F6.txt (C:Ctx) (a0:Value) (c0 c1 c2 c3 c4 c5:List T) (K:J2):Prop:=
 ixW (cnt 1 c5) a0 fun t14_1=>
 stc c5 [] ((AA t14_1)*1) (.int .i64 0) fun k2=>
 BN (fun r5 x3 k4=>
 prP (bnI .gtr (iv (AA (nx x3 0))) (.int .i64 0)) fun t19_47=>
 AX t19_47 (
 prP (bnI .sub (iv (AA (nx x3 0))) (.int .i64 1)) fun t23_48=>
 ixW (AA (nx x3 0)) t23_48 fun t24_49=>
 ldc (nxc k4 0) [] ((AA (nx x3 1))+((AA t24_49)*1)) fun t25_50=>
 prP (bnI .sub (iv (AA (nx x3 0))) (.int .i64 1)) fun t29_51=>
 scW (AA (nx x3 0)) none (some t29_51) fun l52 m53=>
 cl2 C 170 D5.sg [t25_50] [c0,c1,c2,c3] fun v54 d55=>
 BN (fun r58 x56 k57=>
 prP (bnI .lss (nx x56 2) (iv (cnt 1 (nxc k57 1)))) fun t37_60=>
 AX t37_60 (
 BV (fun x62 k63=>
 prP (bnI .add (nx x62 2) (.int .i64 1)) fun t39_85=>
 r58 [(iv (AA (nx x62 0))),(iv (AA (nx x62 1))),t39_85] [(nxc k63 0),(nxc k63 1),(nxc k63 2),(nxc k63 3)]) fun j64=>
 ixW (cnt 1 (nxc k57 1)) (nx x56 2) fun t44_65=>
 ldc (nxc k57 1) [] ((AA t44_65)*1) fun t45_66=>
 ixW (cnt 1 (nxc k57 1)) (nx x56 2) fun t50_67=>
 ldc (nxc k57 1) [] ((AA t50_67)*1) fun t51_68=>
 ixW (cnt 1 (nxc k57 2)) t51_68 fun t52_69=>
 ldc (nxc k57 2) [] ((AA t52_69)*1) fun t53_70=>
 prP (bnI .add t53_70 (.int .i64 1)) fun t54_71=>
 ixW (cnt 1 (nxc k57 2)) t45_66 fun t55_72=>
 stc (nxc k57 2) [] ((AA t55_72)*1) t54_71 fun k73=>
 ixW (cnt 1 (nxc k57 1)) (nx x56 2) fun t60_74=>
 ldc (nxc k57 1) [] ((AA t60_74)*1) fun t61_75=>
 ixW (cnt 1 (nxc k57 3)) t61_75 fun t62_76=>
 ldc (nxc k57 3) [] ((AA t62_76)*1) fun t63_77=>
 prP (bnI .neq t63_77 (.int .i64 0)) fun t64_78=>
 AX t64_78 (
 ixW (cnt 1 (nxc k57 1)) (nx x56 2) fun t69_79=>
 ldc (nxc k57 1) [] ((AA t69_79)*1) fun t70_80=>
 ixW (cnt 1 (nxc k57 3)) t70_80 fun t71_81=>
 stc (nxc k57 3) [] ((AA t71_81)*1) (.int .i64 0) fun k82=>
 ixW (cnt 1 (nxc k57 1)) (nx x56 2) fun t75_83=>
 ldc (nxc k57 1) [] ((AA t75_83)*1) fun t76_84=>
 apW [T.c t76_84] true (AA (nx x56 0)) (cnt 1 [T.c t76_84]) 8 (
 j64 [(iv (cnt 1 ((GM (nxc k57 0) [] (AA (nx x56 1)) ((AA (nx x56 0))*1))++[T.c t76_84]))),(iv 0),(nx x56 2)] [((GM (nxc k57 0) [] (AA (nx x56 1)) ((AA (nx x56 0))*1))++[T.c t76_84]),(nxc k57 1),k73,k82])) (
 j64 [(iv (AA (nx x56 0))),(iv (AA (nx x56 1))),(nx x56 2)] [(nxc k57 0),(nxc k57 1),k73,(nxc k57 3)])) (
 r5 [(iv (AA (nx x56 0))),(iv (AA (nx x56 1)))] [(nxc k57 0),(nxc k57 2),(nxc k57 3)])) [(iv (AA m53)),(iv ((AA (nx x3 1))+((AA l52)*1))),(.int .i64 0)] [(nxc k4 0),(nxc d55 0),(nxc k4 1),(nxc k4 2)]) (
 K [] [(nxc k4 1),(nxc k4 2)])) [(iv (cnt 1 [T.c a0])),(iv 0)] [[T.c a0],c4,k2]
theorem F6.cl2 {w0:World} {a0:Value} {c0 c1 c2 c3 c4 c5:List T} {K:J2} (h:F6.txt ⟨Try.prog,w0⟩ a0 c0 c1 c2 c3 c4 c5 K):Eng.cl2 ⟨Try.prog,w0⟩ 171 F6.sg [a0] [c0,c1,c2,c3,c4,c5] K:=
 AU (C:=⟨Try.prog,w0⟩) (f:=171) (fn:=Try.f171) [(170,D5.sg)] [(10,[0,1,0,0,12,28,0,64,0,0,768,1792,4032,8128,16320,32767,65535]),(11,[0,1,0,0,12,28,63,127,255]),(12,[0,1,0,0,12,28,63,127])] [(61817,⟨[.p (.j 0) 0, .p (.j 1) 0, .p (.j 2) 0, .s (.j 3) 0 1, .t (.j 4) 1, .v],[],[.bx [.t (.f 0) 8, .t (.f 1) 2, .t (.f 2) 1, .t (.f 3) 1], .bx [.t (.j 5) 1, .t (.j 6) 1], .bx [.z, .z], .ls, .ls, .ls, .ls]⟩),(15454,⟨[.p (.j 0) 0, .p (.j 1) 0, .p (.j 2) 0, .s (.j 3) 0 1, .t (.j 4) 1, .v],[],[.bx [.t (.f 0) 8, .t (.f 1) 2, .t (.f 2) 1, .t (.f 3) 1], .bx [.t (.j 5) 1, .t (.j 6) 1], .bx [.z, .z], .ls, .ls, .ls, .ls]⟩),(60,⟨[.p (.j 0) 0, .p (.j 1) 0, .p (.j 2) 0, .s (.j 3) 0 1],[],[.bx [.t (.f 0) 8, .t (.f 1) 2, .t (.f 2) 1, .t (.f 3) 1], .bx [.t (.j 4) 1, .t (.j 5) 1], .bx [.z, .z], .ls, .ls, .ls]⟩)] Try.func171 (by kernel_rfl) (by kernel_rfl) (by kernel_rfl) h
def FD.sg:Sg:=⟨[(1,[.t 8 0, .t 2 0, .t 1 0, .t 1 0]),(1,[.t 1 0, .t 1 0]),(0,[.v])],[(1,[.t 1, .t 1])],[]⟩
def FD.txt (C:Ctx) (a0:Value) (c0 c1 c2 c3 c4 c5:List T) (K:J2):Prop:=
 cl2 C 168 FL.sg [] [c4,c5] fun v1 d2=>
 cl2 C 169 HC.sg [a0] [c0,c1,c2,c3,c4,c5] fun v3 d4=>
 prP (un .not (nx v3 0)) fun t16_6=>
 AX t16_6 (
 K [] [(nxc d2 0),(nxc d2 1)]) (
 BN (fun r9 x7 k8=>
 prP (bnI .gtr (iv (AA (nx x7 0))) (.int .i64 0)) fun t22_31=>
 AX t22_31 (
 prP (bnI .sub (iv (AA (nx x7 0))) (.int .i64 1)) fun t26_32=>
 ixW (AA (nx x7 0)) t26_32 fun t27_33=>
 ldc (nxc k8 0) [] ((AA (nx x7 1))+((AA t27_33)*1)) fun t28_34=>
 prP (bnI .sub (iv (AA (nx x7 0))) (.int .i64 1)) fun t32_35=>
 scW (AA (nx x7 0)) none (some t32_35) fun l36 m37=>
 ixW (cnt 1 (nxc k8 2)) t28_34 fun t37_38=>
 ldc (nxc k8 2) [] ((AA t37_38)*1) fun t38_39=>
 prP (bnI .neq t38_39 (.int .i64 1)) fun t39_40=>
 AX t39_40 (
 r9 [(iv (AA m37)),(iv ((AA (nx x7 1))+((AA l36)*1)))] [(nxc k8 0),(nxc k8 1),(nxc k8 2)]) (
 ixW (cnt 1 (nxc k8 1)) t28_34 fun t43_41=>
 ldc (nxc k8 1) [] ((AA t43_41)*1) fun t44_42=>
 prP (bnI .gtr t44_42 (.int .i64 0)) fun t45_43=>
 AX t45_43 (
 cl2 C 171 F6.sg [t28_34] [c0,c1,c2,c3,(nxc k8 1),(nxc k8 2)] fun v44 d45=>
 r9 [(iv (AA m37)),(iv ((AA (nx x7 1))+((AA l36)*1)))] [(nxc k8 0),(nxc d45 0),(nxc d45 1)]) (
 ixW (cnt 1 (nxc k8 2)) t28_34 fun t53_46=>
 stc (nxc k8 2) [] ((AA t53_46)*1) (.int .i64 2) fun k47=>
 cl2 C 170 D5.sg [t28_34] [c0,c1,c2,c3] fun v48 d49=>
 apW (nxc d49 0) true (AA m37) (cnt 1 (nxc d49 0)) 8 (
 r9 [(iv (cnt 1 ((GM (nxc k8 0) [] ((AA (nx x7 1))+((AA l36)*1)) ((AA m37)*1))++(nxc d49 0)))),(iv 0)] [((GM (nxc k8 0) [] ((AA (nx x7 1))+((AA l36)*1)) ((AA m37)*1))++(nxc d49 0)),(nxc k8 1),k47])))) (
 K [] [(nxc k8 1),(nxc k8 2)])) [(iv (cnt 1 [T.c a0])),(iv 0)] [[T.c a0],(nxc d2 0),(nxc d2 1)])
theorem FD.cl2 {w0:World} {a0:Value} {c0 c1 c2 c3 c4 c5:List T} {K:J2} (h:FD.txt ⟨Try.prog,w0⟩ a0 c0 c1 c2 c3 c4 c5 K):Eng.cl2 ⟨Try.prog,w0⟩ 157 FD.sg [a0] [c0,c1,c2,c3,c4,c5] K:=
 AU (C:=⟨Try.prog,w0⟩) (f:=157) (fn:=Try.f157) [(168,FL.sg),(169,HC.sg),(171,F6.sg),(170,D5.sg)] [] [(124,⟨[.p (.j 0) 0, .p (.j 1) 0, .p (.j 2) 0, .s (.j 3) 0 1],[],[.bx [.t (.f 0) 8, .t (.f 1) 2, .t (.f 2) 1, .t (.f 3) 1], .bx [.z, .z], .bx [.t (.j 4) 1, .t (.j 5) 1], .ls, .ls, .ls]⟩)] Try.func157 (by kernel_rfl) (by kernel_rfl) (by kernel_rfl) h
def GX.sg:Sg:=⟨[(1,[.t 1 0, .t 1 0])],[(0,[.t 1])],[]⟩
def GX.txt (C:Ctx) (c0 c1:List T) (K:J2):Prop:=
 BN (fun r3 x1 k2=>
 prP (bnI .lss (nx x1 0) (iv (cnt 1 c1))) fun t10_5=>
 AX t10_5 (
 BV (fun x7 k8=>
 prP (bnI .add (nx x7 0) (.int .i64 1)) fun t12_13=>
 r3 [t12_13] [(nxc k8 0)]) fun j9=>
 ixW (cnt 1 c1) (nx x1 0) fun t16_10=>
 ldc c1 [] ((AA t16_10)*1) fun t17_11=>
 prP (bnI .eql t17_11 (.int .i64 2)) fun t18_12=>
 AX t18_12 (
 apW [T.c (nx x1 0)] true (cnt 1 (nxc k2 0)) (cnt 1 [T.c (nx x1 0)]) 8 (
 j9 [(nx x1 0)] [((nxc k2 0)++[T.c (nx x1 0)])])) (
 j9 [(nx x1 0)] [(nxc k2 0)])) (
 K [] [(nxc k2 0)])) [(.int .i64 0)] [[]]
theorem GX.cl2 {w0:World} {c0 c1:List T} {K:J2} (h:GX.txt ⟨Try.prog,w0⟩ c0 c1 K):Eng.cl2 ⟨Try.prog,w0⟩ 158 GX.sg [] [c0,c1] K:=
 AU (C:=⟨Try.prog,w0⟩) (f:=158) (fn:=Try.f158) [] [] [(233,⟨[.p (.j 0) 0, .t (.j 1) 1, .v],[],[.bx [.t (.f 0) 1, .t (.f 1) 1], .ls]⟩),(58,⟨[.p (.j 0) 0, .t (.j 1) 1, .v],[],[.bx [.t (.f 0) 1, .t (.f 1) 1], .ls]⟩)] Try.func158 (by kernel_rfl) (by kernel_rfl) (by kernel_rfl) h
def GA.sg:Sg:=⟨[(1,[.t 8 0, .t 2 0, .t 1 0, .t 1 0])],[(1,[.t 8, .t 2, .t 1, .t 1]),(0,[.t 1])],[]⟩
def GA.txt (C:Ctx) (c0 c1 c2 c3:List T) (K:J2):Prop:=
 cl2 C 122 C8.sg [] [c0,c1,c2,c3] fun v1 d2=>
 prP (bnI .neq (iv (cnt 8 c0)) (.int .i64 8)) fun t18_3=>
 AX t18_3 (
 K [] [(nxc d2 0),(nxc d2 1),(nxc d2 2),(nxc d2 3),[]]) (
 cl2 C 155 FH.sg [] [c0,c1,c2,c3] fun v4 d5=>
 BN (fun r8 x6 k7=>
 prP (bnI .lss (nx x6 0) (iv (cnt 1 c2))) fun t27_10=>
 AX t27_10 (
 ixW (cnt 1 c2) (nx x6 0) fun t36_11=>
 ldc c2 [] ((AA t36_11)*1) fun t37_12=>
 cl2 C 24 BX.sg [t37_12] [c0,c1,c2,c3] fun v13 d14=>
 cl2 C 156 E9.sg [(nx v13 0)] [c0,c1,c2,c3,(nxc k7 5),(nxc k7 6)] fun v16 d17=>
 prP (bnI .add (nx x6 0) (.int .i64 1)) fun t29_18=>
 r8 [t29_18] [(nxc k7 0),(nxc k7 1),(nxc k7 2),(nxc k7 3),(nxc k7 4),(nxc d17 0),(nxc d17 1)]) (
 BN (fun r21 x19 k20=>
 prP (bnI .lss (nx x19 0) (iv (cnt 1 c2))) fun t44_23=>
 AX t44_23 (
 ixW (cnt 1 c2) (nx x19 0) fun t53_24=>
 ldc c2 [] ((AA t53_24)*1) fun t54_25=>
 cl2 C 24 BX.sg [t54_25] [c0,c1,c2,c3] fun v26 d27=>
 cl2 C 157 FD.sg [(nx v26 0)] [c0,c1,c2,c3,(nxc k20 5),(nxc k20 6)] fun v29 d30=>
 prP (bnI .add (nx x19 0) (.int .i64 1)) fun t46_31=>
 r21 [t46_31] [(nxc k20 0),(nxc k20 1),(nxc k20 2),(nxc k20 3),(nxc k20 4),(nxc d30 0),(nxc d30 1)]) (
 cl2 C 158 GX.sg [] [(nxc k20 5),(nxc k20 6)] fun v32 d33=>
 BN (fun r36 x34 k35=>
 prP (bnI .lss (nx x34 0) (iv (cnt 8 (nxc k35 2)))) fun t63_38=>
 AX t63_38 (
 BV (fun x40 k41=>
 prP (bnI .add (nx x40 0) (.int .i64 1)) fun t65_59=>
 r36 [t65_59] [(nxc k41 0),(nxc k41 1),(nxc k41 2),(nxc k41 3),(nxc k41 4),(nxc k41 5)]) fun j42=>
 ixW (cnt 8 (nxc k35 2)) (nx x34 0) fun t69_43=>
 stc (nxc k35 2) [] (((AA t69_43)*8)+7) (.bool false) fun k44=>
 cl2 C 89 FV.sg [(nx x34 0)] [(nxc k35 1)] fun v45 d46=>
 AX (nx v45 0) (
 ixW (cnt 8 c0) (nx x34 0) fun t79_48=>
 ldc c0 [] (((AA t79_48)*8)+1) fun t81_49=>
 cl2 C 61 DI.sg [(nx x34 0),t81_49] [] fun v50 d51=>
 apW [T.c (nx v50 0)] true (cnt 1 (nxc k35 0)) (cnt 1 [T.c (nx v50 0)]) 8 (
 ixW (cnt 8 c0) (nx x34 0) fun t91_53=>
 ldc c0 [] (((AA t91_53)*8)+1) fun t93_54=>
 cl2 C 121 DA.sg [] [] fun v55 d56=>
 ixW (cnt 8 k44) (nx x34 0) fun t96_57=>
 stg k44 [] ((AA t96_57)*8) [T.c (.bool false),T.c t93_54,T.c (.int .i64 0),T.c (.int .i64 0),T.c (.int .i64 0),T.c (.int .i64 0),T.l 1 (nxc d56 0),T.c (.bool false)] fun k58=>
 j42 [(nx x34 0)] [((nxc k35 0)++[T.c (nx v50 0)]),(nxc k35 1),k58,(nxc k35 3),(nxc k35 4),(nxc k35 5)])) (
 j42 [(nx x34 0)] [(nxc k35 0),(nxc k35 1),k44,(nxc k35 3),(nxc k35 4),(nxc k35 5)])) (
 BN (fun r62 x60 k61=>
 prP (bnI .lss (nx x60 0) (iv (cnt 8 (nxc k61 1)))) fun t101_64=>
 AX t101_64 (
 BV (fun x66 k67=>
 prP (bnI .add (nx x66 0) (.int .i64 1)) fun t103_82=>
 r62 [t103_82] [(nxc k67 0),(nxc k67 1),(nxc k67 2),(nxc k67 3),(nxc k67 4)]) fun j68=>
 ixW (cnt 8 (nxc k61 1)) (nx x60 0) fun t107_69=>
 ldc (nxc k61 1) [] ((AA t107_69)*8) fun t109_70=>
 AX t109_70 (
 ixW (cnt 8 (nxc k61 1)) (nx x60 0) fun t116_71=>
 ldc (nxc k61 1) [] (((AA t116_71)*8)+3) fun t118_72=>
 ixW (cnt 8 (nxc k61 1)) (nx x60 0) fun t122_73=>
 ldc (nxc k61 1) [] (((AA t122_73)*8)+4) fun t124_74=>
 prP (bnI .add t118_72 t124_74) fun t125_75=>
 cl2 C 88 EC.sg [(nx x60 0)] [(nxc k61 1),(nxc k61 2),(nxc k61 3),(nxc k61 4)] fun v76 d77=>
 prP (bnI .add t125_75 (nx v76 0)) fun t129_79=>
 ixW (cnt 8 (nxc k61 1)) (nx x60 0) fun t130_80=>
 stc (nxc k61 1) [] (((AA t130_80)*8)+5) t129_79 fun k81=>
 j68 [(nx x60 0)] [(nxc k61 0),k81,(nxc k61 2),(nxc k61 3),(nxc k61 4)]) (
 j68 [(nx x60 0)] [(nxc k61 0),(nxc k61 1),(nxc k61 2),(nxc k61 3),(nxc k61 4)])) (
 K [] [(nxc k61 1),(nxc k61 2),[],(nxc k61 4),(nxc k61 0)])) [(.int .i64 0)] [(nxc k35 0),(nxc k35 2),(nxc k35 3),(nxc k35 4),(nxc k35 5)])) [(.int .i64 0)] [(nxc k20 0),(nxc d33 0),(nxc k20 1),(nxc k20 2),(nxc k20 3),(nxc k20 4)])) [(.int .i64 0)] [(nxc k7 0),(nxc k7 1),(nxc k7 2),(nxc k7 3),(nxc k7 4),(nxc k7 5),(nxc k7 6)])) [(.int .i64 0)] [[],(nxc d2 0),(nxc d2 1),(nxc d2 2),(nxc d2 3),(nxc d5 0),(nxc d5 1)])
theorem GA.cl2 {w0:World} {c0 c1 c2 c3:List T} {K:J2} (h:GA.txt ⟨Try.prog,w0⟩ c0 c1 c2 c3 K):Eng.cl2 ⟨Try.prog,w0⟩ 127 GA.sg [] [c0,c1,c2,c3] K:=
 AU (C:=⟨Try.prog,w0⟩) (f:=127) (fn:=Try.f127) [(122,C8.sg),(155,FH.sg),(24,BX.sg),(156,E9.sg),(157,FD.sg),(158,GX.sg),(89,FV.sg),(61,DI.sg),(121,DA.sg),(88,EC.sg)] [(9,[0,0,0,0,8,0,56,120,252,511,1023]),(13,[0,0,0,0,8,0,56,120,252,511,1023]),(21,[0,1,0,0,8,0,56,120,248,0,1016,2047,4095]),(26,[0,1,0,0,8,0,56,120,248,0,512,0,3584,7680,15872,32760,0,0,196608,524280,1048575,2097151,4194303])] [(16361,⟨[.p (.j 0) 0, .p (.j 1) 0, .p (.j 2) 0, .t (.j 3) 1, .t (.j 4) 1, .v],[],[.bx [.t (.f 0) 8, .t (.f 1) 2, .t (.f 2) 1, .t (.f 3) 1], .bx [.z, .z, .z, .z], .bx [.t (.j 5) 8, .t (.j 6) 2, .t (.j 7) 1, .t (.j 8) 1], .ls, .ls, .ls, .ls, .ls, .ls]⟩),(32745,⟨[.p (.j 0) 0, .p (.j 1) 0, .t (.j 2) 1, .v],[],[.bx [.z, .z, .z, .z], .bx [.t (.j 3) 8, .t (.j 4) 2, .t (.j 5) 1, .t (.j 6) 1], .ls, .ls, .ls, .ls, .ls]⟩),(8186,⟨[.p (.j 0) 0, .p (.j 1) 0, .t (.j 2) 1, .v],[],[.bx [.z, .z, .z, .z], .bx [.t (.j 3) 8, .t (.j 4) 2, .t (.j 5) 1, .t (.j 6) 1], .ls, .ls, .ls, .ls, .ls]⟩),(4090,⟨[.p (.j 0) 0, .p (.j 1) 0, .p (.j 2) 0, .t (.j 3) 1, .t (.j 4) 1, .v],[],[.bx [.t (.f 0) 8, .t (.f 1) 2, .t (.f 2) 1, .t (.f 3) 1], .bx [.z, .z, .z, .z], .bx [.t (.j 5) 8, .t (.j 6) 2, .t (.j 7) 1, .t (.j 8) 1], .ls, .ls, .ls, .ls, .ls, .ls]⟩),(1018,⟨[.p (.j 0) 0, .p (.j 1) 0, .p (.j 2) 0, .t (.j 3) 1, .p (.j 4) 0, .v],[],[.bx [.t (.f 0) 8, .t (.f 1) 2, .t (.f 2) 1, .t (.f 3) 1], .bx [.z, .z, .z, .z], .bx [.t (.j 5) 8, .t (.j 6) 2, .t (.j 7) 1, .t (.j 8) 1], .ls, .bx [.t (.j 9) 1, .t (.j 10) 1], .ls, .ls, .ls, .ls, .ls, .ls]⟩),(506,⟨[.p (.j 0) 0, .p (.j 1) 0, .p (.j 2) 0, .t (.j 3) 1, .p (.j 4) 0, .v],[],[.bx [.t (.f 0) 8, .t (.f 1) 2, .t (.f 2) 1, .t (.f 3) 1], .bx [.z, .z, .z, .z], .bx [.t (.j 5) 8, .t (.j 6) 2, .t (.j 7) 1, .t (.j 8) 1], .ls, .bx [.t (.j 9) 1, .t (.j 10) 1], .ls, .ls, .ls, .ls, .ls, .ls]⟩)] Try.func127 (by kernel_rfl) (by kernel_rfl) (by kernel_rfl) h
def EU.sg:Sg:=⟨[(1,[.t 8 0, .t 2 0, .t 1 0, .t 1 0]),(1,[.v, .v, .v, .v, .v])],[(1,[.t 8, .t 2, .t 1, .t 1]),(1,[.v, .v, .t 1])],[]⟩
def EU.txt (C:Ctx) (a0 a1 a2 a3 a4:Value) (c0 c1 c2 c3:List T) (K:J2):Prop:=
 cl2 C 122 C8.sg [] [c0,c1,c2,c3] fun v1 d2=>
 cl2 C 19 FQ.sg [] [c0,c1,c2,c3] fun v3 d4=>
 prP (un .not (nx v3 0)) fun t13_6=>
 AX t13_6 (
 K [(.int .i64 2),(.int .i64 0)] [(nxc d2 0),(nxc d2 1),(nxc d2 2),(nxc d2 3),[]]) (
 prP (bnI .eql a0 (.int .i64 1)) fun t19_7=>
 AX t19_7 (
 cl2 C 123 F4.sg [a0,a1,a2,a3,a4] [(nxc d2 0),(nxc d2 1),(nxc d2 2),(nxc d2 3)] fun v8 d9=>
 K [(nx v8 0),(nx v8 1)] [(nxc d9 0),(nxc d2 1),(nxc d2 2),(nxc d9 1),(nxc d9 2)]) (
 BV (fun x11 k12=>
 AX (nx x11 1) (
 cl2 C 124 G7.sg [(nx x11 2),(nx x11 3),(nx x11 4),(nx x11 5),(nx x11 6)] [(nxc k12 0),(nxc k12 1),(nxc k12 2),(nxc k12 3)] fun v18 d19=>
 K [(nx v18 0),(nx v18 1)] [(nxc d19 0),(nxc d19 1),(nxc d19 2),(nxc d19 3),(nxc d19 4)]) (
 prP (bnI .eql (nx x11 0) (.int .i64 4)) fun t36_20=>
 AX t36_20 (
 cl2 C 125 FZ.sg [(nx x11 2),(nx x11 3),(nx x11 4),(nx x11 5),(nx x11 6)] [(nxc k12 0),(nxc k12 1),(nxc k12 2),(nxc k12 3)] fun v21 d22=>
 K [(nx v21 0),(nx v21 1)] [(nxc d22 0),(nxc d22 1),(nxc d22 2),(nxc d22 3),(nxc d22 4)]) (
 BV (fun x24 k25=>
 AX (nx x24 1) (
 cl2 C 126 GW.sg [(nx x24 2),(nx x24 3),(nx x24 4),(nx x24 5),(nx x24 6)] [(nxc k25 0),(nxc k25 1),(nxc k25 2),(nxc k25 3)] fun v30 d31=>
 K [(nx v30 0),(nx v30 1)] [(nxc k25 0),(nxc d31 0),(nxc k25 2),(nxc k25 3),(nxc d31 1)]) (
 prP (bnI .eql (nx x24 0) (.int .i64 10)) fun t52_32=>
 AX t52_32 (
 cl2 C 127 GA.sg [] [(nxc k25 0),(nxc k25 1),(nxc k25 2),(nxc k25 3)] fun v33 d34=>
 K [(.int .i64 0),(.int .i64 0)] [(nxc d34 0),(nxc d34 1),(nxc d34 2),(nxc d34 3),(nxc d34 4)]) (
 K [(.int .i64 2),(.int .i64 0)] [(nxc k25 0),(nxc k25 1),(nxc k25 2),(nxc k25 3),[]]))) fun j26=>
 prP (bnI .eql (nx x11 0) (.int .i64 7)) fun t43_27=>
 AX t43_27 (
 j26 [(nx x11 0),t43_27,(nx x11 2),(nx x11 3),(nx x11 4),(nx x11 5),(nx x11 6),(nx x11 7),(nx x11 8)] [(nxc k12 0),(nxc k12 1),(nxc k12 2),(nxc k12 3)]) (
 prP (bnI .eql (nx x11 0) (.int .i64 8)) fun t44_28=>
 AX t44_28 (
 j26 [(nx x11 0),t44_28,(nx x11 2),(nx x11 3),(nx x11 4),(nx x11 5),(nx x11 6),(nx x11 7),(nx x11 8)] [(nxc k12 0),(nxc k12 1),(nxc k12 2),(nxc k12 3)]) (
 prP (bnI .eql (nx x11 0) (.int .i64 9)) fun t45_29=>
 j26 [(nx x11 0),t45_29,(nx x11 2),(nx x11 3),(nx x11 4),(nx x11 5),(nx x11 6),(nx x11 7),(nx x11 8)] [(nxc k12 0),(nxc k12 1),(nxc k12 2),(nxc k12 3)]))))) fun j13=>
 prP (bnI .eql a0 (.int .i64 2)) fun t26_14=>
 AX t26_14 (
 j13 [a0,t26_14,a0,a1,a2,a3,a4,(.int .i64 0),(.int .i64 0)] [(nxc d2 0),(nxc d2 1),(nxc d2 2),(nxc d2 3)]) (
 prP (bnI .eql a0 (.int .i64 3)) fun t27_15=>
 AX t27_15 (
 j13 [a0,t27_15,a0,a1,a2,a3,a4,(.int .i64 0),(.int .i64 0)] [(nxc d2 0),(nxc d2 1),(nxc d2 2),(nxc d2 3)]) (
 prP (bnI .eql a0 (.int .i64 5)) fun t28_16=>
 AX t28_16 (
 j13 [a0,t28_16,a0,a1,a2,a3,a4,(.int .i64 0),(.int .i64 0)] [(nxc d2 0),(nxc d2 1),(nxc d2 2),(nxc d2 3)]) (
 prP (bnI .eql a0 (.int .i64 6)) fun t29_17=>
 j13 [a0,t29_17,a0,a1,a2,a3,a4,(.int .i64 0),(.int .i64 0)] [(nxc d2 0),(nxc d2 1),(nxc d2 2),(nxc d2 3)])))))
theorem EU.cl2 {w0:World} {a0 a1 a2 a3 a4:Value} {c0 c1 c2 c3:List T} {K:J2} (h:EU.txt ⟨Try.prog,w0⟩ a0 a1 a2 a3 a4 c0 c1 c2 c3 K):Eng.cl2 ⟨Try.prog,w0⟩ 76 EU.sg [a0,a1,a2,a3,a4] [c0,c1,c2,c3] K:=
 AU (C:=⟨Try.prog,w0⟩) (f:=76) (fn:=Try.f76) [(122,C8.sg),(19,FQ.sg),(123,F4.sg),(124,G7.sg),(125,FZ.sg),(126,GW.sg),(127,GA.sg)] [] [(491,⟨[.p (.j 0) 0, .p (.j 1) 0, .p (.j 2) 0, .p (.j 3) 0, .v, .v],[],[.bx [.v, .v, .v, .v, .v], .bx [.z, .z, .z, .z], .bx [.v, .v, .z], .bx [.t (.j 4) 8, .t (.j 5) 2, .t (.j 6) 1, .t (.j 7) 1], .ls, .ls, .ls, .ls]⟩),(7871,⟨[.p (.j 0) 0, .p (.j 1) 0, .p (.j 2) 0, .p (.j 3) 0, .v, .v],[],[.bx [.v, .v, .v, .v, .v], .bx [.z, .z, .z, .z], .bx [.v, .v, .z], .bx [.t (.j 4) 8, .t (.j 5) 2, .t (.j 6) 1, .t (.j 7) 1], .ls, .ls, .ls, .ls]⟩)] Try.func76 (by kernel_rfl) (by kernel_rfl) (by kernel_rfl) h
def HL.sg:Sg:=⟨[(2,[.t 1 0, .v, .v]),(0,[.v])],[(0,[.t 5])],[[.a 0, .v, .v]]⟩
def HL.txt (C:Ctx) (a0 a1 a2:Value) (c0:List T) (K:J2):Prop:=
 cl2 C 74 EE.sg [] [] fun v1 d2=>
 prP (bnI .add a2 (.int .i64 1)) fun t15_3=>
 cl2 C 112 BT.sg [a0,a1,t15_3] [c0] fun v4 d5=>
 BN (fun r8 x6 k7=>
 prP (bnI .gtr (nx x6 0) (.int .i64 0)) fun t18_10=>
 AX t18_10 (
 cl2 C 128 HE.sg [(nx x6 1),(nx x6 2)] [c0,(nxc k7 1),(nxc k7 2),(nxc k7 3),(nxc k7 4)] fun v11 d12=>
 cl2 C 76 EU.sg [(nx v11 0),(nx v11 1),(nx v11 2),(nx v11 3),(nx v11 4)] [(nxc k7 1),(nxc k7 2),(nxc k7 3),(nxc k7 4)] fun v13 d14=>
 apW [T.c (nx v11 0),T.c (nx v11 1),T.c (nx v11 2),T.c (nx v11 3),T.c (nx v11 4)] true (cnt 5 (nxc k7 0)) (cnt 5 [T.c (nx v11 0),T.c (nx v11 1),T.c (nx v11 2),T.c (nx v11 3),T.c (nx v11 4)]) 48 (
 prP (bnI .sub (nx x6 0) (.int .i64 1)) fun t20_15=>
 r8 [t20_15,(nx v11 5),(nx v11 6)] [((nxc k7 0)++[T.c (nx v11 0),T.c (nx v11 1),T.c (nx v11 2),T.c (nx v11 3),T.c (nx v11 4)]),(nxc d14 0),(nxc d14 1),(nxc d14 2),(nxc d14 3)])) (
 K [(nx x6 1),(nx x6 2)] [(nxc k7 0)])) [(nx v4 0),(nx v4 1),(nx v4 2)] [[],(nxc d2 0),(nxc d2 1),(nxc d2 2),(nxc d2 3)]
theorem HL.cl2 {w0:World} {a0 a1 a2:Value} {c0:List T} {K:J2} (h:HL.txt ⟨Try.prog,w0⟩ a0 a1 a2 c0 K):Eng.cl2 ⟨Try.prog,w0⟩ 108 HL.sg [a0,a1,a2] [c0] K:=
 AU (C:=⟨Try.prog,w0⟩) (f:=108) (fn:=Try.f108) [(74,EE.sg),(112,BT.sg),(128,HE.sg),(76,EU.sg)] [] [(122,⟨[.p (.j 0) 0, .p (.j 1) 0, .t (.j 2) 5, .v],[.p (.j 0) 0, .t (.f 0) 1],[.bx [.t (.f 0) 1, .v, .v], .bx [.t (.j 3) 8, .t (.j 4) 2, .t (.j 5) 1, .t (.j 6) 1], .ls, .ls, .ls, .ls, .ls]⟩)] Try.func108 (by kernel_rfl) (by kernel_rfl) (by kernel_rfl) h
def H2.sg:Sg:=⟨[(0,[.v])],[(1,[.v, .v, .v, .v, .v, .v, .t 1, .v])],[]⟩
def H2.txt (C:Ctx) (a0:Value) (K:J2):Prop:=
 K [(.bool false),a0,(.int .i64 0),(.int .i64 0),(.int .i64 0),(.int .i64 0),(.bool false)] [[T.c (.int .i64 (-1)),T.c (.int .i64 (-1)),T.c (.int .i64 (-1))]]
theorem H2.cl2 {w0:World} {a0:Value} {K:J2} (h:H2.txt ⟨Try.prog,w0⟩ a0 K):Eng.cl2 ⟨Try.prog,w0⟩ 99 H2.sg [a0] [] K:=
 AU (C:=⟨Try.prog,w0⟩) (f:=99) (fn:=Try.f99) [] [] [] Try.func99 (by kernel_rfl) (by kernel_rfl) (by kernel_rfl) h
def FF.sg:Sg:=⟨[(1,[.t 8 0, .t 2 0, .t 1 0, .t 1 0])],[(0,[.v])],[]⟩
def FF.txt (C:Ctx) (c0 c1 c2 c3:List T) (K:J2):Prop:=
 BN (fun r3 x1 k2=>
 prP (bnI .lss (nx x1 1) (nx x1 0)) fun t9_5=>
 AX t9_5 (
 ixW (cnt 8 c0) (nx x1 1) fun t11_6=>
 ldg c0 [] ((AA t11_6)*8) [.c, .c, .c, .c, .c, .c, .l 1, .c] fun ts7=>
 prP (bnI .lss (nx x1 1) (.int .i64 8)) fun t14_8=>
 gE t14_8 (
 gE t14_8 (
 gP t14_8 true (prP (un .not (tv (nxT ts7 0)))) fun t18_9=>
 prP (pk t14_8 t18_9 (.bool false)) fun t19_10=>
 gE t19_10 (
 gE t19_10 (
 gP t19_10 true (prP (bnI .lss (tv (nxT ts7 1)) (.int .i64 999))) fun t23_11=>
 prP (pk t19_10 t23_11 (.bool false)) fun t24_12=>
 AX t24_12 (
 K [(nx x1 1)] []) (
 prP (bnI .add (nx x1 1) (.int .i64 1)) fun t26_13=>
 r3 [(nx x1 0),t26_13] [])))))) (
 K [(.int .i64 (-1))] [])) [(iv (cnt 8 c0)),(.int .i64 0)] []
theorem FF.cl2 {w0:World} {c0 c1 c2 c3:List T} {K:J2} (h:FF.txt ⟨Try.prog,w0⟩ c0 c1 c2 c3 K):Eng.cl2 ⟨Try.prog,w0⟩ 75 FF.sg [] [c0,c1,c2,c3] K:=
 AU (C:=⟨Try.prog,w0⟩) (f:=75) (fn:=Try.f75) [] [] [(26,⟨[.t (.f 0) 8, .v, .v],[],[]⟩)] Try.func75 (by kernel_rfl) (by kernel_rfl) (by kernel_rfl) h
def FN.sg:Sg:=⟨[(0,[.t 1 0]),(0,[.v])],[(0,[.v])],[]⟩
def FN.txt (C:Ctx) (a0:Value) (c0:List T) (K:J2):Prop:=
 BN (fun r3 x1 k2=>
 prP (bnI .lss (nx x1 2) (nx x1 1)) fun t10_5=>
 AX t10_5 (
 ixW (cnt 1 c0) (nx x1 2) fun t12_6=>
 ldc c0 [] ((AA t12_6)*1) fun t13_7=>
 prP (bnS .eql t13_7 (nx x1 0)) fun t16_8=>
 AX t16_8 (
 K [(nx x1 2)] []) (
 prP (bnI .add (nx x1 2) (.int .i64 1)) fun t18_9=>
 r3 [(nx x1 0),(nx x1 1),t18_9] [])) (
 K [(.int .i64 (-1))] [])) [a0,(iv (cnt 1 c0)),(.int .i64 0)] []
theorem FN.cl2 {w0:World} {a0:Value} {c0:List T} {K:J2} (h:FN.txt ⟨Try.prog,w0⟩ a0 c0 K):Eng.cl2 ⟨Try.prog,w0⟩ 162 FN.sg [a0] [c0] K:=
 AU (C:=⟨Try.prog,w0⟩) (f:=162) (fn:=Try.f162) [] [] [(26,⟨[.v, .t (.f 0) 1, .v, .v],[],[]⟩)] Try.func162 (by kernel_rfl) (by kernel_rfl) (by kernel_rfl) h
def C4.sg:Sg:=⟨[(0,[.v]),(0,[.v]),(0,[.v])],[(0,[.v])],[]⟩
def C4.txt (C:Ctx) (a0 a1 a2:Value) (K:J2):Prop:=
 prP (bnI .geq a0 a1) fun t9_1=>
 gE t9_1 (
 gE t9_1 (
 gP t9_1 true (prP (bnI .leq a0 a2)) fun t13_2=>
 prP (pk t9_1 t13_2 (.bool false)) fun t14_3=>
 K [t14_3] []))
theorem C4.cl2 {w0:World} {a0 a1 a2:Value} {K:J2} (h:C4.txt ⟨Try.prog,w0⟩ a0 a1 a2 K):Eng.cl2 ⟨Try.prog,w0⟩ 131 C4.sg [a0,a1,a2] [] K:=
 AU (C:=⟨Try.prog,w0⟩) (f:=131) (fn:=Try.f131) [] [] [] Try.func131 (by kernel_rfl) (by kernel_rfl) (by kernel_rfl) h
def BY.sg:Sg:=⟨[(0,[.v])],[(1,[.v, .v, .t 1])],[]⟩
def BY.txt (C:Ctx) (a0:Value) (K:J2):Prop:=
 K [a0,(.int .i64 0)] [[]]
theorem BY.cl2 {w0:World} {a0:Value} {K:J2} (h:BY.txt ⟨Try.prog,w0⟩ a0 K):Eng.cl2 ⟨Try.prog,w0⟩ 107 BY.sg [a0] [] K:=
 AU (C:=⟨Try.prog,w0⟩) (f:=107) (fn:=Try.f107) [] [] [] Try.func107 (by kernel_rfl) (by kernel_rfl) (by kernel_rfl) h
def DY.sg:Sg:=⟨[(0,[.v]),(0,[.v])],[(0,[.v])],[]⟩
def DY.txt (C:Ctx) (a0 a1:Value) (K:J2):Prop:=
 cl2 C 131 C4.sg [a0,(.int .i64 0),(.int .i64 7)] [] fun v1 d2=>
 prP (un .not (nx v1 0)) fun t7_4=>
 gE t7_4 (
 gP t7_4 false ((fun K=>cl2 C 131 C4.sg [a1,(.int .i64 1),(.int .i64 999)] [] fun v5 d6=>K (nx v5 0))) fun t10_7=>
 gP t7_4 false (prP (un .not t10_7)) fun t11_8=>
 prP (pk t7_4 (.bool true) t11_8) fun t12_9=>
 AX t12_9 (
 K [(.int .i64 (-1))] []) (
 prP (bnI .mul (.int .i64 8) a1) fun t15_10=>
 prP (bnI .add a0 t15_10) fun t16_11=>
 K [t16_11] []))
theorem DY.cl2 {w0:World} {a0 a1:Value} {K:J2} (h:DY.txt ⟨Try.prog,w0⟩ a0 a1 K):Eng.cl2 ⟨Try.prog,w0⟩ 98 DY.sg [a0,a1] [] K:=
 AU (C:=⟨Try.prog,w0⟩) (f:=98) (fn:=Try.f98) [(131,C4.sg)] [] [] Try.func98 (by kernel_rfl) (by kernel_rfl) (by kernel_rfl) h
def DU.sg:Sg:=⟨[(2,[.t 8 2, .t 2 0, .t 1 0, .t 1 2]),(0,[.v])],[(1,[.v, .v, .t 1])],[[.t 8, .a 1, .a 2, .t 1]]⟩
def DU.txt (C:Ctx) (a0:Value) (c0 c1 c2 c3:List T) (K:J2):Prop:=
 cl2 C 75 FF.sg [] [c0,c1,c2,c3] fun v1 d2=>
 cl2 C 162 FN.sg [a0] [c3] fun v4 d5=>
 BV (fun x8 k9=>
 ixW (cnt 8 (nxc k9 0)) (nx x8 0) fun t63_27=>
 ldc (nxc k9 0) [] (((AA t63_27)*8)+1) fun t65_28=>
 prP (bnI .add t65_28 (.int .i64 1)) fun t66_29=>
 ixW (cnt 8 (nxc k9 0)) (nx x8 0) fun t76_30=>
 stg (nxc k9 0) [] ((AA t76_30)*8) [T.c (.bool true),T.c t66_29,T.c (nx x8 1),T.c (.int .i64 1),T.c (.int .i64 0),T.c (.int .i64 1),T.l 1 [T.c (.int .i64 (-1)),T.c (.int .i64 (-1)),T.c (.int .i64 (-1))],T.c (.bool false)] fun k31=>
 cl2 C 98 DY.sg [(nx x8 0),t66_29] [] fun v32 d33=>
 K [(.int .i64 0),(nx v32 0)] [[],k31,(nxc k9 1)]) fun j10=>
 prP (lnS a0) fun t20_11=>
 cl2 C 131 C4.sg [t20_11,(.int .i64 1),(.int .i64 8)] [] fun v12 d13=>
 prP (un .not (nx v12 0)) fun t22_15=>
 AX t22_15 (
 cl2 C 107 BY.sg [(.int .i64 2)] [] fun v16 d17=>
 K [(nx v16 0),(nx v16 1)] [(nxc d17 0),c0,c3]) (
 prP (bnI .lss (nx v1 0) (.int .i64 0)) fun t26_18=>
 AX t26_18 (
 cl2 C 107 BY.sg [(.int .i64 3)] [] fun v19 d20=>
 K [(nx v19 0),(nx v19 1)] [(nxc d20 0),c0,c3]) (
 prP (bnI .lss (nx v4 0) (.int .i64 0)) fun t30_21=>
 gE t30_21 (
 gE t30_21 (
 gE t30_21 (
 gE t30_21 (
 gE t30_21 (
 gP t30_21 true (prP (bnI .geq (iv (cnt 1 c3)) (.int .i64 6))) fun t37_22=>
 prP (pk t30_21 t37_22 (.bool false)) fun t38_23=>
 AX t38_23 (
 cl2 C 107 BY.sg [(.int .i64 6)] [] fun v24 d25=>
 K [(nx v24 0),(nx v24 1)] [(nxc d25 0),c0,c3]) (
 prP (bnI .lss (nx v4 0) (.int .i64 0)) fun t42_26=>
 AX t42_26 (
 apW [T.c a0] true (cnt 1 c3) (cnt 1 [T.c a0]) 16 (
 j10 [(nx v1 0),(iv (cnt 1 c3)),(.int .i64 0),(.int .i64 0)] [c0,(c3++[T.c a0])])) (
 j10 [(nx v1 0),(nx v4 0),(.int .i64 0),(.int .i64 0)] [c0,c3])))))))))
theorem DU.cl2 {w0:World} {a0:Value} {c0 c1 c2 c3:List T} {K:J2} (h:DU.txt ⟨Try.prog,w0⟩ a0 c0 c1 c2 c3 K):Eng.cl2 ⟨Try.prog,w0⟩ 144 DU.sg [a0] [c0,c1,c2,c3] K:=
 AU (C:=⟨Try.prog,w0⟩) (f:=144) (fn:=Try.f144) [(75,FF.sg),(162,FN.sg),(131,C4.sg),(107,BY.sg),(98,DY.sg)] [] [(15,⟨[.p (.j 0) 0, .p (.j 1) 0, .v, .v],[.p (.j 0) 0, .w, .t (.f 0) 2, .t (.f 1) 1, .w],[.bx [.t (.j 2) 8, .t (.f 0) 2, .t (.f 1) 1, .t (.j 3) 1], .bx [.v, .v, .z], .ls, .ls]⟩)] Try.func144 (by kernel_rfl) (by kernel_rfl) (by kernel_rfl) h
def BS.sg:Sg:=⟨[(1,[.t 8 0, .t 2 0, .t 1 0, .t 1 0]),(0,[.v])],[(0,[.v])],[]⟩
def BS.txt (C:Ctx) (a0:Value) (c0 c1 c2 c3:List T) (K:J2):Prop:=
 prP (bnI .lss a0 (.int .i64 8)) fun t8_1=>
 gE t8_1 (
 gE t8_1 (
 gE t8_1 (
 gP t8_1 false (prP (bnI .neq (iv (cnt 8 c0)) (.int .i64 8))) fun t13_2=>
 prP (pk t8_1 (.bool true) t13_2) fun t14_3=>
 AX t14_3 (
 K [(.int .i64 (-1))] []) (
 prP (bnI .rem a0 (.int .i64 8)) fun t16_4=>
 ixW (cnt 8 c0) t16_4 fun t20_5=>
 ldg c0 [] ((AA t20_5)*8) [.c, .c, .c, .c, .c, .c, .l 1, .c] fun ts6=>
 prP (un .not (tv (nxT ts6 0))) fun t24_7=>
 gE t24_7 (
 gE t24_7 (
 gE t24_7 (
 gP t24_7 false (prP (bnI .quo a0 (.int .i64 8))) fun t29_8=>
 gP t24_7 false (prP (bnI .neq (tv (nxT ts6 1)) t29_8)) fun t30_9=>
 prP (pk t24_7 (.bool true) t30_9) fun t31_10=>
 AX t31_10 (
 K [(.int .i64 (-1))] []) (
 K [t16_4] []))))))))
theorem BS.cl2 {w0:World} {a0:Value} {c0 c1 c2 c3:List T} {K:J2} (h:BS.txt ⟨Try.prog,w0⟩ a0 c0 c1 c2 c3 K):Eng.cl2 ⟨Try.prog,w0⟩ 81 BS.sg [a0] [c0,c1,c2,c3] K:=
 AU (C:=⟨Try.prog,w0⟩) (f:=81) (fn:=Try.f81) [] [] [] Try.func81 (by kernel_rfl) (by kernel_rfl) (by kernel_rfl) h
def DE.sg:Sg:=⟨[(2,[.t 8 2, .t 2 0, .t 1 0, .t 1 0]),(0,[.v])],[],[[.t 8, .a 1, .a 2, .a 3]]⟩
def DE.txt (C:Ctx) (a0:Value) (c0 c1 c2 c3:List T) (K:J2):Prop:=
 cl2 C 81 BS.sg [a0] [c0,c1,c2,c3] fun v1 d2=>
 prP (bnI .geq (nx v1 0) (.int .i64 0)) fun t11_4=>
 AX t11_4 (
 ixW (cnt 8 c0) (nx v1 0) fun t17_5=>
 ldc c0 [] (((AA t17_5)*8)+5) fun t19_6=>
 prP (bnI .add t19_6 (.int .i64 1)) fun t20_7=>
 ixW (cnt 8 c0) (nx v1 0) fun t21_8=>
 stc c0 [] (((AA t21_8)*8)+5) t20_7 fun k9=>
 K [] [k9]) (
 K [] [c0])
theorem DE.cl2 {w0:World} {a0:Value} {c0 c1 c2 c3:List T} {K:J2} (h:DE.txt ⟨Try.prog,w0⟩ a0 c0 c1 c2 c3 K):Eng.cl2 ⟨Try.prog,w0⟩ 163 DE.sg [a0] [c0,c1,c2,c3] K:=
 AU (C:=⟨Try.prog,w0⟩) (f:=163) (fn:=Try.f163) [(81,BS.sg)] [] [] Try.func163 (by kernel_rfl) (by kernel_rfl) (by kernel_rfl) h
def CN.sg:Sg:=⟨[(0,[.t 1 0])],[(0,[.t 1])],[]⟩
def CN.txt (C:Ctx) (c0:List T) (K:J2):Prop:=
 apW c0 true 0 (cnt 1 c0) 8 (
 K [] [([]++c0)])
theorem CN.cl2 {w0:World} {c0:List T} {K:J2} (h:CN.txt ⟨Try.prog,w0⟩ c0 K):Eng.cl2 ⟨Try.prog,w0⟩ 141 CN.sg [] [c0] K:=
 AU (C:=⟨Try.prog,w0⟩) (f:=141) (fn:=Try.f141) [] [] [] Try.func141 (by kernel_rfl) (by kernel_rfl) (by kernel_rfl) h
def F7.sg:Sg:=⟨[(0,[.t 1 0]),(0,[.v])],[(0,[.t 1])],[]⟩
def F7.txt (C:Ctx) (a0:Value) (c0:List T) (K:J2):Prop:=
 BN (fun r3 x1 k2=>
 prP (bnI .lss (nx x1 2) (nx x1 1)) fun t11_15=>
 AX t11_15 (
 BV (fun x17 k18=>
 prP (bnI .add (nx x17 2) (.int .i64 1)) fun t21_23=>
 r3 [(nx x17 0),(nx x17 1),t21_23] [(nxc k18 0)]) fun j19=>
 ixW (cnt 1 c0) (nx x1 2) fun t12_20=>
 ldc c0 [] ((AA t12_20)*1) fun t13_21=>
 prP (bnI .neq t13_21 (nx x1 0)) fun t16_22=>
 AX t16_22 (
 apW [T.c t13_21] true (cnt 1 (nxc k2 0)) (cnt 1 [T.c t13_21]) 8 (
 j19 [(nx x1 0),(nx x1 1),(nx x1 2)] [((nxc k2 0)++[T.c t13_21])])) (
 j19 [(nx x1 0),(nx x1 1),(nx x1 2)] [(nxc k2 0)])) (
 K [] [(nxc k2 0)])) [a0,(iv (cnt 1 c0)),(.int .i64 0)] [[]]
theorem F7.cl2 {w0:World} {a0:Value} {c0:List T} {K:J2} (h:F7.txt ⟨Try.prog,w0⟩ a0 c0 K):Eng.cl2 ⟨Try.prog,w0⟩ 172 F7.sg [a0] [c0] K:=
 AU (C:=⟨Try.prog,w0⟩) (f:=172) (fn:=Try.f172) [] [] [(467,⟨[.v, .t (.j 0) 1, .t (.f 0) 1, .v, .v],[],[.ls]⟩),(58,⟨[.v, .t (.j 0) 1, .t (.f 0) 1, .v, .v],[],[.ls]⟩)] Try.func172 (by kernel_rfl) (by kernel_rfl) (by kernel_rfl) h
def DD.sg:Sg:=⟨[(2,[.t 8 2, .t 2 0, .t 1 2, .t 1 0]),(0,[.t 1 0])],[(0,[.t 1])],[[.t 8, .a 1, .t 1, .a 3]]⟩
def DD.txt (C:Ctx) (c0 c1 c2 c3 c4:List T) (K:J2):Prop:=
 cl2 C 141 CN.sg [] [c4] fun v1 d2=>
 BN (fun r5 x3 k4=>
 prP (bnI .gtr (iv (AA (nx x3 0))) (.int .i64 0)) fun t16_51=>
 gE t16_51 (
 gE t16_51 (
 gP t16_51 true (prP (bnI .leq (iv (cnt 1 (nxc k4 0))) (.int .i64 8))) fun t20_52=>
 prP (pk t16_51 t20_52 (.bool false)) fun t21_53=>
 AX t21_53 (
 ixW (AA (nx x3 0)) (.int .i64 0) fun t23_54=>
 ldc (nxc k4 1) [] ((AA (nx x3 1))+((AA t23_54)*1)) fun t24_55=>
 scW (AA (nx x3 0)) (some (.int .i64 1)) none fun l56 m57=>
 cl2 C 81 BS.sg [t24_55] [(nxc k4 2),c1,(nxc k4 3),c3] fun v58 d59=>
 prP (bnI .lss (nx v58 0) (.int .i64 0)) fun t33_61=>
 AX t33_61 (
 r5 [(iv (AA m57)),(iv ((AA (nx x3 1))+((AA l56)*1)))] [(nxc k4 0),(nxc k4 1),(nxc k4 2),(nxc k4 3)]) (
 ixW (cnt 8 (nxc k4 2)) (nx v58 0) fun t39_62=>
 ldc (nxc k4 2) [] (((AA t39_62)*8)+5) fun t43_63=>
 prP (bnI .sub t43_63 (.int .i64 1)) fun t44_64=>
 stc (nxc k4 2) [] (((AA t39_62)*8)+5) t44_64 fun k65=>
 ldc k65 [] (((AA t39_62)*8)+5) fun t51_66=>
 prP (bnI .gtr t51_66 (.int .i64 0)) fun t52_67=>
 gE t52_67 (
 gE t52_67 (
 gE t52_67 (
 gP t52_67 true (ldc k65 [] (((AA t39_62)*8)+7)) fun t57_68=>
 gP t52_67 true (prP (un .not t57_68)) fun t58_69=>
 prP (pk t52_67 t58_69 (.bool false)) fun t59_70=>
 AX t59_70 (
 stc k65 [] (((AA t39_62)*8)+7) (.bool true) fun k71=>
 apW [T.c t24_55] true (cnt 1 (nxc k4 3)) (cnt 1 [T.c t24_55]) 8 (
 r5 [(iv (AA m57)),(iv ((AA (nx x3 1))+((AA l56)*1)))] [(nxc k4 0),(nxc k4 1),k71,((nxc k4 3)++[T.c t24_55])])) (
 ldc k65 [] (((AA t39_62)*8)+5) fun t77_72=>
 prP (bnI .leq t77_72 (.int .i64 0)) fun t78_73=>
 AX t78_73 (
 apW [T.c t24_55] true (cnt 1 (nxc k4 0)) (cnt 1 [T.c t24_55]) 8 (
 ldl k65 [] (((AA t39_62)*8)+6) 1 fun t86_74=>
 BN (fun r77 x75 k76=>
 prP (bnI .lss (nx x75 6) (nx x75 5)) fun t89_79=>
 AX t89_79 (
 BV (fun x81 k82=>
 prP (bnI .add (nx x81 6) (.int .i64 1)) fun t98_87=>
 r77 [(iv (AA (nx x81 0))),(iv (AA (nx x81 1))),(nx x81 2),(iv (AA (nx x81 3))),(iv (AA (nx x81 4))),(nx x81 5),t98_87] [(nxc k82 0),(nxc k82 1),(nxc k82 2),(nxc k82 3)]) fun j83=>
 ixW (cnt 1 (GL (nxc k76 2) [(AA (nx x75 4))])) (nx x75 6) fun t90_84=>
 ldc (nxc k76 2) [(AA (nx x75 4))] ((AA t90_84)*1) fun t91_85=>
 prP (bnI .geq t91_85 (.int .i64 0)) fun t93_86=>
 AX t93_86 (
 apW [T.c t91_85] true (AA (nx x75 0)) (cnt 1 [T.c t91_85]) 8 (
 j83 [(iv (cnt 1 ((GM (nxc k76 1) [] (AA (nx x75 1)) ((AA (nx x75 0))*1))++[T.c t91_85]))),(iv 0),(nx x75 2),(iv (AA (nx x75 3))),(iv (AA (nx x75 4))),(nx x75 5),(nx x75 6)] [(nxc k76 0),((GM (nxc k76 1) [] (AA (nx x75 1)) ((AA (nx x75 0))*1))++[T.c t91_85]),(nxc k76 2),(nxc k76 3)])) (
 j83 [(iv (AA (nx x75 0))),(iv (AA (nx x75 1))),(nx x75 2),(iv (AA (nx x75 3))),(iv (AA (nx x75 4))),(nx x75 5),(nx x75 6)] [(nxc k76 0),(nxc k76 1),(nxc k76 2),(nxc k76 3)])) (
 cl2 C 172 F7.sg [(nx x75 2)] [(nxc k76 3)] fun v88 d89=>
 ldc (nxc k76 2) [] ((AA (nx x75 3))+1) fun t112_90=>
 cl2 C 99 H2.sg [t112_90] [] fun v91 d92=>
 stg (nxc k76 2) [] (AA (nx x75 3)) [T.c (nx v91 0),T.c (nx v91 1),T.c (nx v91 2),T.c (nx v91 3),T.c (nx v91 4),T.c (nx v91 5),T.l 1 (nxc d92 0),T.c (nx v91 6)] fun k93=>
 r5 [(iv (AA (nx x75 0))),(iv (AA (nx x75 1)))] [(nxc k76 0),(nxc k76 1),k93,(nxc d89 0)])) [(iv (AA m57)),(iv ((AA (nx x3 1))+((AA l56)*1))),t24_55,(iv ((AA t39_62)*8)),(iv (((AA t39_62)*8)+6)),(iv (cnt 1 (GL k65 [(((AA t39_62)*8)+6)]))),(.int .i64 0)] [((nxc k4 0)++[T.c t24_55]),(nxc k4 1),k65,(nxc k4 3)])) (
 r5 [(iv (AA m57)),(iv ((AA (nx x3 1))+((AA l56)*1)))] [(nxc k4 0),(nxc k4 1),k65,(nxc k4 3)]))))))) (
 K [] [(nxc k4 0),(nxc k4 2),(nxc k4 3)])))) [(iv (cnt 1 (nxc d2 0))),(iv 0)] [[],(nxc d2 0),c0,c2]
theorem DD.cl2 {w0:World} {c0 c1 c2 c3 c4:List T} {K:J2} (h:DD.txt ⟨Try.prog,w0⟩ c0 c1 c2 c3 c4 K):Eng.cl2 ⟨Try.prog,w0⟩ 164 DD.sg [] [c0,c1,c2,c3,c4] K:=
 AU (C:=⟨Try.prog,w0⟩) (f:=164) (fn:=Try.f164) [(141,CN.sg),(81,BS.sg),(172,F7.sg),(99,H2.sg)] [] [(126613331,⟨[.p (.j 0) 0, .t (.j 1) 1, .s (.j 2) 0 1, .v, .e (.j 3) 0, .n (.j 3) 1 1, .v, .v],[.p (.j 0) 0, .w, .t (.f 0) 2, .w, .t (.f 1) 1, .t (.f 2) 1],[.bx [.t (.j 3) 8, .t (.f 0) 2, .t (.j 4) 1, .t (.f 1) 1], .ls, .ls, .ls, .ls]⟩),(15826666,⟨[.p (.j 0) 0, .t (.j 1) 1, .s (.j 2) 0 1, .v, .e (.j 3) 0, .n (.j 3) 1 1, .v, .v],[.p (.j 0) 0, .w, .t (.f 0) 2, .w, .t (.f 1) 1, .t (.f 2) 1],[.bx [.t (.j 3) 8, .t (.f 0) 2, .t (.j 4) 1, .t (.f 1) 1], .ls, .ls, .ls, .ls]⟩),(60,⟨[.p (.j 0) 0, .t (.j 1) 1, .s (.j 2) 0 1],[.p (.j 0) 0, .w, .t (.f 0) 2, .w, .t (.f 1) 1, .t (.f 2) 1],[.bx [.t (.j 3) 8, .t (.f 0) 2, .t (.j 4) 1, .t (.f 1) 1], .ls, .ls, .ls, .ls]⟩)] Try.func164 (by kernel_rfl) (by kernel_rfl) (by kernel_rfl) h
def C5.sg:Sg:=⟨[(2,[.t 8 2, .t 2 0, .t 1 2, .t 1 0]),(0,[.v]),(0,[.v])],[(1,[.v, .v, .t 1])],[[.t 8, .a 1, .t 1, .a 3]]⟩
def C5.txt (C:Ctx) (a0 a1:Value) (c0 c1 c2 c3:List T) (K:J2):Prop:=
 cl2 C 81 BS.sg [a1] [c0,c1,c2,c3] fun v1 d2=>
 prP (bnI .lss (nx v1 0) (.int .i64 0)) fun t15_4=>
 AX t15_4 (
 cl2 C 107 BY.sg [(.int .i64 1)] [] fun v5 d6=>
 K [(nx v5 0),(nx v5 1)] [(nxc d6 0),c0,c2]) (
 ixW (cnt 8 c0) (nx v1 0) fun t22_7=>
 BV (fun x9 k10=>
 prP (bnI .eql (nx x9 0) (.int .i64 2)) fun t38_16=>
 gE t38_16 (
 gP t38_16 false (prP (bnI .eql (nx x9 0) (.int .i64 5))) fun t41_17=>
 prP (pk t38_16 (.bool true) t41_17) fun t42_18=>
 AX t42_18 (
 ldc (nxc k10 0) [] (AA (nx x9 2)) fun t45_19=>
 prP (bnI .eql t45_19 (.int .i64 20)) fun t46_20=>
 AX t46_20 (
 cl2 C 107 BY.sg [(.int .i64 4)] [] fun v21 d22=>
 K [(nx v21 0),(nx v21 1)] [(nxc d22 0),(nxc k10 0),(nxc k10 1)]) (
 ldc (nxc k10 0) [] (AA (nx x9 2)) fun t50_23=>
 prP (bnI .add t50_23 (.int .i64 1)) fun t51_24=>
 stc (nxc k10 0) [] (AA (nx x9 2)) t51_24 fun k25=>
 cl2 C 163 DE.sg [(nx x9 1)] [k25,c1,(nxc k10 1),c3] fun v26 d27=>
 K [(.int .i64 0),(.int .i64 0)] [[],(nxc d27 0),(nxc k10 1)])) (
 ldc (nxc k10 0) [] (AA (nx x9 2)) fun t59_28=>
 prP (bnI .eql t59_28 (.int .i64 0)) fun t60_29=>
 AX t60_29 (
 cl2 C 107 BY.sg [(.int .i64 5)] [] fun v30 d31=>
 K [(nx v30 0),(nx v30 1)] [(nxc d31 0),(nxc k10 0),(nxc k10 1)]) (
 ldc (nxc k10 0) [] (AA (nx x9 2)) fun t64_32=>
 prP (bnI .sub t64_32 (.int .i64 1)) fun t65_33=>
 stc (nxc k10 0) [] (AA (nx x9 2)) t65_33 fun k34=>
 cl2 C 164 DD.sg [] [k34,c1,(nxc k10 1),c3,[T.c (nx x9 1)]] fun v35 d36=>
 K [(.int .i64 0),(.int .i64 0)] [(nxc d36 0),(nxc d36 1),(nxc d36 2)])))) fun j11=>
 prP (bnI .eql a0 (.int .i64 5)) fun t25_12=>
 gE t25_12 (
 gP t25_12 false (prP (bnI .eql a0 (.int .i64 6))) fun t28_13=>
 prP (pk t25_12 (.bool true) t28_13) fun t29_14=>
 AX t29_14 (
 ixW (cnt 8 c0) (nx v1 0) fun t35_15=>
 j11 [a0,a1,(iv (((AA t35_15)*8)+4)),(.int .i64 0),(.int .i64 0)] [c0,c2]) (
 j11 [a0,a1,(iv (((AA t22_7)*8)+3)),(.int .i64 0),(.int .i64 0)] [c0,c2])))
theorem C5.cl2 {w0:World} {a0 a1:Value} {c0 c1 c2 c3:List T} {K:J2} (h:C5.txt ⟨Try.prog,w0⟩ a0 a1 c0 c1 c2 c3 K):Eng.cl2 ⟨Try.prog,w0⟩ 145 C5.sg [a0,a1] [c0,c1,c2,c3] K:=
 AU (C:=⟨Try.prog,w0⟩) (f:=145) (fn:=Try.f145) [(81,BS.sg),(107,BY.sg),(163,DE.sg),(164,DD.sg)] [] [(31,⟨[.p (.j 0) 0, .v, .v, .p (.j 1) 0, .e (.j 2) 0],[.p (.j 0) 0, .w, .t (.f 0) 2, .w, .t (.f 1) 1],[.bx [.t (.j 2) 8, .t (.f 0) 2, .t (.j 3) 1, .t (.f 1) 1], .bx [.v, .v, .z], .ls, .ls]⟩)] Try.func145 (by kernel_rfl) (by kernel_rfl) (by kernel_rfl) h
end Go.Proofs.Ytklmcfpgdfibnaa.P
