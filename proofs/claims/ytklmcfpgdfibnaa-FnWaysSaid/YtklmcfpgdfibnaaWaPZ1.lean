/- A part of the proof. -/
import Derived.Test.YtklmcfpgdfibnaaChecked
import Derived.Test.YtklmcfpgdfibnaaWaPZ0
import Derived.KernelRfl
namespace Go.Proofs.Ytklmcfpgdfibnaa.P
open Go Go.Proofs.Ytklmcfpgdfibnaa Go.Proofs.Ytklmcfpgdfibnaa.Eng
set_option linter.unusedVariables false
set_option maxRecDepth 100000
def ER.sg:Sg:=⟨[(1,[.t 8 2, .t 2 2, .t 1 2, .t 1 2]),(1,[.v, .v, .v, .v, .v])],[(1,[.t 8, .t 2, .t 1, .t 1]),(1,[.v, .v, .t 1])],[]⟩
def ER.txt (C:Ctx) (a0 a1 a2 a3 a4:Value) (c0 c1 c2 c3:List T) (K:J2):Prop:=
 cl2 C 24 BD.sg [a1] [c0,c1,c2,c3] fun v1 d2=>
 prP (bnI .lss (nx v1 0) (.int .i64 0)) fun t15_4=>
 gE t15_4 (
 gE t15_4 (
 gP t15_4 false (prP (bnI .neq a3 (.int .i64 (-1)))) fun t19_5=>
 gE t15_4 (
 gE (CI t15_4 false t19_5) (
 gE (CI t15_4 false t19_5) (
 gE (CI t15_4 false t19_5) (
 gP (CI t15_4 false t19_5) true ((fun K=>cl2 C 24 BD.sg [a3] [c0,c1,c2,c3] fun v6 d7=>K (nx v6 0))) fun t24_8=>
 gP (CI t15_4 false t19_5) true (prP (bnI .lss t24_8 (.int .i64 0))) fun t25_9=>
 gP t15_4 false (prP (pk t19_5 t25_9 (.bool false))) fun t26_10=>
 prP (pk t15_4 (.bool true) t26_10) fun t27_11=>
 AX t27_11 (
 K [(.int .i64 1),(.int .i64 0)] [c0,c1,c2,c3,[]]) (
 cl2 C 87 B7.sg [a2,(.int .i64 0),(.int .i64 2)] [] fun v12 d13=>
 prP (un .not (nx v12 0)) fun t33_15=>
 AX t33_15 (
 K [(.int .i64 2),(.int .i64 0)] [c0,c1,c2,c3,[]]) (
 ixW (cnt 8 c0) (nx v1 0) fun t39_16=>
 ldl c0 [] (((AD t39_16)*8)+6) 1 fun t41_17=>
 ixW (cnt 1 (FJ c0 [(((AD t39_16)*8)+6)])) a2 fun t44_18=>
 ldc c0 [(((AD t39_16)*8)+6)] ((AD t44_18)*1) fun t45_19=>
 BK (fun x21 k22=>
 ixW (cnt 8 (nxc k22 0)) (nx x21 0) fun t56_27=>
 ldl (nxc k22 0) [] (((AD t56_27)*8)+6) 1 fun t58_28=>
 ixW (cnt 1 (FJ (nxc k22 0) [(((AD t56_27)*8)+6)])) (nx x21 4) fun t63_29=>
 stc (nxc k22 0) [(((AD t56_27)*8)+6)] ((AD t63_29)*1) (nx x21 5) fun k30=>
 prP (bnI .lss (nx x21 1) (.int .i64 0)) fun t65_31=>
 AX t65_31 (
 K [(.int .i64 0),(.int .i64 0)] [k30,(nxc k22 1),(nxc k22 2),(nxc k22 3),[]]) (
 cl2 C 154 E9.sg [] [k30,(nxc k22 1),(nxc k22 2),(nxc k22 3),[T.c (nx x21 1)]] fun v32 d33=>
 K [(.int .i64 0),(.int .i64 0)] [(nxc d33 0),(nxc d33 1),(nxc d33 2),(nxc d33 3),(nxc d33 4)])) fun j23=>
 prP (bnI .geq a3 (.int .i64 0)) fun t48_24=>
 AX t48_24 (
 cl2 C 153 EG.sg [a3] [c0,c1,c2,c3] fun v25 d26=>
 j23 [(nx v1 0),t45_19,a0,a1,a2,a3,a4,(.int .i64 0),(.int .i64 0)] [(nxc d26 0),(nxc d26 1),(nxc d26 2),(nxc d26 3)]) (
 j23 [(nx v1 0),t45_19,a0,a1,a2,a3,a4,(.int .i64 0),(.int .i64 0)] [c0,c1,c2,c3])))))))))
theorem ER.cl2 {w0:World} {a0 a1 a2 a3 a4:Value} {c0 c1 c2 c3:List T} {K:J2} (h:ER.txt ⟨Try.prog,w0⟩ a0 a1 a2 a3 a4 c0 c1 c2 c3 K):Eng.cl2 ⟨Try.prog,w0⟩ 125 ER.sg [a0,a1,a2,a3,a4] [c0,c1,c2,c3] K:=
 AY (C:=⟨Try.prog,w0⟩) (f:=125) (fn:=Try.f125) [(24,BD.sg),(87,B7.sg),(153,EG.sg),(154,E9.sg)] [(6,[0,1,0,7,15,31,0,64,255,511,1023]),(9,[0,1,0,7,15,31,0,64,0,256,1023,2047])] [(63,⟨[.p (.j 0) 0, .p (.j 1) 0, .p (.j 2) 0, .p (.j 3) 0, .v, .v],[],[.bx [.t (.j 4) 8, .t (.j 5) 2, .t (.j 6) 1, .t (.j 7) 1], .bx [.v, .v, .v, .v, .v], .bx [.z, .z, .z, .z], .bx [.v, .v, .z], .ls, .ls, .ls, .ls]⟩)] Try.func125 (by kernel_rfl) (by kernel_rfl) (by kernel_rfl) h
def FP.sg:Sg:=⟨[(1,[.t 8 0, .t 2 2, .t 1 0, .t 1 0]),(1,[.v, .v, .v, .v, .v])],[(1,[.a 0, .t 2, .a 2, .a 3]),(1,[.v, .v, .t 1])],[]⟩
def FP.txt (C:Ctx) (a0 a1 a2 a3 a4:Value) (c0 c1 c2 c3:List T) (K:J2):Prop:=
 prP (bnI .eql a0 (.int .i64 7)) fun t10_1=>
 AX t10_1 (
 cl2 C 24 BD.sg [a1] [c0,c1,c2,c3] fun v2 d3=>
 prP (bnI .lss (nx v2 0) (.int .i64 0)) fun t15_5=>
 AX t15_5 (
 K [(.int .i64 1),(.int .i64 0)] [c1,[]]) (
 BE (fun r8 x6 k7=>
 prP (bnI .lss (nx x6 0) (iv (cnt 2 (nxc k7 0)))) fun t22_10=>
 AX t22_10 (
 ixW (cnt 2 (nxc k7 0)) (nx x6 0) fun t28_11=>
 ldc (nxc k7 0) [] ((AD t28_11)*2) fun t30_12=>
 prP (un .not t30_12) fun t31_13=>
 AX t31_13 (
 ixW (cnt 2 (nxc k7 0)) (nx x6 0) fun t38_14=>
 stg (nxc k7 0) [] ((AD t38_14)*2) [T.c (.bool true),T.c (nx x6 2)] fun k15=>
 K [(.int .i64 0),(nx x6 0)] [k15,[]]) (
 prP (bnI .add (nx x6 0) (.int .i64 1)) fun t24_16=>
 r8 [t24_16,(nx x6 1),(nx x6 2),(nx x6 3),(nx x6 4),(nx x6 5),(nx x6 6),(nx x6 7)] [(nxc k7 0)])) (
 K [(.int .i64 3),(.int .i64 0)] [(nxc k7 0),[]])) [(.int .i64 0),a0,a1,a2,a3,a4,(.int .i64 0),(.int .i64 0)] [c1])) (
 prP (bnI .sub (iv (cnt 2 c1)) (.int .i64 1)) fun t49_17=>
 cl2 C 87 B7.sg [a1,(.int .i64 0),t49_17] [] fun v18 d19=>
 prP (un .not (nx v18 0)) fun t51_21=>
 gE t51_21 (
 gE t51_21 (
 gE t51_21 (
 gE t51_21 (
 gP t51_21 false (ixW (cnt 2 c1) a1) fun t57_22=>
 gE t51_21 (
 gP t51_21 false (ldc c1 [] ((AD t57_22)*2)) fun t59_23=>
 gP t51_21 false (prP (un .not t59_23)) fun t60_24=>
 prP (pk t51_21 (.bool true) t60_24) fun t61_25=>
 AX t61_25 (
 K [(.int .i64 2),(.int .i64 0)] [c1,[]]) (
 prP (bnI .eql a0 (.int .i64 9)) fun t66_26=>
 AX t66_26 (
 ixW (cnt 2 c1) a1 fun t72_27=>
 stg c1 [] ((AD t72_27)*2) [T.c (.bool false),T.c (.int .i64 0)] fun k28=>
 K [(.int .i64 0),(.int .i64 0)] [k28,[]]) (
 ixW (cnt 2 c1) a1 fun t79_29=>
 ldc c1 [] (((AD t79_29)*2)+1) fun t81_30=>
 cl2 C 24 BD.sg [t81_30] [c0,c1,c2,c3] fun v31 d32=>
 prP (bnI .lss (nx v31 0) (.int .i64 0)) fun t85_34=>
 AX t85_34 (
 K [(.int .i64 0),(.int .i64 (-1))] [c1,[]]) (
 K [(.int .i64 0),t81_30] [c1,[]])))))))))
theorem FP.cl2 {w0:World} {a0 a1 a2 a3 a4:Value} {c0 c1 c2 c3:List T} {K:J2} (h:FP.txt ⟨Try.prog,w0⟩ a0 a1 a2 a3 a4 c0 c1 c2 c3 K):Eng.cl2 ⟨Try.prog,w0⟩ 126 FP.sg [a0,a1,a2,a3,a4] [c0,c1,c2,c3] K:=
 AY (C:=⟨Try.prog,w0⟩) (f:=126) (fn:=Try.f126) [(24,BD.sg),(87,B7.sg)] [] [(426,⟨[.p (.j 0) 0, .p (.j 1) 0, .p (.j 2) 0, .p (.j 3) 0, .v],[.t (.f 0) 8, .w, .t (.f 1) 1, .t (.f 2) 1],[.bx [.t (.f 0) 8, .t (.j 4) 2, .t (.f 1) 1, .t (.f 2) 1], .bx [.v, .v, .v, .v, .v], .bx [.z, .z, .z, .z], .bx [.v, .v, .z], .ls]⟩)] Try.func126 (by kernel_rfl) (by kernel_rfl) (by kernel_rfl) h
def D4.sg:Sg:=⟨[(1,[.t 8 0, .t 2 0, .t 1 0, .t 1 0])],[(1,[.t 1, .t 1])],[]⟩
def D4.txt (C:Ctx) (c0 c1 c2 c3:List T) (K:J2):Prop:=
 BE (fun r3 x1 k2=>
 prP (bnI .lss (nx x1 0) (iv (cnt 8 c0))) fun t10_12=>
 gE t10_12 (
 gP t10_12 true (prP (bnI .lss (nx x1 0) (.int .i64 8))) fun t13_13=>
 prP (pk t10_12 t13_13 (.bool false)) fun t14_14=>
 AX t14_14 (
 ixW (cnt 8 c0) (nx x1 0) fun t22_15=>
 ldc c0 [] (((AD t22_15)*8)+5) fun t24_16=>
 apW [T.c t24_16] true (cnt 1 (nxc k2 0)) (cnt 1 [T.c t24_16]) 8 (
 apW [T.c (.int .i64 0)] true (cnt 1 (nxc k2 1)) (cnt 1 [T.c (.int .i64 0)]) 8 (
 prP (bnI .add (nx x1 0) (.int .i64 1)) fun t16_17=>
 r3 [t16_17] [((nxc k2 0)++[T.c t24_16]),((nxc k2 1)++[T.c (.int .i64 0)])]))) (
 K [] [(nxc k2 0),(nxc k2 1)]))) [(.int .i64 0)] [[],[]]
theorem D4.cl2 {w0:World} {c0 c1 c2 c3:List T} {K:J2} (h:D4.txt ⟨Try.prog,w0⟩ c0 c1 c2 c3 K):Eng.cl2 ⟨Try.prog,w0⟩ 155 D4.sg [] [c0,c1,c2,c3] K:=
 AY (C:=⟨Try.prog,w0⟩) (f:=155) (fn:=Try.f155) [] [(5,[0,1,0,4,0,28,60,124,252,511,1023,2047])] [(58,⟨[.p (.j 0) 0, .p (.j 1) 0, .p (.j 2) 0, .v],[],[.bx [.t (.f 0) 8, .t (.f 1) 2, .t (.f 2) 1, .t (.f 3) 1], .bx [.z, .z], .bx [.t (.j 3) 1, .t (.j 4) 1], .ls, .ls]⟩)] Try.func155 (by kernel_rfl) (by kernel_rfl) (by kernel_rfl) h
def ED.sg:Sg:=⟨[(1,[.t 1 0, .t 1 0])],[(1,[.t 1, .t 1])],[]⟩
def ED.txt (C:Ctx) (c0 c1:List T) (K:J2):Prop:=
 apW c0 true (cnt 1 []) (cnt 1 c0) 8 (
 apW c1 true (cnt 1 []) (cnt 1 c1) 8 (
 K [] [([]++c0),([]++c1)]))
theorem ED.cl2 {w0:World} {c0 c1:List T} {K:J2} (h:ED.txt ⟨Try.prog,w0⟩ c0 c1 K):Eng.cl2 ⟨Try.prog,w0⟩ 168 ED.sg [] [c0,c1] K:=
 AY (C:=⟨Try.prog,w0⟩) (f:=168) (fn:=Try.f168) [] [(1,[0,0,2,7,0,0,32,127,255,511])] [] Try.func168 (by kernel_rfl) (by kernel_rfl) (by kernel_rfl) h
def F9.sg:Sg:=⟨[(1,[.t 8 0, .t 2 0, .t 1 0, .t 1 0]),(1,[.t 1 0, .t 1 0]),(0,[.v])],[(0,[.v])],[]⟩
def F9.txt (C:Ctx) (a0:Value) (c0 c1 c2 c3 c4 c5:List T) (K:J2):Prop:=
 prP (bnI .eql (iv (cnt 8 c0)) (.int .i64 8)) fun t10_1=>
 gE t10_1 (
 gE t10_1 (
 gE t10_1 (
 gP t10_1 true (prP (bnI .eql (iv (cnt 1 c4)) (.int .i64 8))) fun t15_2=>
 prP (pk t10_1 t15_2 (.bool false)) fun t16_3=>
 gE t16_3 (
 gE t16_3 (
 gE t16_3 (
 gP t16_3 true (prP (bnI .eql (iv (cnt 1 c5)) (.int .i64 8))) fun t21_4=>
 prP (pk t16_3 t21_4 (.bool false)) fun t22_5=>
 gE t22_5 (
 gP t22_5 true ((fun K=>cl2 C 87 B7.sg [a0,(.int .i64 0),(.int .i64 7)] [] fun v6 d7=>K (nx v6 0))) fun t25_8=>
 prP (pk t22_5 t25_8 (.bool false)) fun t26_9=>
 gE t26_9 (
 gE t26_9 (
 gE t26_9 (
 gP t26_9 true (ixW (cnt 8 c0) a0) fun t31_10=>
 gE t26_9 (
 gP t26_9 true (ldc c0 [] ((AD t31_10)*8)) fun t33_11=>
 prP (pk t26_9 t33_11 (.bool false)) fun t34_12=>
 K [t34_12] [])))))))))))
theorem F9.cl2 {w0:World} {a0:Value} {c0 c1 c2 c3 c4 c5:List T} {K:J2} (h:F9.txt ⟨Try.prog,w0⟩ a0 c0 c1 c2 c3 c4 c5 K):Eng.cl2 ⟨Try.prog,w0⟩ 169 F9.sg [a0] [c0,c1,c2,c3,c4,c5] K:=
 AY (C:=⟨Try.prog,w0⟩) (f:=169) (fn:=Try.f169) [(87,B7.sg)] [] [] Try.func169 (by kernel_rfl) (by kernel_rfl) (by kernel_rfl) h
def DL.sg:Sg:=⟨[(1,[.t 8 0, .t 2 0, .t 1 0, .t 1 0]),(0,[.v])],[(0,[.t 1])],[]⟩
def DL.txt (C:Ctx) (a0:Value) (c0 c1 c2 c3:List T) (K:J2):Prop:=
 BE (fun r3 x1 k2=>
 ixW (cnt 8 c0) (nx x1 0) fun t13_5=>
 ldl c0 [] (((AD t13_5)*8)+6) 1 fun t15_6=>
 prP (bnI .lss (nx x1 1) (iv (cnt 1 (FJ c0 [(((AD t13_5)*8)+6)])))) fun t17_7=>
 AX t17_7 (
 BK (fun x9 k10=>
 prP (bnI .add (nx x9 1) (.int .i64 1)) fun t19_20=>
 r3 [(nx x9 0),t19_20] [(nxc k10 0)]) fun j11=>
 ixW (cnt 8 c0) (nx x1 0) fun t24_12=>
 ldl c0 [] (((AD t24_12)*8)+6) 1 fun t26_13=>
 ixW (cnt 1 (FJ c0 [(((AD t24_12)*8)+6)])) (nx x1 1) fun t28_14=>
 ldc c0 [(((AD t24_12)*8)+6)] ((AD t28_14)*1) fun t29_15=>
 cl2 C 24 BD.sg [t29_15] [c0,c1,c2,c3] fun v16 d17=>
 prP (bnI .geq (nx v16 0) (.int .i64 0)) fun t32_19=>
 AX t32_19 (
 apW [T.c (nx v16 0)] true (cnt 1 (nxc k2 0)) (cnt 1 [T.c (nx v16 0)]) 8 (
 j11 [(nx x1 0),(nx x1 1)] [((nxc k2 0)++[T.c (nx v16 0)])])) (
 j11 [(nx x1 0),(nx x1 1)] [(nxc k2 0)])) (
 K [] [(nxc k2 0)])) [a0,(.int .i64 0)] [[]]
theorem DL.cl2 {w0:World} {a0:Value} {c0 c1 c2 c3:List T} {K:J2} (h:DL.txt ⟨Try.prog,w0⟩ a0 c0 c1 c2 c3 K):Eng.cl2 ⟨Try.prog,w0⟩ 170 DL.sg [a0] [c0,c1,c2,c3] K:=
 AY (C:=⟨Try.prog,w0⟩) (f:=170) (fn:=Try.f170) [(24,BD.sg)] [(5,[0,0,2,0,14,30,62,0,254,510,1023,2047])] [(233,⟨[.v, .p (.j 0) 0, .t (.j 1) 1, .v],[],[.bx [.t (.f 0) 8, .t (.f 1) 2, .t (.f 2) 1, .t (.f 3) 1], .ls]⟩),(58,⟨[.v, .p (.j 0) 0, .t (.j 1) 1, .v],[],[.bx [.t (.f 0) 8, .t (.f 1) 2, .t (.f 2) 1, .t (.f 3) 1], .ls]⟩)] Try.func170 (by kernel_rfl) (by kernel_rfl) (by kernel_rfl) h
def D7.sg:Sg:=⟨[(1,[.t 8 0, .t 2 0, .t 1 0, .t 1 0]),(1,[.t 1 0, .t 1 0]),(0,[.v])],[(1,[.t 1, .t 1])],[]⟩
def D7.txt (C:Ctx) (a0:Value) (c0 c1 c2 c3 c4 c5:List T) (K:J2):Prop:=
 cl2 C 168 ED.sg [] [c4,c5] fun v1 d2=>
 cl2 C 169 F9.sg [a0] [c0,c1,c2,c3,c4,c5] fun v3 d4=>
 prP (un .not (nx v3 0)) fun t18_6=>
 gE t18_6 (
 gE t18_6 (
 gE t18_6 (
 gP t18_6 false (ixW (cnt 1 c5) a0) fun t23_7=>
 gP t18_6 false (ldc c5 [] ((AD t23_7)*1)) fun t24_8=>
 gP t18_6 false (prP (bnI .eql t24_8 (.int .i64 1))) fun t25_9=>
 prP (pk t18_6 (.bool true) t25_9) fun t26_10=>
 AX t26_10 (
 K [] [(nxc d2 0),(nxc d2 1)]) (
 ixW (cnt 1 (nxc d2 1)) a0 fun t31_11=>
 stc (nxc d2 1) [] ((AD t31_11)*1) (.int .i64 1) fun k12=>
 BE (fun r15 x13 k14=>
 prP (bnI .gtr (iv (AD (nx x13 0))) (.int .i64 0)) fun t36_57=>
 AX t36_57 (
 prP (bnI .sub (iv (AD (nx x13 0))) (.int .i64 1)) fun t40_58=>
 ixW (AD (nx x13 0)) t40_58 fun t41_59=>
 ldc (nxc k14 0) [] ((AD (nx x13 1))+((AD t41_59)*1)) fun t42_60=>
 prP (bnI .sub (iv (AD (nx x13 0))) (.int .i64 1)) fun t46_61=>
 scW (AD (nx x13 0)) none (some t46_61) fun l62 m63=>
 cl2 C 170 DL.sg [t42_60] [c0,c1,c2,c3] fun v64 d65=>
 BE (fun r68 x66 k67=>
 prP (bnI .lss (nx x66 2) (iv (cnt 1 (nxc k67 1)))) fun t54_70=>
 AX t54_70 (
 BK (fun x72 k73=>
 prP (bnI .add (nx x72 2) (.int .i64 1)) fun t56_95=>
 r68 [(iv (AD (nx x72 0))),(iv (AD (nx x72 1))),t56_95] [(nxc k73 0),(nxc k73 1),(nxc k73 2),(nxc k73 3)]) fun j74=>
 ixW (cnt 1 (nxc k67 1)) (nx x66 2) fun t61_75=>
 ldc (nxc k67 1) [] ((AD t61_75)*1) fun t62_76=>
 ixW (cnt 1 (nxc k67 1)) (nx x66 2) fun t67_77=>
 ldc (nxc k67 1) [] ((AD t67_77)*1) fun t68_78=>
 ixW (cnt 1 (nxc k67 2)) t68_78 fun t69_79=>
 ldc (nxc k67 2) [] ((AD t69_79)*1) fun t70_80=>
 prP (bnI .sub t70_80 (.int .i64 1)) fun t71_81=>
 ixW (cnt 1 (nxc k67 2)) t62_76 fun t72_82=>
 stc (nxc k67 2) [] ((AD t72_82)*1) t71_81 fun k83=>
 ixW (cnt 1 (nxc k67 1)) (nx x66 2) fun t77_84=>
 ldc (nxc k67 1) [] ((AD t77_84)*1) fun t78_85=>
 ixW (cnt 1 (nxc k67 3)) t78_85 fun t79_86=>
 ldc (nxc k67 3) [] ((AD t79_86)*1) fun t80_87=>
 prP (bnI .neq t80_87 (.int .i64 1)) fun t81_88=>
 AX t81_88 (
 ixW (cnt 1 (nxc k67 1)) (nx x66 2) fun t86_89=>
 ldc (nxc k67 1) [] ((AD t86_89)*1) fun t87_90=>
 ixW (cnt 1 (nxc k67 3)) t87_90 fun t88_91=>
 stc (nxc k67 3) [] ((AD t88_91)*1) (.int .i64 1) fun k92=>
 ixW (cnt 1 (nxc k67 1)) (nx x66 2) fun t92_93=>
 ldc (nxc k67 1) [] ((AD t92_93)*1) fun t93_94=>
 apW [T.c t93_94] true (AD (nx x66 0)) (cnt 1 [T.c t93_94]) 8 (
 j74 [(iv (cnt 1 ((GB (nxc k67 0) [] (AD (nx x66 1)) ((AD (nx x66 0))*1))++[T.c t93_94]))),(iv 0),(nx x66 2)] [((GB (nxc k67 0) [] (AD (nx x66 1)) ((AD (nx x66 0))*1))++[T.c t93_94]),(nxc k67 1),k83,k92])) (
 j74 [(iv (AD (nx x66 0))),(iv (AD (nx x66 1))),(nx x66 2)] [(nxc k67 0),(nxc k67 1),k83,(nxc k67 3)])) (
 r15 [(iv (AD (nx x66 0))),(iv (AD (nx x66 1)))] [(nxc k67 0),(nxc k67 2),(nxc k67 3)])) [(iv (AD m63)),(iv ((AD (nx x13 1))+((AD l62)*1))),(.int .i64 0)] [(nxc k14 0),(nxc d65 0),(nxc k14 1),(nxc k14 2)]) (
 K [] [(nxc k14 1),(nxc k14 2)])) [(iv (cnt 1 [T.c a0])),(iv 0)] [[T.c a0],(nxc d2 0),k12]))))
theorem D7.cl2 {w0:World} {a0:Value} {c0 c1 c2 c3 c4 c5:List T} {K:J2} (h:D7.txt ⟨Try.prog,w0⟩ a0 c0 c1 c2 c3 c4 c5 K):Eng.cl2 ⟨Try.prog,w0⟩ 156 D7.sg [a0] [c0,c1,c2,c3,c4,c5] K:=
 AY (C:=⟨Try.prog,w0⟩) (f:=156) (fn:=Try.f156) [(168,ED.sg),(169,F9.sg),(170,DL.sg)] [(13,[0,1,0,0,12,28,0,64,0,0,768,1792,4032,8128,16320,32767,65535]),(14,[0,1,0,0,12,28,63,127,255]),(15,[0,1,0,0,12,28,63,127])] [(258425,⟨[.p (.j 0) 0, .p (.j 1) 0, .p (.j 2) 0, .s (.j 3) 0 1, .t (.j 4) 1, .v],[],[.bx [.t (.f 0) 8, .t (.f 1) 2, .t (.f 2) 1, .t (.f 3) 1], .bx [.z, .z], .bx [.t (.j 5) 1, .t (.j 6) 1], .ls, .ls, .ls, .ls]⟩),(64606,⟨[.p (.j 0) 0, .p (.j 1) 0, .p (.j 2) 0, .s (.j 3) 0 1, .t (.j 4) 1, .v],[],[.bx [.t (.f 0) 8, .t (.f 1) 2, .t (.f 2) 1, .t (.f 3) 1], .bx [.z, .z], .bx [.t (.j 5) 1, .t (.j 6) 1], .ls, .ls, .ls, .ls]⟩),(252,⟨[.p (.j 0) 0, .p (.j 1) 0, .p (.j 2) 0, .s (.j 3) 0 1],[],[.bx [.t (.f 0) 8, .t (.f 1) 2, .t (.f 2) 1, .t (.f 3) 1], .bx [.z, .z], .bx [.t (.j 4) 1, .t (.j 5) 1], .ls, .ls, .ls]⟩)] Try.func156 (by kernel_rfl) (by kernel_rfl) (by kernel_rfl) h
def EM.sg:Sg:=⟨[(1,[.t 8 0, .t 2 0, .t 1 0, .t 1 0]),(1,[.t 1 2, .t 1 2]),(0,[.v])],[(1,[.t 1, .t 1])],[]⟩
def EM.txt (C:Ctx) (a0:Value) (c0 c1 c2 c3 c4 c5:List T) (K:J2):Prop:=
 ixW (cnt 1 c5) a0 fun t14_1=>
 stc c5 [] ((AD t14_1)*1) (.int .i64 0) fun k2=>
 BE (fun r5 x3 k4=>
 prP (bnI .gtr (iv (AD (nx x3 0))) (.int .i64 0)) fun t19_47=>
 AX t19_47 (
 prP (bnI .sub (iv (AD (nx x3 0))) (.int .i64 1)) fun t23_48=>
 ixW (AD (nx x3 0)) t23_48 fun t24_49=>
 ldc (nxc k4 0) [] ((AD (nx x3 1))+((AD t24_49)*1)) fun t25_50=>
 prP (bnI .sub (iv (AD (nx x3 0))) (.int .i64 1)) fun t29_51=>
 scW (AD (nx x3 0)) none (some t29_51) fun l52 m53=>
 cl2 C 170 DL.sg [t25_50] [c0,c1,c2,c3] fun v54 d55=>
 BE (fun r58 x56 k57=>
 prP (bnI .lss (nx x56 2) (iv (cnt 1 (nxc k57 1)))) fun t37_60=>
 AX t37_60 (
 BK (fun x62 k63=>
 prP (bnI .add (nx x62 2) (.int .i64 1)) fun t39_85=>
 r58 [(iv (AD (nx x62 0))),(iv (AD (nx x62 1))),t39_85] [(nxc k63 0),(nxc k63 1),(nxc k63 2),(nxc k63 3)]) fun j64=>
 ixW (cnt 1 (nxc k57 1)) (nx x56 2) fun t44_65=>
 ldc (nxc k57 1) [] ((AD t44_65)*1) fun t45_66=>
 ixW (cnt 1 (nxc k57 1)) (nx x56 2) fun t50_67=>
 ldc (nxc k57 1) [] ((AD t50_67)*1) fun t51_68=>
 ixW (cnt 1 (nxc k57 2)) t51_68 fun t52_69=>
 ldc (nxc k57 2) [] ((AD t52_69)*1) fun t53_70=>
 prP (bnI .add t53_70 (.int .i64 1)) fun t54_71=>
 ixW (cnt 1 (nxc k57 2)) t45_66 fun t55_72=>
 stc (nxc k57 2) [] ((AD t55_72)*1) t54_71 fun k73=>
 ixW (cnt 1 (nxc k57 1)) (nx x56 2) fun t60_74=>
 ldc (nxc k57 1) [] ((AD t60_74)*1) fun t61_75=>
 ixW (cnt 1 (nxc k57 3)) t61_75 fun t62_76=>
 ldc (nxc k57 3) [] ((AD t62_76)*1) fun t63_77=>
 prP (bnI .neq t63_77 (.int .i64 0)) fun t64_78=>
 AX t64_78 (
 ixW (cnt 1 (nxc k57 1)) (nx x56 2) fun t69_79=>
 ldc (nxc k57 1) [] ((AD t69_79)*1) fun t70_80=>
 ixW (cnt 1 (nxc k57 3)) t70_80 fun t71_81=>
 stc (nxc k57 3) [] ((AD t71_81)*1) (.int .i64 0) fun k82=>
 ixW (cnt 1 (nxc k57 1)) (nx x56 2) fun t75_83=>
 ldc (nxc k57 1) [] ((AD t75_83)*1) fun t76_84=>
 apW [T.c t76_84] true (AD (nx x56 0)) (cnt 1 [T.c t76_84]) 8 (
 j64 [(iv (cnt 1 ((GB (nxc k57 0) [] (AD (nx x56 1)) ((AD (nx x56 0))*1))++[T.c t76_84]))),(iv 0),(nx x56 2)] [((GB (nxc k57 0) [] (AD (nx x56 1)) ((AD (nx x56 0))*1))++[T.c t76_84]),(nxc k57 1),k73,k82])) (
 j64 [(iv (AD (nx x56 0))),(iv (AD (nx x56 1))),(nx x56 2)] [(nxc k57 0),(nxc k57 1),k73,(nxc k57 3)])) (
 r5 [(iv (AD (nx x56 0))),(iv (AD (nx x56 1)))] [(nxc k57 0),(nxc k57 2),(nxc k57 3)])) [(iv (AD m53)),(iv ((AD (nx x3 1))+((AD l52)*1))),(.int .i64 0)] [(nxc k4 0),(nxc d55 0),(nxc k4 1),(nxc k4 2)]) (
 K [] [(nxc k4 1),(nxc k4 2)])) [(iv (cnt 1 [T.c a0])),(iv 0)] [[T.c a0],c4,k2]
theorem EM.cl2 {w0:World} {a0:Value} {c0 c1 c2 c3 c4 c5:List T} {K:J2} (h:EM.txt ⟨Try.prog,w0⟩ a0 c0 c1 c2 c3 c4 c5 K):Eng.cl2 ⟨Try.prog,w0⟩ 171 EM.sg [a0] [c0,c1,c2,c3,c4,c5] K:=
 AY (C:=⟨Try.prog,w0⟩) (f:=171) (fn:=Try.f171) [(170,DL.sg)] [(10,[0,1,0,0,12,28,0,64,0,0,768,1792,4032,8128,16320,32767,65535]),(11,[0,1,0,0,12,28,63,127,255]),(12,[0,1,0,0,12,28,63,127])] [(61817,⟨[.p (.j 0) 0, .p (.j 1) 0, .p (.j 2) 0, .s (.j 3) 0 1, .t (.j 4) 1, .v],[],[.bx [.t (.f 0) 8, .t (.f 1) 2, .t (.f 2) 1, .t (.f 3) 1], .bx [.t (.j 5) 1, .t (.j 6) 1], .bx [.z, .z], .ls, .ls, .ls, .ls]⟩),(15454,⟨[.p (.j 0) 0, .p (.j 1) 0, .p (.j 2) 0, .s (.j 3) 0 1, .t (.j 4) 1, .v],[],[.bx [.t (.f 0) 8, .t (.f 1) 2, .t (.f 2) 1, .t (.f 3) 1], .bx [.t (.j 5) 1, .t (.j 6) 1], .bx [.z, .z], .ls, .ls, .ls, .ls]⟩),(60,⟨[.p (.j 0) 0, .p (.j 1) 0, .p (.j 2) 0, .s (.j 3) 0 1],[],[.bx [.t (.f 0) 8, .t (.f 1) 2, .t (.f 2) 1, .t (.f 3) 1], .bx [.t (.j 4) 1, .t (.j 5) 1], .bx [.z, .z], .ls, .ls, .ls]⟩)] Try.func171 (by kernel_rfl) (by kernel_rfl) (by kernel_rfl) h
def D8.sg:Sg:=⟨[(1,[.t 8 0, .t 2 0, .t 1 0, .t 1 0]),(1,[.t 1 0, .t 1 0]),(0,[.v])],[(1,[.t 1, .t 1])],[]⟩
def D8.txt (C:Ctx) (a0:Value) (c0 c1 c2 c3 c4 c5:List T) (K:J2):Prop:=
 cl2 C 168 ED.sg [] [c4,c5] fun v1 d2=>
 cl2 C 169 F9.sg [a0] [c0,c1,c2,c3,c4,c5] fun v3 d4=>
 prP (un .not (nx v3 0)) fun t16_6=>
 AX t16_6 (
 K [] [(nxc d2 0),(nxc d2 1)]) (
 BE (fun r9 x7 k8=>
 prP (bnI .gtr (iv (AD (nx x7 0))) (.int .i64 0)) fun t22_31=>
 AX t22_31 (
 prP (bnI .sub (iv (AD (nx x7 0))) (.int .i64 1)) fun t26_32=>
 ixW (AD (nx x7 0)) t26_32 fun t27_33=>
 ldc (nxc k8 0) [] ((AD (nx x7 1))+((AD t27_33)*1)) fun t28_34=>
 prP (bnI .sub (iv (AD (nx x7 0))) (.int .i64 1)) fun t32_35=>
 scW (AD (nx x7 0)) none (some t32_35) fun l36 m37=>
 ixW (cnt 1 (nxc k8 2)) t28_34 fun t37_38=>
 ldc (nxc k8 2) [] ((AD t37_38)*1) fun t38_39=>
 prP (bnI .neq t38_39 (.int .i64 1)) fun t39_40=>
 AX t39_40 (
 r9 [(iv (AD m37)),(iv ((AD (nx x7 1))+((AD l36)*1)))] [(nxc k8 0),(nxc k8 1),(nxc k8 2)]) (
 ixW (cnt 1 (nxc k8 1)) t28_34 fun t43_41=>
 ldc (nxc k8 1) [] ((AD t43_41)*1) fun t44_42=>
 prP (bnI .gtr t44_42 (.int .i64 0)) fun t45_43=>
 AX t45_43 (
 cl2 C 171 EM.sg [t28_34] [c0,c1,c2,c3,(nxc k8 1),(nxc k8 2)] fun v44 d45=>
 r9 [(iv (AD m37)),(iv ((AD (nx x7 1))+((AD l36)*1)))] [(nxc k8 0),(nxc d45 0),(nxc d45 1)]) (
 ixW (cnt 1 (nxc k8 2)) t28_34 fun t53_46=>
 stc (nxc k8 2) [] ((AD t53_46)*1) (.int .i64 2) fun k47=>
 cl2 C 170 DL.sg [t28_34] [c0,c1,c2,c3] fun v48 d49=>
 apW (nxc d49 0) true (AD m37) (cnt 1 (nxc d49 0)) 8 (
 r9 [(iv (cnt 1 ((GB (nxc k8 0) [] ((AD (nx x7 1))+((AD l36)*1)) ((AD m37)*1))++(nxc d49 0)))),(iv 0)] [((GB (nxc k8 0) [] ((AD (nx x7 1))+((AD l36)*1)) ((AD m37)*1))++(nxc d49 0)),(nxc k8 1),k47])))) (
 K [] [(nxc k8 1),(nxc k8 2)])) [(iv (cnt 1 [T.c a0])),(iv 0)] [[T.c a0],(nxc d2 0),(nxc d2 1)])
theorem D8.cl2 {w0:World} {a0:Value} {c0 c1 c2 c3 c4 c5:List T} {K:J2} (h:D8.txt ⟨Try.prog,w0⟩ a0 c0 c1 c2 c3 c4 c5 K):Eng.cl2 ⟨Try.prog,w0⟩ 157 D8.sg [a0] [c0,c1,c2,c3,c4,c5] K:=
 AY (C:=⟨Try.prog,w0⟩) (f:=157) (fn:=Try.f157) [(168,ED.sg),(169,F9.sg),(171,EM.sg),(170,DL.sg)] [] [(124,⟨[.p (.j 0) 0, .p (.j 1) 0, .p (.j 2) 0, .s (.j 3) 0 1],[],[.bx [.t (.f 0) 8, .t (.f 1) 2, .t (.f 2) 1, .t (.f 3) 1], .bx [.z, .z], .bx [.t (.j 4) 1, .t (.j 5) 1], .ls, .ls, .ls]⟩)] Try.func157 (by kernel_rfl) (by kernel_rfl) (by kernel_rfl) h
def FQ.sg:Sg:=⟨[(1,[.t 1 0, .t 1 0])],[(0,[.t 1])],[]⟩
def FQ.txt (C:Ctx) (c0 c1:List T) (K:J2):Prop:=
 BE (fun r3 x1 k2=>
 prP (bnI .lss (nx x1 0) (iv (cnt 1 c1))) fun t10_5=>
 AX t10_5 (
 BK (fun x7 k8=>
 prP (bnI .add (nx x7 0) (.int .i64 1)) fun t12_13=>
 r3 [t12_13] [(nxc k8 0)]) fun j9=>
 ixW (cnt 1 c1) (nx x1 0) fun t16_10=>
 ldc c1 [] ((AD t16_10)*1) fun t17_11=>
 prP (bnI .eql t17_11 (.int .i64 2)) fun t18_12=>
 AX t18_12 (
 apW [T.c (nx x1 0)] true (cnt 1 (nxc k2 0)) (cnt 1 [T.c (nx x1 0)]) 8 (
 j9 [(nx x1 0)] [((nxc k2 0)++[T.c (nx x1 0)])])) (
 j9 [(nx x1 0)] [(nxc k2 0)])) (
 K [] [(nxc k2 0)])) [(.int .i64 0)] [[]]
theorem FQ.cl2 {w0:World} {c0 c1:List T} {K:J2} (h:FQ.txt ⟨Try.prog,w0⟩ c0 c1 K):Eng.cl2 ⟨Try.prog,w0⟩ 158 FQ.sg [] [c0,c1] K:=
 AY (C:=⟨Try.prog,w0⟩) (f:=158) (fn:=Try.f158) [] [] [(233,⟨[.p (.j 0) 0, .t (.j 1) 1, .v],[],[.bx [.t (.f 0) 1, .t (.f 1) 1], .ls]⟩),(58,⟨[.p (.j 0) 0, .t (.j 1) 1, .v],[],[.bx [.t (.f 0) 1, .t (.f 1) 1], .ls]⟩)] Try.func158 (by kernel_rfl) (by kernel_rfl) (by kernel_rfl) h
def EW.sg:Sg:=⟨[(1,[.t 8 0, .t 2 0, .t 1 0, .t 1 0])],[(1,[.t 8, .t 2, .t 1, .t 1]),(0,[.t 1])],[]⟩
def EW.txt (C:Ctx) (c0 c1 c2 c3:List T) (K:J2):Prop:=
 cl2 C 122 CX.sg [] [c0,c1,c2,c3] fun v1 d2=>
 prP (bnI .neq (iv (cnt 8 c0)) (.int .i64 8)) fun t18_3=>
 AX t18_3 (
 K [] [(nxc d2 0),(nxc d2 1),(nxc d2 2),(nxc d2 3),[]]) (
 cl2 C 155 D4.sg [] [c0,c1,c2,c3] fun v4 d5=>
 BE (fun r8 x6 k7=>
 prP (bnI .lss (nx x6 0) (iv (cnt 1 c2))) fun t27_10=>
 AX t27_10 (
 ixW (cnt 1 c2) (nx x6 0) fun t36_11=>
 ldc c2 [] ((AD t36_11)*1) fun t37_12=>
 cl2 C 24 BD.sg [t37_12] [c0,c1,c2,c3] fun v13 d14=>
 cl2 C 156 D7.sg [(nx v13 0)] [c0,c1,c2,c3,(nxc k7 5),(nxc k7 6)] fun v16 d17=>
 prP (bnI .add (nx x6 0) (.int .i64 1)) fun t29_18=>
 r8 [t29_18] [(nxc k7 0),(nxc k7 1),(nxc k7 2),(nxc k7 3),(nxc k7 4),(nxc d17 0),(nxc d17 1)]) (
 BE (fun r21 x19 k20=>
 prP (bnI .lss (nx x19 0) (iv (cnt 1 c2))) fun t44_23=>
 AX t44_23 (
 ixW (cnt 1 c2) (nx x19 0) fun t53_24=>
 ldc c2 [] ((AD t53_24)*1) fun t54_25=>
 cl2 C 24 BD.sg [t54_25] [c0,c1,c2,c3] fun v26 d27=>
 cl2 C 157 D8.sg [(nx v26 0)] [c0,c1,c2,c3,(nxc k20 5),(nxc k20 6)] fun v29 d30=>
 prP (bnI .add (nx x19 0) (.int .i64 1)) fun t46_31=>
 r21 [t46_31] [(nxc k20 0),(nxc k20 1),(nxc k20 2),(nxc k20 3),(nxc k20 4),(nxc d30 0),(nxc d30 1)]) (
 cl2 C 158 FQ.sg [] [(nxc k20 5),(nxc k20 6)] fun v32 d33=>
 BE (fun r36 x34 k35=>
 prP (bnI .lss (nx x34 0) (iv (cnt 8 (nxc k35 2)))) fun t63_38=>
 AX t63_38 (
 BK (fun x40 k41=>
 prP (bnI .add (nx x40 0) (.int .i64 1)) fun t65_59=>
 r36 [t65_59] [(nxc k41 0),(nxc k41 1),(nxc k41 2),(nxc k41 3),(nxc k41 4),(nxc k41 5)]) fun j42=>
 ixW (cnt 8 (nxc k35 2)) (nx x34 0) fun t69_43=>
 stc (nxc k35 2) [] (((AD t69_43)*8)+7) (.bool false) fun k44=>
 cl2 C 89 CA.sg [(nx x34 0)] [(nxc k35 1)] fun v45 d46=>
 AX (nx v45 0) (
 ixW (cnt 8 c0) (nx x34 0) fun t79_48=>
 ldc c0 [] (((AD t79_48)*8)+1) fun t81_49=>
 cl2 C 61 CU.sg [(nx x34 0),t81_49] [] fun v50 d51=>
 apW [T.c (nx v50 0)] true (cnt 1 (nxc k35 0)) (cnt 1 [T.c (nx v50 0)]) 8 (
 ixW (cnt 8 c0) (nx x34 0) fun t91_53=>
 ldc c0 [] (((AD t91_53)*8)+1) fun t93_54=>
 cl2 C 121 C0.sg [] [] fun v55 d56=>
 ixW (cnt 8 k44) (nx x34 0) fun t96_57=>
 stg k44 [] ((AD t96_57)*8) [T.c (.bool false),T.c t93_54,T.c (.int .i64 0),T.c (.int .i64 0),T.c (.int .i64 0),T.c (.int .i64 0),T.l 1 (nxc d56 0),T.c (.bool false)] fun k58=>
 j42 [(nx x34 0)] [((nxc k35 0)++[T.c (nx v50 0)]),(nxc k35 1),k58,(nxc k35 3),(nxc k35 4),(nxc k35 5)])) (
 j42 [(nx x34 0)] [(nxc k35 0),(nxc k35 1),k44,(nxc k35 3),(nxc k35 4),(nxc k35 5)])) (
 BE (fun r62 x60 k61=>
 prP (bnI .lss (nx x60 0) (iv (cnt 8 (nxc k61 1)))) fun t101_64=>
 AX t101_64 (
 BK (fun x66 k67=>
 prP (bnI .add (nx x66 0) (.int .i64 1)) fun t103_82=>
 r62 [t103_82] [(nxc k67 0),(nxc k67 1),(nxc k67 2),(nxc k67 3),(nxc k67 4)]) fun j68=>
 ixW (cnt 8 (nxc k61 1)) (nx x60 0) fun t107_69=>
 ldc (nxc k61 1) [] ((AD t107_69)*8) fun t109_70=>
 AX t109_70 (
 ixW (cnt 8 (nxc k61 1)) (nx x60 0) fun t116_71=>
 ldc (nxc k61 1) [] (((AD t116_71)*8)+3) fun t118_72=>
 ixW (cnt 8 (nxc k61 1)) (nx x60 0) fun t122_73=>
 ldc (nxc k61 1) [] (((AD t122_73)*8)+4) fun t124_74=>
 prP (bnI .add t118_72 t124_74) fun t125_75=>
 cl2 C 88 DN.sg [(nx x60 0)] [(nxc k61 1),(nxc k61 2),(nxc k61 3),(nxc k61 4)] fun v76 d77=>
 prP (bnI .add t125_75 (nx v76 0)) fun t129_79=>
 ixW (cnt 8 (nxc k61 1)) (nx x60 0) fun t130_80=>
 stc (nxc k61 1) [] (((AD t130_80)*8)+5) t129_79 fun k81=>
 j68 [(nx x60 0)] [(nxc k61 0),k81,(nxc k61 2),(nxc k61 3),(nxc k61 4)]) (
 j68 [(nx x60 0)] [(nxc k61 0),(nxc k61 1),(nxc k61 2),(nxc k61 3),(nxc k61 4)])) (
 K [] [(nxc k61 1),(nxc k61 2),[],(nxc k61 4),(nxc k61 0)])) [(.int .i64 0)] [(nxc k35 0),(nxc k35 2),(nxc k35 3),(nxc k35 4),(nxc k35 5)])) [(.int .i64 0)] [(nxc k20 0),(nxc d33 0),(nxc k20 1),(nxc k20 2),(nxc k20 3),(nxc k20 4)])) [(.int .i64 0)] [(nxc k7 0),(nxc k7 1),(nxc k7 2),(nxc k7 3),(nxc k7 4),(nxc k7 5),(nxc k7 6)])) [(.int .i64 0)] [[],(nxc d2 0),(nxc d2 1),(nxc d2 2),(nxc d2 3),(nxc d5 0),(nxc d5 1)])
theorem EW.cl2 {w0:World} {c0 c1 c2 c3:List T} {K:J2} (h:EW.txt ⟨Try.prog,w0⟩ c0 c1 c2 c3 K):Eng.cl2 ⟨Try.prog,w0⟩ 127 EW.sg [] [c0,c1,c2,c3] K:=
 AY (C:=⟨Try.prog,w0⟩) (f:=127) (fn:=Try.f127) [(122,CX.sg),(155,D4.sg),(24,BD.sg),(156,D7.sg),(157,D8.sg),(158,FQ.sg),(89,CA.sg),(61,CU.sg),(121,C0.sg),(88,DN.sg)] [(9,[0,0,0,0,8,0,56,120,252,511,1023]),(13,[0,0,0,0,8,0,56,120,252,511,1023]),(21,[0,1,0,0,8,0,56,120,248,0,1016,2047,4095]),(26,[0,1,0,0,8,0,56,120,248,0,512,0,3584,7680,15872,32760,0,0,196608,524280,1048575,2097151,4194303])] [(16361,⟨[.p (.j 0) 0, .p (.j 1) 0, .p (.j 2) 0, .t (.j 3) 1, .t (.j 4) 1, .v],[],[.bx [.t (.f 0) 8, .t (.f 1) 2, .t (.f 2) 1, .t (.f 3) 1], .bx [.z, .z, .z, .z], .bx [.t (.j 5) 8, .t (.j 6) 2, .t (.j 7) 1, .t (.j 8) 1], .ls, .ls, .ls, .ls, .ls, .ls]⟩),(32745,⟨[.p (.j 0) 0, .p (.j 1) 0, .t (.j 2) 1, .v],[],[.bx [.z, .z, .z, .z], .bx [.t (.j 3) 8, .t (.j 4) 2, .t (.j 5) 1, .t (.j 6) 1], .ls, .ls, .ls, .ls, .ls]⟩),(8186,⟨[.p (.j 0) 0, .p (.j 1) 0, .t (.j 2) 1, .v],[],[.bx [.z, .z, .z, .z], .bx [.t (.j 3) 8, .t (.j 4) 2, .t (.j 5) 1, .t (.j 6) 1], .ls, .ls, .ls, .ls, .ls]⟩),(4090,⟨[.p (.j 0) 0, .p (.j 1) 0, .p (.j 2) 0, .t (.j 3) 1, .t (.j 4) 1, .v],[],[.bx [.t (.f 0) 8, .t (.f 1) 2, .t (.f 2) 1, .t (.f 3) 1], .bx [.z, .z, .z, .z], .bx [.t (.j 5) 8, .t (.j 6) 2, .t (.j 7) 1, .t (.j 8) 1], .ls, .ls, .ls, .ls, .ls, .ls]⟩),(1018,⟨[.p (.j 0) 0, .p (.j 1) 0, .p (.j 2) 0, .t (.j 3) 1, .p (.j 4) 0, .v],[],[.bx [.t (.f 0) 8, .t (.f 1) 2, .t (.f 2) 1, .t (.f 3) 1], .bx [.z, .z, .z, .z], .bx [.t (.j 5) 8, .t (.j 6) 2, .t (.j 7) 1, .t (.j 8) 1], .ls, .bx [.t (.j 9) 1, .t (.j 10) 1], .ls, .ls, .ls, .ls, .ls, .ls]⟩),(506,⟨[.p (.j 0) 0, .p (.j 1) 0, .p (.j 2) 0, .t (.j 3) 1, .p (.j 4) 0, .v],[],[.bx [.t (.f 0) 8, .t (.f 1) 2, .t (.f 2) 1, .t (.f 3) 1], .bx [.z, .z, .z, .z], .bx [.t (.j 5) 8, .t (.j 6) 2, .t (.j 7) 1, .t (.j 8) 1], .ls, .bx [.t (.j 9) 1, .t (.j 10) 1], .ls, .ls, .ls, .ls, .ls, .ls]⟩)] Try.func127 (by kernel_rfl) (by kernel_rfl) (by kernel_rfl) h
def FF.sg:Sg:=⟨[(1,[.t 8 0, .t 2 0, .t 1 0, .t 1 0]),(1,[.v, .v, .v, .v, .v])],[(1,[.t 8, .t 2, .t 1, .t 1]),(1,[.v, .v, .t 1])],[]⟩
def FF.txt (C:Ctx) (a0 a1 a2 a3 a4:Value) (c0 c1 c2 c3:List T) (K:J2):Prop:=
 cl2 C 122 CX.sg [] [c0,c1,c2,c3] fun v1 d2=>
 cl2 C 19 DF.sg [] [c0,c1,c2,c3] fun v3 d4=>
 prP (un .not (nx v3 0)) fun t13_6=>
 AX t13_6 (
 K [(.int .i64 2),(.int .i64 0)] [(nxc d2 0),(nxc d2 1),(nxc d2 2),(nxc d2 3),[]]) (
 prP (bnI .eql a0 (.int .i64 1)) fun t19_7=>
 AX t19_7 (
 cl2 C 123 ES.sg [a0,a1,a2,a3,a4] [(nxc d2 0),(nxc d2 1),(nxc d2 2),(nxc d2 3)] fun v8 d9=>
 K [(nx v8 0),(nx v8 1)] [(nxc d9 0),(nxc d2 1),(nxc d2 2),(nxc d9 1),(nxc d9 2)]) (
 BK (fun x11 k12=>
 AX (nx x11 1) (
 cl2 C 124 FN.sg [(nx x11 2),(nx x11 3),(nx x11 4),(nx x11 5),(nx x11 6)] [(nxc k12 0),(nxc k12 1),(nxc k12 2),(nxc k12 3)] fun v18 d19=>
 K [(nx v18 0),(nx v18 1)] [(nxc d19 0),(nxc d19 1),(nxc d19 2),(nxc d19 3),(nxc d19 4)]) (
 prP (bnI .eql (nx x11 0) (.int .i64 4)) fun t36_20=>
 AX t36_20 (
 cl2 C 125 ER.sg [(nx x11 2),(nx x11 3),(nx x11 4),(nx x11 5),(nx x11 6)] [(nxc k12 0),(nxc k12 1),(nxc k12 2),(nxc k12 3)] fun v21 d22=>
 K [(nx v21 0),(nx v21 1)] [(nxc d22 0),(nxc d22 1),(nxc d22 2),(nxc d22 3),(nxc d22 4)]) (
 BK (fun x24 k25=>
 AX (nx x24 1) (
 cl2 C 126 FP.sg [(nx x24 2),(nx x24 3),(nx x24 4),(nx x24 5),(nx x24 6)] [(nxc k25 0),(nxc k25 1),(nxc k25 2),(nxc k25 3)] fun v30 d31=>
 K [(nx v30 0),(nx v30 1)] [(nxc k25 0),(nxc d31 0),(nxc k25 2),(nxc k25 3),(nxc d31 1)]) (
 prP (bnI .eql (nx x24 0) (.int .i64 10)) fun t52_32=>
 AX t52_32 (
 cl2 C 127 EW.sg [] [(nxc k25 0),(nxc k25 1),(nxc k25 2),(nxc k25 3)] fun v33 d34=>
 K [(.int .i64 0),(.int .i64 0)] [(nxc d34 0),(nxc d34 1),(nxc d34 2),(nxc d34 3),(nxc d34 4)]) (
 K [(.int .i64 2),(.int .i64 0)] [(nxc k25 0),(nxc k25 1),(nxc k25 2),(nxc k25 3),[]]))) fun j26=>
 prP (bnI .eql (nx x11 0) (.int .i64 7)) fun t43_27=>
 AX t43_27 (
 j26 [(nx x11 0),t43_27,(nx x11 2),(nx x11 3),(nx x11 4),(nx x11 5),(nx x11 6),(nx x11 7),(nx x11 8)] [(nxc k12 0),(nxc k12 1),(nxc k12 2),(nxc k12 3)]) (
 prP (bnI .eql (nx x11 0) (.int .i64 8)) fun t44_28=>
 AX t44_28 (
 j26 [(nx x11 0),t44_28,(nx x11 2),(nx x11 3),(nx x11 4),(nx x11 5),(nx x11 6),(nx x11 7),(nx x11 8)] [(nxc k12 0),(nxc k12 1),(nxc k12 2),(nxc k12 3)]) (
 prP (bnI .eql (nx x11 0) (.int .i64 9)) fun t45_29=>
 j26 [(nx x11 0),t45_29,(nx x11 2),(nx x11 3),(nx x11 4),(nx x11 5),(nx x11 6),(nx x11 7),(nx x11 8)] [(nxc k12 0),(nxc k12 1),(nxc k12 2),(nxc k12 3)]))))) fun j13=>
 prP (bnI .eql a0 (.int .i64 2)) fun t26_14=>
 AX t26_14 (
 j13 [a0,t26_14,a0,a1,a2,a3,a4,(.int .i64 0),(.int .i64 0)] [(nxc d2 0),(nxc d2 1),(nxc d2 2),(nxc d2 3)]) (
 prP (bnI .eql a0 (.int .i64 3)) fun t27_15=>
 AX t27_15 (
 j13 [a0,t27_15,a0,a1,a2,a3,a4,(.int .i64 0),(.int .i64 0)] [(nxc d2 0),(nxc d2 1),(nxc d2 2),(nxc d2 3)]) (
 prP (bnI .eql a0 (.int .i64 5)) fun t28_16=>
 AX t28_16 (
 j13 [a0,t28_16,a0,a1,a2,a3,a4,(.int .i64 0),(.int .i64 0)] [(nxc d2 0),(nxc d2 1),(nxc d2 2),(nxc d2 3)]) (
 prP (bnI .eql a0 (.int .i64 6)) fun t29_17=>
 j13 [a0,t29_17,a0,a1,a2,a3,a4,(.int .i64 0),(.int .i64 0)] [(nxc d2 0),(nxc d2 1),(nxc d2 2),(nxc d2 3)])))))
theorem FF.cl2 {w0:World} {a0 a1 a2 a3 a4:Value} {c0 c1 c2 c3:List T} {K:J2} (h:FF.txt ⟨Try.prog,w0⟩ a0 a1 a2 a3 a4 c0 c1 c2 c3 K):Eng.cl2 ⟨Try.prog,w0⟩ 76 FF.sg [a0,a1,a2,a3,a4] [c0,c1,c2,c3] K:=
 AY (C:=⟨Try.prog,w0⟩) (f:=76) (fn:=Try.f76) [(122,CX.sg),(19,DF.sg),(123,ES.sg),(124,FN.sg),(125,ER.sg),(126,FP.sg),(127,EW.sg)] [] [(491,⟨[.p (.j 0) 0, .p (.j 1) 0, .p (.j 2) 0, .p (.j 3) 0, .v, .v],[],[.bx [.v, .v, .v, .v, .v], .bx [.z, .z, .z, .z], .bx [.v, .v, .z], .bx [.t (.j 4) 8, .t (.j 5) 2, .t (.j 6) 1, .t (.j 7) 1], .ls, .ls, .ls, .ls]⟩),(7871,⟨[.p (.j 0) 0, .p (.j 1) 0, .p (.j 2) 0, .p (.j 3) 0, .v, .v],[],[.bx [.v, .v, .v, .v, .v], .bx [.z, .z, .z, .z], .bx [.v, .v, .z], .bx [.t (.j 4) 8, .t (.j 5) 2, .t (.j 6) 1, .t (.j 7) 1], .ls, .ls, .ls, .ls]⟩)] Try.func76 (by kernel_rfl) (by kernel_rfl) (by kernel_rfl) h
def GM.sg:Sg:=⟨[(2,[.t 1 0, .v, .v]),(0,[.v])],[(0,[.t 5])],[[.a 0, .v, .v]]⟩
def GM.txt (C:Ctx) (a0 a1 a2:Value) (c0:List T) (K:J2):Prop:=
 cl2 C 74 DQ.sg [] [] fun v1 d2=>
 prP (bnI .add a2 (.int .i64 1)) fun t15_3=>
 cl2 C 112 BU.sg [a0,a1,t15_3] [c0] fun v4 d5=>
 BE (fun r8 x6 k7=>
 prP (bnI .gtr (nx x6 0) (.int .i64 0)) fun t18_10=>
 AX t18_10 (
 cl2 C 128 HK.sg [(nx x6 1),(nx x6 2)] [c0,(nxc k7 1),(nxc k7 2),(nxc k7 3),(nxc k7 4)] fun v11 d12=>
 cl2 C 76 FF.sg [(nx v11 0),(nx v11 1),(nx v11 2),(nx v11 3),(nx v11 4)] [(nxc k7 1),(nxc k7 2),(nxc k7 3),(nxc k7 4)] fun v13 d14=>
 apW [T.c (nx v11 0),T.c (nx v11 1),T.c (nx v11 2),T.c (nx v11 3),T.c (nx v11 4)] true (cnt 5 (nxc k7 0)) (cnt 5 [T.c (nx v11 0),T.c (nx v11 1),T.c (nx v11 2),T.c (nx v11 3),T.c (nx v11 4)]) 48 (
 prP (bnI .sub (nx x6 0) (.int .i64 1)) fun t20_15=>
 r8 [t20_15,(nx v11 5),(nx v11 6)] [((nxc k7 0)++[T.c (nx v11 0),T.c (nx v11 1),T.c (nx v11 2),T.c (nx v11 3),T.c (nx v11 4)]),(nxc d14 0),(nxc d14 1),(nxc d14 2),(nxc d14 3)])) (
 K [(nx x6 1),(nx x6 2)] [(nxc k7 0)])) [(nx v4 0),(nx v4 1),(nx v4 2)] [[],(nxc d2 0),(nxc d2 1),(nxc d2 2),(nxc d2 3)]
theorem GM.cl2 {w0:World} {a0 a1 a2:Value} {c0:List T} {K:J2} (h:GM.txt ⟨Try.prog,w0⟩ a0 a1 a2 c0 K):Eng.cl2 ⟨Try.prog,w0⟩ 108 GM.sg [a0,a1,a2] [c0] K:=
 AY (C:=⟨Try.prog,w0⟩) (f:=108) (fn:=Try.f108) [(74,DQ.sg),(112,BU.sg),(128,HK.sg),(76,FF.sg)] [] [(122,⟨[.p (.j 0) 0, .p (.j 1) 0, .t (.j 2) 5, .v],[.p (.j 0) 0, .t (.f 0) 1],[.bx [.t (.f 0) 1, .v, .v], .bx [.t (.j 3) 8, .t (.j 4) 2, .t (.j 5) 1, .t (.j 6) 1], .ls, .ls, .ls, .ls, .ls]⟩)] Try.func108 (by kernel_rfl) (by kernel_rfl) (by kernel_rfl) h
def JV.sg:Sg:=⟨[(0,[.v]),(0,[.v]),(0,[.v])],[(0,[.v])],[]⟩
def JV.txt (C:Ctx) (a0 a1 a2:Value) (K:J2):Prop:=
 prP (bnI .geq a0 a1) fun t9_1=>
 gE t9_1 (
 gE t9_1 (
 gP t9_1 true (prP (bnI .leq a0 a2)) fun t13_2=>
 prP (pk t9_1 t13_2 (.bool false)) fun t14_3=>
 K [t14_3] []))
theorem JV.cl2 {w0:World} {a0 a1 a2:Value} {K:J2} (h:JV.txt ⟨Try.prog,w0⟩ a0 a1 a2 K):Eng.cl2 ⟨Try.prog,w0⟩ 131 JV.sg [a0,a1,a2] [] K:=
 AY (C:=⟨Try.prog,w0⟩) (f:=131) (fn:=Try.f131) [] [] [] Try.func131 (by kernel_rfl) (by kernel_rfl) (by kernel_rfl) h
def F8.sg:Sg:=⟨[(0,[.v]),(0,[.v])],[(0,[.v])],[]⟩
def F8.txt (C:Ctx) (a0 a1:Value) (K:J2):Prop:=
 cl2 C 131 JV.sg [a0,(.int .i64 0),(.int .i64 7)] [] fun v1 d2=>
 prP (un .not (nx v1 0)) fun t7_4=>
 gE t7_4 (
 gP t7_4 false ((fun K=>cl2 C 131 JV.sg [a1,(.int .i64 1),(.int .i64 999)] [] fun v5 d6=>K (nx v5 0))) fun t10_7=>
 gP t7_4 false (prP (un .not t10_7)) fun t11_8=>
 prP (pk t7_4 (.bool true) t11_8) fun t12_9=>
 AX t12_9 (
 K [(.int .i64 (-1))] []) (
 prP (bnI .mul (.int .i64 8) a1) fun t15_10=>
 prP (bnI .add a0 t15_10) fun t16_11=>
 K [t16_11] []))
theorem F8.cl2 {w0:World} {a0 a1:Value} {K:J2} (h:F8.txt ⟨Try.prog,w0⟩ a0 a1 K):Eng.cl2 ⟨Try.prog,w0⟩ 98 F8.sg [a0,a1] [] K:=
 AY (C:=⟨Try.prog,w0⟩) (f:=98) (fn:=Try.f98) [(131,JV.sg)] [] [] Try.func98 (by kernel_rfl) (by kernel_rfl) (by kernel_rfl) h
def DK.sg:Sg:=⟨[(1,[.t 8 0, .t 2 0, .t 1 0, .t 1 0]),(0,[.v])],[(0,[.v])],[]⟩
def DK.txt (C:Ctx) (a0:Value) (c0 c1 c2 c3:List T) (K:J2):Prop:=
 prP (bnI .lss a0 (.int .i64 8)) fun t8_1=>
 gE t8_1 (
 gE t8_1 (
 gE t8_1 (
 gP t8_1 false (prP (bnI .neq (iv (cnt 8 c0)) (.int .i64 8))) fun t13_2=>
 prP (pk t8_1 (.bool true) t13_2) fun t14_3=>
 AX t14_3 (
 K [(.int .i64 (-1))] []) (
 prP (bnI .rem a0 (.int .i64 8)) fun t16_4=>
 ixW (cnt 8 c0) t16_4 fun t20_5=>
 ldg c0 [] ((AD t20_5)*8) [.c, .c, .c, .c, .c, .c, .l 1, .c] fun ts6=>
 prP (un .not (tv (nxT ts6 0))) fun t24_7=>
 gE t24_7 (
 gE t24_7 (
 gE t24_7 (
 gP t24_7 false (prP (bnI .quo a0 (.int .i64 8))) fun t29_8=>
 gP t24_7 false (prP (bnI .neq (tv (nxT ts6 1)) t29_8)) fun t30_9=>
 prP (pk t24_7 (.bool true) t30_9) fun t31_10=>
 AX t31_10 (
 K [(.int .i64 (-1))] []) (
 K [t16_4] []))))))))
theorem DK.cl2 {w0:World} {a0:Value} {c0 c1 c2 c3:List T} {K:J2} (h:DK.txt ⟨Try.prog,w0⟩ a0 c0 c1 c2 c3 K):Eng.cl2 ⟨Try.prog,w0⟩ 81 DK.sg [a0] [c0,c1,c2,c3] K:=
 AY (C:=⟨Try.prog,w0⟩) (f:=81) (fn:=Try.f81) [] [] [] Try.func81 (by kernel_rfl) (by kernel_rfl) (by kernel_rfl) h
end Go.Proofs.Ytklmcfpgdfibnaa.P
