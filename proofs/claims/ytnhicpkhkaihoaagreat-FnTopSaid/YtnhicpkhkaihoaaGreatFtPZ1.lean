/- A part of the proof. -/
import Derived.Test.YtnhicpkhkaihoaaGreatChecked
import Derived.Test.YtnhicpkhkaihoaaGreatFtPZ0
import Derived.KernelRfl
namespace Go.Proofs.YtnhicpkhkaihoaaGreat.P
open Go Go.Proofs.YtnhicpkhkaihoaaGreat Go.Proofs.YtnhicpkhkaihoaaGreat.Eng
set_option linter.unusedVariables false
set_option maxRecDepth 100000
def GB.sg:Sg:=⟨[(1,[.t 8 0, .t 2 0, .t 1 0, .t 1 0]),(1,[.t 1 0, .t 1 0]),(0,[.v])],[(1,[.t 1, .t 1])],[]⟩
def GB.txt (C:Ctx) (a0:Value) (c0 c1 c2 c3 c4 c5:List T) (K:J2):Prop:=
 cl2 C 185 GU.sg [] [c4,c5] fun v1 d2=>
 cl2 C 186 IV.sg [a0] [c0,c1,c2,c3,c4,c5] fun v3 d4=>
 prP (un .not (nx v3 0)) fun t18_6=>
 gE t18_6 (
 gE t18_6 (
 gE t18_6 (
 gP t18_6 false (ixW (cnt 1 c5) a0) fun t23_7=>
 gP t18_6 false (ldc c5 [] ((AA t23_7)*1)) fun t24_8=>
 gP t18_6 false (prP (bnI .eql t24_8 (.int .i64 1))) fun t25_9=>
 prP (pk t18_6 (.bool true) t25_9) fun t26_10=>
 AV t26_10 (
 K [] [(nxc d2 0),(nxc d2 1)]) (
 ixW (cnt 1 (nxc d2 1)) a0 fun t31_11=>
 stc (nxc d2 1) [] ((AA t31_11)*1) (.int .i64 1) fun k12=>
 BC (fun r15 x13 k14=>
 prP (bnI .gtr (iv (AA (nx x13 0))) (.int .i64 0)) fun t36_57=>
 AV t36_57 (
 prP (bnI .sub (iv (AA (nx x13 0))) (.int .i64 1)) fun t40_58=>
 ixW (AA (nx x13 0)) t40_58 fun t41_59=>
 ldc (nxc k14 0) [] ((AA (nx x13 1))+((AA t41_59)*1)) fun t42_60=>
 prP (bnI .sub (iv (AA (nx x13 0))) (.int .i64 1)) fun t46_61=>
 scW (AA (nx x13 0)) none (some t46_61) fun l62 m63=>
 cl2 C 187 E9.sg [t42_60] [c0,c1,c2,c3] fun v64 d65=>
 BC (fun r68 x66 k67=>
 prP (bnI .lss (nx x66 2) (iv (cnt 1 (nxc k67 1)))) fun t54_70=>
 AV t54_70 (
 BW (fun x72 k73=>
 prP (bnI .add (nx x72 2) (.int .i64 1)) fun t56_95=>
 r68 [(iv (AA (nx x72 0))),(iv (AA (nx x72 1))),t56_95] [(nxc k73 0),(nxc k73 1),(nxc k73 2),(nxc k73 3)]) fun j74=>
 ixW (cnt 1 (nxc k67 1)) (nx x66 2) fun t61_75=>
 ldc (nxc k67 1) [] ((AA t61_75)*1) fun t62_76=>
 ixW (cnt 1 (nxc k67 1)) (nx x66 2) fun t67_77=>
 ldc (nxc k67 1) [] ((AA t67_77)*1) fun t68_78=>
 ixW (cnt 1 (nxc k67 2)) t68_78 fun t69_79=>
 ldc (nxc k67 2) [] ((AA t69_79)*1) fun t70_80=>
 prP (bnI .sub t70_80 (.int .i64 1)) fun t71_81=>
 ixW (cnt 1 (nxc k67 2)) t62_76 fun t72_82=>
 stc (nxc k67 2) [] ((AA t72_82)*1) t71_81 fun k83=>
 ixW (cnt 1 (nxc k67 1)) (nx x66 2) fun t77_84=>
 ldc (nxc k67 1) [] ((AA t77_84)*1) fun t78_85=>
 ixW (cnt 1 (nxc k67 3)) t78_85 fun t79_86=>
 ldc (nxc k67 3) [] ((AA t79_86)*1) fun t80_87=>
 prP (bnI .neq t80_87 (.int .i64 1)) fun t81_88=>
 AV t81_88 (
 ixW (cnt 1 (nxc k67 1)) (nx x66 2) fun t86_89=>
 ldc (nxc k67 1) [] ((AA t86_89)*1) fun t87_90=>
 ixW (cnt 1 (nxc k67 3)) t87_90 fun t88_91=>
 stc (nxc k67 3) [] ((AA t88_91)*1) (.int .i64 1) fun k92=>
 ixW (cnt 1 (nxc k67 1)) (nx x66 2) fun t92_93=>
 ldc (nxc k67 1) [] ((AA t92_93)*1) fun t93_94=>
 apW [T.c t93_94] true (AA (nx x66 0)) (cnt 1 [T.c t93_94]) 8 (
 j74 [(iv (cnt 1 ((IP (nxc k67 0) [] (AA (nx x66 1)) ((AA (nx x66 0))*1))++[T.c t93_94]))),(iv 0),(nx x66 2)] [((IP (nxc k67 0) [] (AA (nx x66 1)) ((AA (nx x66 0))*1))++[T.c t93_94]),(nxc k67 1),k83,k92])) (
 j74 [(iv (AA (nx x66 0))),(iv (AA (nx x66 1))),(nx x66 2)] [(nxc k67 0),(nxc k67 1),k83,(nxc k67 3)])) (
 r15 [(iv (AA (nx x66 0))),(iv (AA (nx x66 1)))] [(nxc k67 0),(nxc k67 2),(nxc k67 3)])) [(iv (AA m63)),(iv ((AA (nx x13 1))+((AA l62)*1))),(.int .i64 0)] [(nxc k14 0),(nxc d65 0),(nxc k14 1),(nxc k14 2)]) (
 K [] [(nxc k14 1),(nxc k14 2)])) [(iv (cnt 1 [T.c a0])),(iv 0)] [[T.c a0],(nxc d2 0),k12]))))
theorem GB.cl2 {w0:World} {a0:Value} {c0 c1 c2 c3 c4 c5:List T} {K:J2} (h:GB.txt ⟨Tryz.prog,w0⟩ a0 c0 c1 c2 c3 c4 c5 K):Eng.cl2 ⟨Tryz.prog,w0⟩ 161 GB.sg [a0] [c0,c1,c2,c3,c4,c5] K:=
 AD (C:=⟨Tryz.prog,w0⟩) (f:=161) (fn:=Tryz.f161) [(185,GU.sg),(186,IV.sg),(187,E9.sg)] [(13,[0,1,0,0,12,28,0,64,0,0,768,1792,4032,8128,16320,32767,65535]),(14,[0,1,0,0,12,28,63,127,255]),(15,[0,1,0,0,12,28,63,127])] [(258425,⟨[.p (.j 0) 0, .p (.j 1) 0, .p (.j 2) 0, .s (.j 3) 0 1, .t (.j 4) 1, .v],[],[.bx [.t (.f 0) 8, .t (.f 1) 2, .t (.f 2) 1, .t (.f 3) 1], .bx [.z, .z], .bx [.t (.j 5) 1, .t (.j 6) 1], .ls, .ls, .ls, .ls]⟩),(64606,⟨[.p (.j 0) 0, .p (.j 1) 0, .p (.j 2) 0, .s (.j 3) 0 1, .t (.j 4) 1, .v],[],[.bx [.t (.f 0) 8, .t (.f 1) 2, .t (.f 2) 1, .t (.f 3) 1], .bx [.z, .z], .bx [.t (.j 5) 1, .t (.j 6) 1], .ls, .ls, .ls, .ls]⟩),(252,⟨[.p (.j 0) 0, .p (.j 1) 0, .p (.j 2) 0, .s (.j 3) 0 1],[],[.bx [.t (.f 0) 8, .t (.f 1) 2, .t (.f 2) 1, .t (.f 3) 1], .bx [.z, .z], .bx [.t (.j 4) 1, .t (.j 5) 1], .ls, .ls, .ls]⟩)] Tryz.func161 (by kernel_rfl) (by kernel_rfl) (by kernel_rfl) h
def G9.sg:Sg:=⟨[(1,[.t 8 0, .t 2 0, .t 1 0, .t 1 0]),(1,[.t 1 2, .t 1 2]),(0,[.v])],[(1,[.t 1, .t 1])],[]⟩
def G9.txt (C:Ctx) (a0:Value) (c0 c1 c2 c3 c4 c5:List T) (K:J2):Prop:=
 ixW (cnt 1 c5) a0 fun t14_1=>
 stc c5 [] ((AA t14_1)*1) (.int .i64 0) fun k2=>
 BC (fun r5 x3 k4=>
 prP (bnI .gtr (iv (AA (nx x3 0))) (.int .i64 0)) fun t19_47=>
 AV t19_47 (
 prP (bnI .sub (iv (AA (nx x3 0))) (.int .i64 1)) fun t23_48=>
 ixW (AA (nx x3 0)) t23_48 fun t24_49=>
 ldc (nxc k4 0) [] ((AA (nx x3 1))+((AA t24_49)*1)) fun t25_50=>
 prP (bnI .sub (iv (AA (nx x3 0))) (.int .i64 1)) fun t29_51=>
 scW (AA (nx x3 0)) none (some t29_51) fun l52 m53=>
 cl2 C 187 E9.sg [t25_50] [c0,c1,c2,c3] fun v54 d55=>
 BC (fun r58 x56 k57=>
 prP (bnI .lss (nx x56 2) (iv (cnt 1 (nxc k57 1)))) fun t37_60=>
 AV t37_60 (
 BW (fun x62 k63=>
 prP (bnI .add (nx x62 2) (.int .i64 1)) fun t39_85=>
 r58 [(iv (AA (nx x62 0))),(iv (AA (nx x62 1))),t39_85] [(nxc k63 0),(nxc k63 1),(nxc k63 2),(nxc k63 3)]) fun j64=>
 ixW (cnt 1 (nxc k57 1)) (nx x56 2) fun t44_65=>
 ldc (nxc k57 1) [] ((AA t44_65)*1) fun t45_66=>
 ixW (cnt 1 (nxc k57 1)) (nx x56 2) fun t50_67=>
 ldc (nxc k57 1) [] ((AA t50_67)*1) fun t51_68=>
 ixW (cnt 1 (nxc k57 2)) t51_68 fun t52_69=>
 ldc (nxc k57 2) [] ((AA t52_69)*1) fun t53_70=>
 prP (bnI .add t53_70 (.int .i64 1)) fun t54_71=>
 ixW (cnt 1 (nxc k57 2)) t45_66 fun t55_72=>
 stc (nxc k57 2) [] ((AA t55_72)*1) t54_71 fun k73=>
 ixW (cnt 1 (nxc k57 1)) (nx x56 2) fun t60_74=>
 ldc (nxc k57 1) [] ((AA t60_74)*1) fun t61_75=>
 ixW (cnt 1 (nxc k57 3)) t61_75 fun t62_76=>
 ldc (nxc k57 3) [] ((AA t62_76)*1) fun t63_77=>
 prP (bnI .neq t63_77 (.int .i64 0)) fun t64_78=>
 AV t64_78 (
 ixW (cnt 1 (nxc k57 1)) (nx x56 2) fun t69_79=>
 ldc (nxc k57 1) [] ((AA t69_79)*1) fun t70_80=>
 ixW (cnt 1 (nxc k57 3)) t70_80 fun t71_81=>
 stc (nxc k57 3) [] ((AA t71_81)*1) (.int .i64 0) fun k82=>
 ixW (cnt 1 (nxc k57 1)) (nx x56 2) fun t75_83=>
 ldc (nxc k57 1) [] ((AA t75_83)*1) fun t76_84=>
 apW [T.c t76_84] true (AA (nx x56 0)) (cnt 1 [T.c t76_84]) 8 (
 j64 [(iv (cnt 1 ((IP (nxc k57 0) [] (AA (nx x56 1)) ((AA (nx x56 0))*1))++[T.c t76_84]))),(iv 0),(nx x56 2)] [((IP (nxc k57 0) [] (AA (nx x56 1)) ((AA (nx x56 0))*1))++[T.c t76_84]),(nxc k57 1),k73,k82])) (
 j64 [(iv (AA (nx x56 0))),(iv (AA (nx x56 1))),(nx x56 2)] [(nxc k57 0),(nxc k57 1),k73,(nxc k57 3)])) (
 r5 [(iv (AA (nx x56 0))),(iv (AA (nx x56 1)))] [(nxc k57 0),(nxc k57 2),(nxc k57 3)])) [(iv (AA m53)),(iv ((AA (nx x3 1))+((AA l52)*1))),(.int .i64 0)] [(nxc k4 0),(nxc d55 0),(nxc k4 1),(nxc k4 2)]) (
 K [] [(nxc k4 1),(nxc k4 2)])) [(iv (cnt 1 [T.c a0])),(iv 0)] [[T.c a0],c4,k2]
theorem G9.cl2 {w0:World} {a0:Value} {c0 c1 c2 c3 c4 c5:List T} {K:J2} (h:G9.txt ⟨Tryz.prog,w0⟩ a0 c0 c1 c2 c3 c4 c5 K):Eng.cl2 ⟨Tryz.prog,w0⟩ 188 G9.sg [a0] [c0,c1,c2,c3,c4,c5] K:=
 AD (C:=⟨Tryz.prog,w0⟩) (f:=188) (fn:=Tryz.f188) [(187,E9.sg)] [(10,[0,1,0,0,12,28,0,64,0,0,768,1792,4032,8128,16320,32767,65535]),(11,[0,1,0,0,12,28,63,127,255]),(12,[0,1,0,0,12,28,63,127])] [(61817,⟨[.p (.j 0) 0, .p (.j 1) 0, .p (.j 2) 0, .s (.j 3) 0 1, .t (.j 4) 1, .v],[],[.bx [.t (.f 0) 8, .t (.f 1) 2, .t (.f 2) 1, .t (.f 3) 1], .bx [.t (.j 5) 1, .t (.j 6) 1], .bx [.z, .z], .ls, .ls, .ls, .ls]⟩),(15454,⟨[.p (.j 0) 0, .p (.j 1) 0, .p (.j 2) 0, .s (.j 3) 0 1, .t (.j 4) 1, .v],[],[.bx [.t (.f 0) 8, .t (.f 1) 2, .t (.f 2) 1, .t (.f 3) 1], .bx [.t (.j 5) 1, .t (.j 6) 1], .bx [.z, .z], .ls, .ls, .ls, .ls]⟩),(60,⟨[.p (.j 0) 0, .p (.j 1) 0, .p (.j 2) 0, .s (.j 3) 0 1],[],[.bx [.t (.f 0) 8, .t (.f 1) 2, .t (.f 2) 1, .t (.f 3) 1], .bx [.t (.j 4) 1, .t (.j 5) 1], .bx [.z, .z], .ls, .ls, .ls]⟩)] Tryz.func188 (by kernel_rfl) (by kernel_rfl) (by kernel_rfl) h
def GK.sg:Sg:=⟨[(1,[.t 8 0, .t 2 0, .t 1 0, .t 1 0]),(1,[.t 1 0, .t 1 0]),(0,[.v])],[(1,[.t 1, .t 1])],[]⟩
def GK.txt (C:Ctx) (a0:Value) (c0 c1 c2 c3 c4 c5:List T) (K:J2):Prop:=
 cl2 C 185 GU.sg [] [c4,c5] fun v1 d2=>
 cl2 C 186 IV.sg [a0] [c0,c1,c2,c3,c4,c5] fun v3 d4=>
 prP (un .not (nx v3 0)) fun t16_6=>
 AV t16_6 (
 K [] [(nxc d2 0),(nxc d2 1)]) (
 BC (fun r9 x7 k8=>
 prP (bnI .gtr (iv (AA (nx x7 0))) (.int .i64 0)) fun t22_31=>
 AV t22_31 (
 prP (bnI .sub (iv (AA (nx x7 0))) (.int .i64 1)) fun t26_32=>
 ixW (AA (nx x7 0)) t26_32 fun t27_33=>
 ldc (nxc k8 0) [] ((AA (nx x7 1))+((AA t27_33)*1)) fun t28_34=>
 prP (bnI .sub (iv (AA (nx x7 0))) (.int .i64 1)) fun t32_35=>
 scW (AA (nx x7 0)) none (some t32_35) fun l36 m37=>
 ixW (cnt 1 (nxc k8 2)) t28_34 fun t37_38=>
 ldc (nxc k8 2) [] ((AA t37_38)*1) fun t38_39=>
 prP (bnI .neq t38_39 (.int .i64 1)) fun t39_40=>
 AV t39_40 (
 r9 [(iv (AA m37)),(iv ((AA (nx x7 1))+((AA l36)*1)))] [(nxc k8 0),(nxc k8 1),(nxc k8 2)]) (
 ixW (cnt 1 (nxc k8 1)) t28_34 fun t43_41=>
 ldc (nxc k8 1) [] ((AA t43_41)*1) fun t44_42=>
 prP (bnI .gtr t44_42 (.int .i64 0)) fun t45_43=>
 AV t45_43 (
 cl2 C 188 G9.sg [t28_34] [c0,c1,c2,c3,(nxc k8 1),(nxc k8 2)] fun v44 d45=>
 r9 [(iv (AA m37)),(iv ((AA (nx x7 1))+((AA l36)*1)))] [(nxc k8 0),(nxc d45 0),(nxc d45 1)]) (
 ixW (cnt 1 (nxc k8 2)) t28_34 fun t53_46=>
 stc (nxc k8 2) [] ((AA t53_46)*1) (.int .i64 2) fun k47=>
 cl2 C 187 E9.sg [t28_34] [c0,c1,c2,c3] fun v48 d49=>
 apW (nxc d49 0) true (AA m37) (cnt 1 (nxc d49 0)) 8 (
 r9 [(iv (cnt 1 ((IP (nxc k8 0) [] ((AA (nx x7 1))+((AA l36)*1)) ((AA m37)*1))++(nxc d49 0)))),(iv 0)] [((IP (nxc k8 0) [] ((AA (nx x7 1))+((AA l36)*1)) ((AA m37)*1))++(nxc d49 0)),(nxc k8 1),k47])))) (
 K [] [(nxc k8 1),(nxc k8 2)])) [(iv (cnt 1 [T.c a0])),(iv 0)] [[T.c a0],(nxc d2 0),(nxc d2 1)])
theorem GK.cl2 {w0:World} {a0:Value} {c0 c1 c2 c3 c4 c5:List T} {K:J2} (h:GK.txt ⟨Tryz.prog,w0⟩ a0 c0 c1 c2 c3 c4 c5 K):Eng.cl2 ⟨Tryz.prog,w0⟩ 162 GK.sg [a0] [c0,c1,c2,c3,c4,c5] K:=
 AD (C:=⟨Tryz.prog,w0⟩) (f:=162) (fn:=Tryz.f162) [(185,GU.sg),(186,IV.sg),(188,G9.sg),(187,E9.sg)] [] [(124,⟨[.p (.j 0) 0, .p (.j 1) 0, .p (.j 2) 0, .s (.j 3) 0 1],[],[.bx [.t (.f 0) 8, .t (.f 1) 2, .t (.f 2) 1, .t (.f 3) 1], .bx [.z, .z], .bx [.t (.j 4) 1, .t (.j 5) 1], .ls, .ls, .ls]⟩)] Tryz.func162 (by kernel_rfl) (by kernel_rfl) (by kernel_rfl) h
def IC.sg:Sg:=⟨[(1,[.t 1 0, .t 1 0])],[(0,[.t 1])],[]⟩
def IC.txt (C:Ctx) (c0 c1:List T) (K:J2):Prop:=
 BC (fun r3 x1 k2=>
 prP (bnI .lss (nx x1 0) (iv (cnt 1 c1))) fun t10_5=>
 AV t10_5 (
 BW (fun x7 k8=>
 prP (bnI .add (nx x7 0) (.int .i64 1)) fun t12_13=>
 r3 [t12_13] [(nxc k8 0)]) fun j9=>
 ixW (cnt 1 c1) (nx x1 0) fun t16_10=>
 ldc c1 [] ((AA t16_10)*1) fun t17_11=>
 prP (bnI .eql t17_11 (.int .i64 2)) fun t18_12=>
 AV t18_12 (
 apW [T.c (nx x1 0)] true (cnt 1 (nxc k2 0)) (cnt 1 [T.c (nx x1 0)]) 8 (
 j9 [(nx x1 0)] [((nxc k2 0)++[T.c (nx x1 0)])])) (
 j9 [(nx x1 0)] [(nxc k2 0)])) (
 K [] [(nxc k2 0)])) [(.int .i64 0)] [[]]
theorem IC.cl2 {w0:World} {c0 c1:List T} {K:J2} (h:IC.txt ⟨Tryz.prog,w0⟩ c0 c1 K):Eng.cl2 ⟨Tryz.prog,w0⟩ 163 IC.sg [] [c0,c1] K:=
 AD (C:=⟨Tryz.prog,w0⟩) (f:=163) (fn:=Tryz.f163) [] [] [(233,⟨[.p (.j 0) 0, .t (.j 1) 1, .v],[],[.bx [.t (.f 0) 1, .t (.f 1) 1], .ls]⟩),(58,⟨[.p (.j 0) 0, .t (.j 1) 1, .v],[],[.bx [.t (.f 0) 1, .t (.f 1) 1], .ls]⟩)] Tryz.func163 (by kernel_rfl) (by kernel_rfl) (by kernel_rfl) h
def HB.sg:Sg:=⟨[(1,[.t 8 0, .t 2 0, .t 1 0, .t 1 0])],[(1,[.t 8, .t 2, .t 1, .t 1]),(0,[.t 1])],[]⟩
def HB.txt (C:Ctx) (c0 c1 c2 c3:List T) (K:J2):Prop:=
 cl2 C 103 DL.sg [] [c0,c1,c2,c3] fun v1 d2=>
 prP (bnI .neq (iv (cnt 8 c0)) (.int .i64 8)) fun t18_3=>
 AV t18_3 (
 K [] [(nxc d2 0),(nxc d2 1),(nxc d2 2),(nxc d2 3),[]]) (
 cl2 C 160 GF.sg [] [c0,c1,c2,c3] fun v4 d5=>
 BC (fun r8 x6 k7=>
 prP (bnI .lss (nx x6 0) (iv (cnt 1 c2))) fun t27_10=>
 AV t27_10 (
 ixW (cnt 1 c2) (nx x6 0) fun t36_11=>
 ldc c2 [] ((AA t36_11)*1) fun t37_12=>
 cl2 C 55 B4.sg [t37_12] [c0,c1,c2,c3] fun v13 d14=>
 cl2 C 161 GB.sg [(nx v13 0)] [c0,c1,c2,c3,(nxc k7 5),(nxc k7 6)] fun v16 d17=>
 prP (bnI .add (nx x6 0) (.int .i64 1)) fun t29_18=>
 r8 [t29_18] [(nxc k7 0),(nxc k7 1),(nxc k7 2),(nxc k7 3),(nxc k7 4),(nxc d17 0),(nxc d17 1)]) (
 BC (fun r21 x19 k20=>
 prP (bnI .lss (nx x19 0) (iv (cnt 1 c2))) fun t44_23=>
 AV t44_23 (
 ixW (cnt 1 c2) (nx x19 0) fun t53_24=>
 ldc c2 [] ((AA t53_24)*1) fun t54_25=>
 cl2 C 55 B4.sg [t54_25] [c0,c1,c2,c3] fun v26 d27=>
 cl2 C 162 GK.sg [(nx v26 0)] [c0,c1,c2,c3,(nxc k20 5),(nxc k20 6)] fun v29 d30=>
 prP (bnI .add (nx x19 0) (.int .i64 1)) fun t46_31=>
 r21 [t46_31] [(nxc k20 0),(nxc k20 1),(nxc k20 2),(nxc k20 3),(nxc k20 4),(nxc d30 0),(nxc d30 1)]) (
 cl2 C 163 IC.sg [] [(nxc k20 5),(nxc k20 6)] fun v32 d33=>
 BC (fun r36 x34 k35=>
 prP (bnI .lss (nx x34 0) (iv (cnt 8 (nxc k35 2)))) fun t63_38=>
 AV t63_38 (
 BW (fun x40 k41=>
 prP (bnI .add (nx x40 0) (.int .i64 1)) fun t65_59=>
 r36 [t65_59] [(nxc k41 0),(nxc k41 1),(nxc k41 2),(nxc k41 3),(nxc k41 4),(nxc k41 5)]) fun j42=>
 ixW (cnt 8 (nxc k35 2)) (nx x34 0) fun t69_43=>
 stc (nxc k35 2) [] (((AA t69_43)*8)+7) (.bool false) fun k44=>
 cl2 C 57 G7.sg [(nx x34 0)] [(nxc k35 1)] fun v45 d46=>
 AV (nx v45 0) (
 ixW (cnt 8 c0) (nx x34 0) fun t79_48=>
 ldc c0 [] (((AA t79_48)*8)+1) fun t81_49=>
 cl2 C 58 EY.sg [(nx x34 0),t81_49] [] fun v50 d51=>
 apW [T.c (nx v50 0)] true (cnt 1 (nxc k35 0)) (cnt 1 [T.c (nx v50 0)]) 8 (
 ixW (cnt 8 c0) (nx x34 0) fun t91_53=>
 ldc c0 [] (((AA t91_53)*8)+1) fun t93_54=>
 cl2 C 102 DP.sg [] [] fun v55 d56=>
 ixW (cnt 8 k44) (nx x34 0) fun t96_57=>
 stg k44 [] ((AA t96_57)*8) [T.c (.bool false),T.c t93_54,T.c (.int .i64 0),T.c (.int .i64 0),T.c (.int .i64 0),T.c (.int .i64 0),T.l 1 (nxc d56 0),T.c (.bool false)] fun k58=>
 j42 [(nx x34 0)] [((nxc k35 0)++[T.c (nx v50 0)]),(nxc k35 1),k58,(nxc k35 3),(nxc k35 4),(nxc k35 5)])) (
 j42 [(nx x34 0)] [(nxc k35 0),(nxc k35 1),k44,(nxc k35 3),(nxc k35 4),(nxc k35 5)])) (
 BC (fun r62 x60 k61=>
 prP (bnI .lss (nx x60 0) (iv (cnt 8 (nxc k61 1)))) fun t101_64=>
 AV t101_64 (
 BW (fun x66 k67=>
 prP (bnI .add (nx x66 0) (.int .i64 1)) fun t103_82=>
 r62 [t103_82] [(nxc k67 0),(nxc k67 1),(nxc k67 2),(nxc k67 3),(nxc k67 4)]) fun j68=>
 ixW (cnt 8 (nxc k61 1)) (nx x60 0) fun t107_69=>
 ldc (nxc k61 1) [] ((AA t107_69)*8) fun t109_70=>
 AV t109_70 (
 ixW (cnt 8 (nxc k61 1)) (nx x60 0) fun t116_71=>
 ldc (nxc k61 1) [] (((AA t116_71)*8)+3) fun t118_72=>
 ixW (cnt 8 (nxc k61 1)) (nx x60 0) fun t122_73=>
 ldc (nxc k61 1) [] (((AA t122_73)*8)+4) fun t124_74=>
 prP (bnI .add t118_72 t124_74) fun t125_75=>
 cl2 C 56 FR.sg [(nx x60 0)] [(nxc k61 1),(nxc k61 2),(nxc k61 3),(nxc k61 4)] fun v76 d77=>
 prP (bnI .add t125_75 (nx v76 0)) fun t129_79=>
 ixW (cnt 8 (nxc k61 1)) (nx x60 0) fun t130_80=>
 stc (nxc k61 1) [] (((AA t130_80)*8)+5) t129_79 fun k81=>
 j68 [(nx x60 0)] [(nxc k61 0),k81,(nxc k61 2),(nxc k61 3),(nxc k61 4)]) (
 j68 [(nx x60 0)] [(nxc k61 0),(nxc k61 1),(nxc k61 2),(nxc k61 3),(nxc k61 4)])) (
 K [] [(nxc k61 1),(nxc k61 2),[],(nxc k61 4),(nxc k61 0)])) [(.int .i64 0)] [(nxc k35 0),(nxc k35 2),(nxc k35 3),(nxc k35 4),(nxc k35 5)])) [(.int .i64 0)] [(nxc k20 0),(nxc d33 0),(nxc k20 1),(nxc k20 2),(nxc k20 3),(nxc k20 4)])) [(.int .i64 0)] [(nxc k7 0),(nxc k7 1),(nxc k7 2),(nxc k7 3),(nxc k7 4),(nxc k7 5),(nxc k7 6)])) [(.int .i64 0)] [[],(nxc d2 0),(nxc d2 1),(nxc d2 2),(nxc d2 3),(nxc d5 0),(nxc d5 1)])
theorem HB.cl2 {w0:World} {c0 c1 c2 c3:List T} {K:J2} (h:HB.txt ⟨Tryz.prog,w0⟩ c0 c1 c2 c3 K):Eng.cl2 ⟨Tryz.prog,w0⟩ 108 HB.sg [] [c0,c1,c2,c3] K:=
 AD (C:=⟨Tryz.prog,w0⟩) (f:=108) (fn:=Tryz.f108) [(103,DL.sg),(160,GF.sg),(55,B4.sg),(161,GB.sg),(162,GK.sg),(163,IC.sg),(57,G7.sg),(58,EY.sg),(102,DP.sg),(56,FR.sg)] [(9,[0,0,0,0,8,0,56,120,252,511,1023]),(13,[0,0,0,0,8,0,56,120,252,511,1023]),(21,[0,1,0,0,8,0,56,120,248,0,1016,2047,4095]),(26,[0,1,0,0,8,0,56,120,248,0,512,0,3584,7680,15872,32760,0,0,196608,524280,1048575,2097151,4194303])] [(16361,⟨[.p (.j 0) 0, .p (.j 1) 0, .p (.j 2) 0, .t (.j 3) 1, .t (.j 4) 1, .v],[],[.bx [.t (.f 0) 8, .t (.f 1) 2, .t (.f 2) 1, .t (.f 3) 1], .bx [.z, .z, .z, .z], .bx [.t (.j 5) 8, .t (.j 6) 2, .t (.j 7) 1, .t (.j 8) 1], .ls, .ls, .ls, .ls, .ls, .ls]⟩),(32745,⟨[.p (.j 0) 0, .p (.j 1) 0, .t (.j 2) 1, .v],[],[.bx [.z, .z, .z, .z], .bx [.t (.j 3) 8, .t (.j 4) 2, .t (.j 5) 1, .t (.j 6) 1], .ls, .ls, .ls, .ls, .ls]⟩),(8186,⟨[.p (.j 0) 0, .p (.j 1) 0, .t (.j 2) 1, .v],[],[.bx [.z, .z, .z, .z], .bx [.t (.j 3) 8, .t (.j 4) 2, .t (.j 5) 1, .t (.j 6) 1], .ls, .ls, .ls, .ls, .ls]⟩),(4090,⟨[.p (.j 0) 0, .p (.j 1) 0, .p (.j 2) 0, .t (.j 3) 1, .t (.j 4) 1, .v],[],[.bx [.t (.f 0) 8, .t (.f 1) 2, .t (.f 2) 1, .t (.f 3) 1], .bx [.z, .z, .z, .z], .bx [.t (.j 5) 8, .t (.j 6) 2, .t (.j 7) 1, .t (.j 8) 1], .ls, .ls, .ls, .ls, .ls, .ls]⟩),(1018,⟨[.p (.j 0) 0, .p (.j 1) 0, .p (.j 2) 0, .t (.j 3) 1, .p (.j 4) 0, .v],[],[.bx [.t (.f 0) 8, .t (.f 1) 2, .t (.f 2) 1, .t (.f 3) 1], .bx [.z, .z, .z, .z], .bx [.t (.j 5) 8, .t (.j 6) 2, .t (.j 7) 1, .t (.j 8) 1], .ls, .bx [.t (.j 9) 1, .t (.j 10) 1], .ls, .ls, .ls, .ls, .ls, .ls]⟩),(506,⟨[.p (.j 0) 0, .p (.j 1) 0, .p (.j 2) 0, .t (.j 3) 1, .p (.j 4) 0, .v],[],[.bx [.t (.f 0) 8, .t (.f 1) 2, .t (.f 2) 1, .t (.f 3) 1], .bx [.z, .z, .z, .z], .bx [.t (.j 5) 8, .t (.j 6) 2, .t (.j 7) 1, .t (.j 8) 1], .ls, .bx [.t (.j 9) 1, .t (.j 10) 1], .ls, .ls, .ls, .ls, .ls, .ls]⟩)] Tryz.func108 (by kernel_rfl) (by kernel_rfl) (by kernel_rfl) h
def HU.sg:Sg:=⟨[(1,[.t 8 0, .t 2 0, .t 1 0, .t 1 0]),(1,[.v, .v, .v, .v, .v])],[(1,[.t 8, .t 2, .t 1, .t 1]),(1,[.v, .v, .t 1])],[]⟩
def HU.txt (C:Ctx) (a0 a1 a2 a3 a4:Value) (c0 c1 c2 c3:List T) (K:J2):Prop:=
 cl2 C 103 DL.sg [] [c0,c1,c2,c3] fun v1 d2=>
 cl2 C 21 IE.sg [] [c0,c1,c2,c3] fun v3 d4=>
 prP (un .not (nx v3 0)) fun t13_6=>
 AV t13_6 (
 K [(.int .i64 2),(.int .i64 0)] [(nxc d2 0),(nxc d2 1),(nxc d2 2),(nxc d2 3),[]]) (
 prP (bnI .eql a0 (.int .i64 1)) fun t19_7=>
 AV t19_7 (
 cl2 C 104 HF.sg [a0,a1,a2,a3,a4] [(nxc d2 0),(nxc d2 1),(nxc d2 2),(nxc d2 3)] fun v8 d9=>
 K [(nx v8 0),(nx v8 1)] [(nxc d9 0),(nxc d2 1),(nxc d2 2),(nxc d9 1),(nxc d9 2)]) (
 BW (fun x11 k12=>
 AV (nx x11 1) (
 cl2 C 105 IA.sg [(nx x11 2),(nx x11 3),(nx x11 4),(nx x11 5),(nx x11 6)] [(nxc k12 0),(nxc k12 1),(nxc k12 2),(nxc k12 3)] fun v18 d19=>
 K [(nx v18 0),(nx v18 1)] [(nxc d19 0),(nxc d19 1),(nxc d19 2),(nxc d19 3),(nxc d19 4)]) (
 prP (bnI .eql (nx x11 0) (.int .i64 4)) fun t36_20=>
 AV t36_20 (
 cl2 C 106 HL.sg [(nx x11 2),(nx x11 3),(nx x11 4),(nx x11 5),(nx x11 6)] [(nxc k12 0),(nxc k12 1),(nxc k12 2),(nxc k12 3)] fun v21 d22=>
 K [(nx v21 0),(nx v21 1)] [(nxc d22 0),(nxc d22 1),(nxc d22 2),(nxc d22 3),(nxc d22 4)]) (
 BW (fun x24 k25=>
 AV (nx x24 1) (
 cl2 C 107 H7.sg [(nx x24 2),(nx x24 3),(nx x24 4),(nx x24 5),(nx x24 6)] [(nxc k25 0),(nxc k25 1),(nxc k25 2),(nxc k25 3)] fun v30 d31=>
 K [(nx v30 0),(nx v30 1)] [(nxc k25 0),(nxc d31 0),(nxc k25 2),(nxc k25 3),(nxc d31 1)]) (
 prP (bnI .eql (nx x24 0) (.int .i64 10)) fun t52_32=>
 AV t52_32 (
 cl2 C 108 HB.sg [] [(nxc k25 0),(nxc k25 1),(nxc k25 2),(nxc k25 3)] fun v33 d34=>
 K [(.int .i64 0),(.int .i64 0)] [(nxc d34 0),(nxc d34 1),(nxc d34 2),(nxc d34 3),(nxc d34 4)]) (
 K [(.int .i64 2),(.int .i64 0)] [(nxc k25 0),(nxc k25 1),(nxc k25 2),(nxc k25 3),[]]))) fun j26=>
 prP (bnI .eql (nx x11 0) (.int .i64 7)) fun t43_27=>
 AV t43_27 (
 j26 [(nx x11 0),t43_27,(nx x11 2),(nx x11 3),(nx x11 4),(nx x11 5),(nx x11 6),(nx x11 7),(nx x11 8)] [(nxc k12 0),(nxc k12 1),(nxc k12 2),(nxc k12 3)]) (
 prP (bnI .eql (nx x11 0) (.int .i64 8)) fun t44_28=>
 AV t44_28 (
 j26 [(nx x11 0),t44_28,(nx x11 2),(nx x11 3),(nx x11 4),(nx x11 5),(nx x11 6),(nx x11 7),(nx x11 8)] [(nxc k12 0),(nxc k12 1),(nxc k12 2),(nxc k12 3)]) (
 prP (bnI .eql (nx x11 0) (.int .i64 9)) fun t45_29=>
 j26 [(nx x11 0),t45_29,(nx x11 2),(nx x11 3),(nx x11 4),(nx x11 5),(nx x11 6),(nx x11 7),(nx x11 8)] [(nxc k12 0),(nxc k12 1),(nxc k12 2),(nxc k12 3)]))))) fun j13=>
 prP (bnI .eql a0 (.int .i64 2)) fun t26_14=>
 AV t26_14 (
 j13 [a0,t26_14,a0,a1,a2,a3,a4,(.int .i64 0),(.int .i64 0)] [(nxc d2 0),(nxc d2 1),(nxc d2 2),(nxc d2 3)]) (
 prP (bnI .eql a0 (.int .i64 3)) fun t27_15=>
 AV t27_15 (
 j13 [a0,t27_15,a0,a1,a2,a3,a4,(.int .i64 0),(.int .i64 0)] [(nxc d2 0),(nxc d2 1),(nxc d2 2),(nxc d2 3)]) (
 prP (bnI .eql a0 (.int .i64 5)) fun t28_16=>
 AV t28_16 (
 j13 [a0,t28_16,a0,a1,a2,a3,a4,(.int .i64 0),(.int .i64 0)] [(nxc d2 0),(nxc d2 1),(nxc d2 2),(nxc d2 3)]) (
 prP (bnI .eql a0 (.int .i64 6)) fun t29_17=>
 j13 [a0,t29_17,a0,a1,a2,a3,a4,(.int .i64 0),(.int .i64 0)] [(nxc d2 0),(nxc d2 1),(nxc d2 2),(nxc d2 3)])))))
theorem HU.cl2 {w0:World} {a0 a1 a2 a3 a4:Value} {c0 c1 c2 c3:List T} {K:J2} (h:HU.txt ⟨Tryz.prog,w0⟩ a0 a1 a2 a3 a4 c0 c1 c2 c3 K):Eng.cl2 ⟨Tryz.prog,w0⟩ 53 HU.sg [a0,a1,a2,a3,a4] [c0,c1,c2,c3] K:=
 AD (C:=⟨Tryz.prog,w0⟩) (f:=53) (fn:=Tryz.f53) [(103,DL.sg),(21,IE.sg),(104,HF.sg),(105,IA.sg),(106,HL.sg),(107,H7.sg),(108,HB.sg)] [] [(491,⟨[.p (.j 0) 0, .p (.j 1) 0, .p (.j 2) 0, .p (.j 3) 0, .v, .v],[],[.bx [.v, .v, .v, .v, .v], .bx [.z, .z, .z, .z], .bx [.v, .v, .z], .bx [.t (.j 4) 8, .t (.j 5) 2, .t (.j 6) 1, .t (.j 7) 1], .ls, .ls, .ls, .ls]⟩),(7871,⟨[.p (.j 0) 0, .p (.j 1) 0, .p (.j 2) 0, .p (.j 3) 0, .v, .v],[],[.bx [.v, .v, .v, .v, .v], .bx [.z, .z, .z, .z], .bx [.v, .v, .z], .bx [.t (.j 4) 8, .t (.j 5) 2, .t (.j 6) 1, .t (.j 7) 1], .ls, .ls, .ls, .ls]⟩)] Tryz.func53 (by kernel_rfl) (by kernel_rfl) (by kernel_rfl) h
def KL.sg:Sg:=⟨[(0,[.t 5 0])],[(1,[.t 8, .t 2, .t 1, .t 1]),(0,[.t 3])],[]⟩
def KL.txt (C:Ctx) (c0:List T) (K:J2):Prop:=
 cl2 C 52 FO.sg [] [] fun v1 d2=>
 BC (fun r5 x3 k4=>
 prP (bnI .lss (nx x3 0) (iv (cnt 5 c0))) fun t14_7=>
 gE t14_7 (
 gP t14_7 true (prP (bnI .lss (nx x3 0) (.int .i64 400))) fun t17_8=>
 prP (pk t14_7 t17_8 (.bool false)) fun t18_9=>
 AV t18_9 (
 ixW (cnt 5 c0) (nx x3 0) fun t25_10=>
 ldg c0 [] ((AA t25_10)*5) [.c, .c, .c, .c, .c] fun ts11=>
 cl2 C 53 HU.sg [(tv (nxT ts11 0)),(tv (nxT ts11 1)),(tv (nxT ts11 2)),(tv (nxT ts11 3)),(tv (nxT ts11 4))] [(nxc k4 1),(nxc k4 2),(nxc k4 3),(nxc k4 4)] fun v12 d13=>
 apW [T.c (nx v12 0),T.c (nx v12 1),T.l 1 (nxc d13 4)] false (cnt 3 (nxc k4 0)) (cnt 3 [T.c (nx v12 0),T.c (nx v12 1),T.l 1 (nxc d13 4)]) 40 (
 prP (bnI .add (nx x3 0) (.int .i64 1)) fun t20_14=>
 r5 [t20_14] [((nxc k4 0)++[T.c (nx v12 0),T.c (nx v12 1),T.l 1 (nxc d13 4)]),(nxc d13 0),(nxc d13 1),(nxc d13 2),(nxc d13 3)])) (
 K [] [(nxc k4 1),(nxc k4 2),(nxc k4 3),(nxc k4 4),(nxc k4 0)]))) [(.int .i64 0)] [[],(nxc d2 0),(nxc d2 1),(nxc d2 2),(nxc d2 3)]
theorem KL.cl2 {w0:World} {c0:List T} {K:J2} (h:KL.txt ⟨Tryz.prog,w0⟩ c0 K):Eng.cl2 ⟨Tryz.prog,w0⟩ 36 KL.sg [] [c0] K:=
 AD (C:=⟨Tryz.prog,w0⟩) (f:=36) (fn:=Tryz.f36) [(52,FO.sg),(53,HU.sg)] [(6,[0,0,0,6,14,31,63,127,127,0,0,1791,4095])] [(122,⟨[.t (.f 0) 5, .p (.j 0) 0, .p (.j 1) 0, .t (.j 2) 3, .v],[],[.bx [.z, .z, .z, .z], .bx [.t (.j 3) 8, .t (.j 4) 2, .t (.j 5) 1, .t (.j 6) 1], .ls, .ls, .ls, .ls, .ls]⟩)] Tryz.func36 (by kernel_rfl) (by kernel_rfl) (by kernel_rfl) h
def EF.sg:Sg:=⟨[(1,[.v, .v, .v, .v, .v])],[(0,[.v])],[]⟩
def EF.txt (C:Ctx) (a0 a1 a2 a3 a4:Value) (K:J2):Prop:=
 cl2 C 54 BO.sg [a0,(.int .i64 (-1000000000)),(.int .i64 1000000000)] [] fun v1 d2=>
 gE (nx v1 0) (
 gE (nx v1 0) (
 gP (nx v1 0) true ((fun K=>cl2 C 54 BO.sg [a1,(.int .i64 (-1000000000)),(.int .i64 1000000000)] [] fun v4 d5=>K (nx v4 0))) fun t9_6=>
 prP (pk (nx v1 0) t9_6 (.bool false)) fun t10_7=>
 gE t10_7 (
 gE t10_7 (
 gP t10_7 true ((fun K=>cl2 C 54 BO.sg [a2,(.int .i64 (-1000000000)),(.int .i64 1000000000)] [] fun v8 d9=>K (nx v8 0))) fun t14_10=>
 prP (pk t10_7 t14_10 (.bool false)) fun t15_11=>
 gE t15_11 (
 gE t15_11 (
 gP t15_11 true ((fun K=>cl2 C 54 BO.sg [a3,(.int .i64 (-1000000000)),(.int .i64 1000000000)] [] fun v12 d13=>K (nx v12 0))) fun t19_14=>
 prP (pk t15_11 t19_14 (.bool false)) fun t20_15=>
 gE t20_15 (
 gE t20_15 (
 gP t20_15 true (prP (lnS a4)) fun t24_16=>
 gP t20_15 true (prP (bnI .leq t24_16 (.int .i64 8))) fun t25_17=>
 prP (pk t20_15 t25_17 (.bool false)) fun t26_18=>
 K [t26_18] []))))))))
theorem EF.cl2 {w0:World} {a0 a1 a2 a3 a4:Value} {K:J2} (h:EF.txt ⟨Tryz.prog,w0⟩ a0 a1 a2 a3 a4 K):Eng.cl2 ⟨Tryz.prog,w0⟩ 40 EF.sg [a0,a1,a2,a3,a4] [] K:=
 AD (C:=⟨Tryz.prog,w0⟩) (f:=40) (fn:=Tryz.f40) [(54,BO.sg)] [] [] Tryz.func40 (by kernel_rfl) (by kernel_rfl) (by kernel_rfl) h
def D4.sg:Sg:=⟨[(1,[.v, .v, .t 1 0])],[(0,[.v])],[]⟩
def D4.txt (C:Ctx) (a0 a1:Value) (c0:List T) (K:J2):Prop:=
 cl2 C 54 BO.sg [a0,(.int .i64 0),(.int .i64 6)] [] fun v1 d2=>
 prP (un .not (nx v1 0)) fun t7_4=>
 gE t7_4 (
 gE t7_4 (
 gP t7_4 false ((fun K=>cl2 C 54 BO.sg [a1,(.int .i64 (-1000000000)),(.int .i64 1000000000)] [] fun v5 d6=>K (nx v5 0))) fun t11_7=>
 gP t7_4 false (prP (un .not t11_7)) fun t12_8=>
 prP (pk t7_4 (.bool true) t12_8) fun t13_9=>
 gE t13_9 (
 gE t13_9 (
 gE t13_9 (
 gP t13_9 false (prP (bnI .gtr (iv (cnt 1 c0)) (.int .i64 8))) fun t18_10=>
 prP (pk t13_9 (.bool true) t18_10) fun t19_11=>
 AV t19_11 (
 K [(.bool false)] []) (
 BC (fun r14 x12 k13=>
 prP (bnI .lss (nx x12 0) (iv (cnt 1 c0))) fun t24_16=>
 AV t24_16 (
 ixW (cnt 1 c0) (nx x12 0) fun t30_17=>
 ldc c0 [] ((AA t30_17)*1) fun t31_18=>
 cl2 C 54 BO.sg [t31_18,(.int .i64 (-1000000000)),(.int .i64 1000000000)] [] fun v19 d20=>
 prP (un .not (nx v19 0)) fun t33_22=>
 AV t33_22 (
 K [(.bool false)] []) (
 prP (bnI .add (nx x12 0) (.int .i64 1)) fun t26_23=>
 r14 [t26_23,(nx x12 1),(nx x12 2)] [])) (
 K [(.bool true)] [])) [(.int .i64 0),a0,a1] []))))))
theorem D4.cl2 {w0:World} {a0 a1:Value} {c0:List T} {K:J2} (h:D4.txt ⟨Tryz.prog,w0⟩ a0 a1 c0 K):Eng.cl2 ⟨Tryz.prog,w0⟩ 132 D4.sg [a0,a1] [c0] K:=
 AD (C:=⟨Tryz.prog,w0⟩) (f:=132) (fn:=Tryz.f132) [(54,BO.sg)] [] [(58,⟨[.p (.j 0) 0, .v],[],[.bx [.v, .v, .t (.f 0) 1]]⟩)] Tryz.func132 (by kernel_rfl) (by kernel_rfl) (by kernel_rfl) h
def GO.sg:Sg:=⟨[(1,[.v, .t 1 0])],[(0,[.v])],[]⟩
def GO.txt (C:Ctx) (a0:Value) (c0:List T) (K:J2):Prop:=
 BC (fun r3 x1 k2=>
 prP (bnI .lss (nx x1 0) (iv (cnt 1 c0))) fun t9_5=>
 AV t9_5 (
 ixW (cnt 1 c0) (nx x1 0) fun t15_6=>
 ldc c0 [] ((AA t15_6)*1) fun t16_7=>
 prP (lnS t16_7) fun t17_8=>
 prP (bnI .gtr t17_8 (.int .i64 8)) fun t18_9=>
 AV t18_9 (
 K [(.bool false)] []) (
 BC (fun r12 x10 k11=>
 prP (bnI .lss (nx x10 1) (nx x10 0)) fun t21_14=>
 AV t21_14 (
 ixW (cnt 1 c0) (nx x10 1) fun t27_15=>
 ldc c0 [] ((AA t27_15)*1) fun t28_16=>
 ixW (cnt 1 c0) (nx x10 0) fun t32_17=>
 ldc c0 [] ((AA t32_17)*1) fun t33_18=>
 prP (bnS .eql t28_16 t33_18) fun t34_19=>
 AV t34_19 (
 K [(.bool false)] []) (
 prP (bnI .add (nx x10 1) (.int .i64 1)) fun t23_20=>
 r12 [(nx x10 0),t23_20,(nx x10 2)] [])) (
 prP (bnI .add (nx x10 0) (.int .i64 1)) fun t11_21=>
 r3 [t11_21,(nx x10 2)] [])) [(nx x1 0),(.int .i64 0),(nx x1 1)] [])) (
 cl2 C 54 BO.sg [(nx x1 1),(.int .i64 (-1000000000)),(.int .i64 1000000000)] [] fun v22 d23=>
 gE (nx v22 0) (
 gE (nx v22 0) (
 gE (nx v22 0) (
 gP (nx v22 0) true (prP (bnI .leq (iv (cnt 1 c0)) (.int .i64 400))) fun t42_25=>
 prP (pk (nx v22 0) t42_25 (.bool false)) fun t43_26=>
 K [t43_26] []))))) [(.int .i64 0),a0] []
theorem GO.cl2 {w0:World} {a0:Value} {c0:List T} {K:J2} (h:GO.txt ⟨Tryz.prog,w0⟩ a0 c0 K):Eng.cl2 ⟨Tryz.prog,w0⟩ 133 GO.sg [a0] [c0] K:=
 AD (C:=⟨Tryz.prog,w0⟩) (f:=133) (fn:=Tryz.f133) [(54,BO.sg)] [(9,[0,1,0,7,15,0,32,0,224,480,1023])] [(3366,⟨[.p (.j 0) 0, .v, .v],[],[.bx [.v, .t (.f 0) 1]]⟩),(26,⟨[.p (.j 0) 0, .v],[],[.bx [.v, .t (.f 0) 1]]⟩)] Tryz.func133 (by kernel_rfl) (by kernel_rfl) (by kernel_rfl) h
def FA.sg:Sg:=⟨[(0,[.v])],[(0,[.v])],[]⟩
def FA.txt (C:Ctx) (a0:Value) (K:J2):Prop:=
 cl2 C 54 BO.sg [a0,(.int .i64 0),(.int .i64 562949953421311)] [] fun v1 d2=>
 prP (un .not (nx v1 0)) fun t6_4=>
 AV t6_4 (
 K [(.string {data:= #[]})] []) (
 BC (fun r7 x5 k6=>
 prP (bnI .geq (nx x5 0) (.int .i64 128)) fun t9_9=>
 AV t9_9 (
 prP (bnI .rem (nx x5 0) (.int .i64 128)) fun t12_10=>
 prP (bnI .add (.int .i64 128) t12_10) fun t13_11=>
 prP (cvI .u8 t13_11) fun t14_12=>
 apW [T.c t14_12] true (cnt 1 (nxc k6 0)) (cnt 1 [T.c t14_12]) 1 (
 prP (bnI .quo (nx x5 0) (.int .i64 128)) fun t18_13=>
 r7 [t18_13] [((nxc k6 0)++[T.c t14_12])])) (
 prP (cvI .u8 (nx x5 0)) fun t21_14=>
 apW [T.c t21_14] true (cnt 1 (nxc k6 0)) (cnt 1 [T.c t21_14]) 1 (
 prP (b2T ((nxc k6 0)++[T.c t21_14])) fun t24_15=>
 K [t24_15] []))) [a0] [[]])
theorem FA.cl2 {w0:World} {a0:Value} {K:J2} (h:FA.txt ⟨Tryz.prog,w0⟩ a0 K):Eng.cl2 ⟨Tryz.prog,w0⟩ 136 FA.sg [a0] [] K:=
 AD (C:=⟨Tryz.prog,w0⟩) (f:=136) (fn:=Tryz.f136) [(54,BO.sg)] [] [(60,⟨[.v, .t (.j 0) 1],[],[.ls]⟩)] Tryz.func136 (by kernel_rfl) (by kernel_rfl) (by kernel_rfl) h
def HN.sg:Sg:=⟨[(0,[.v])],[(0,[.v])],[]⟩
def HN.txt (C:Ctx) (a0:Value) (K:J2):Prop:=
 prP (lnS a0) fun t4_1=>
 prP (bnI .gtr t4_1 (.int .i64 8)) fun t5_2=>
 AV t5_2 (
 K [(.string {data:= #[]})] []) (
 prP (lnS a0) fun t7_3=>
 cl2 C 136 FA.sg [t7_3] [] fun v4 d5=>
 prP (bnS .add (nx v4 0) a0) fun t10_7=>
 K [t10_7] [])
theorem HN.cl2 {w0:World} {a0:Value} {K:J2} (h:HN.txt ⟨Tryz.prog,w0⟩ a0 K):Eng.cl2 ⟨Tryz.prog,w0⟩ 177 HN.sg [a0] [] K:=
 AD (C:=⟨Tryz.prog,w0⟩) (f:=177) (fn:=Tryz.f177) [(136,FA.sg)] [] [] Tryz.func177 (by kernel_rfl) (by kernel_rfl) (by kernel_rfl) h
def HA.sg:Sg:=⟨[(1,[.v, .t 1 0]),(0,[.v])],[(0,[.v]),(1,[.v, .t 1])],[]⟩
def HA.txt (C:Ctx) (a0 a1:Value) (c0:List T) (K:J2):Prop:=
 apW c0 true (cnt 1 []) (cnt 1 c0) 16 (
 BC (fun r3 x1 k2=>
 prP (bnI .lss (nx x1 1) (iv (cnt 1 c0))) fun t19_5=>
 AV t19_5 (
 ixW (cnt 1 c0) (nx x1 1) fun t25_6=>
 ldc c0 [] ((AA t25_6)*1) fun t26_7=>
 prP (bnS .eql t26_7 (nx x1 0)) fun t28_8=>
 AV t28_8 (
 prP (bnI .add (nx x1 1) (.int .i64 1)) fun t30_9=>
 cl2 C 136 FA.sg [t30_9] [] fun v10 d11=>
 K [(nx v10 0),(nx x1 4)] [(nxc k2 0)]) (
 prP (bnI .add (nx x1 1) (.int .i64 1)) fun t21_13=>
 r3 [(nx x1 0),t21_13,(nx x1 2),(nx x1 3),(nx x1 4)] [(nxc k2 0)])) (
 apW [T.c (nx x1 0)] true (cnt 1 (nxc k2 0)) (cnt 1 [T.c (nx x1 0)]) 16 (
 cl2 C 136 FA.sg [(.int .i64 0)] [] fun v14 d15=>
 cl2 C 177 HN.sg [(nx x1 0)] [] fun v17 d18=>
 prP (bnS .add (nx v14 0) (nx v17 0)) fun t42_20=>
 K [t42_20,(nx x1 4)] [((nxc k2 0)++[T.c (nx x1 0)])]))) [a1,(.int .i64 0),a0,(.int .i64 0),a0] [([]++c0)])
theorem HA.cl2 {w0:World} {a0 a1:Value} {c0:List T} {K:J2} (h:HA.txt ⟨Tryz.prog,w0⟩ a0 a1 c0 K):Eng.cl2 ⟨Tryz.prog,w0⟩ 134 HA.sg [a0,a1] [c0] K:=
 AD (C:=⟨Tryz.prog,w0⟩) (f:=134) (fn:=Tryz.f134) [(136,FA.sg),(177,HN.sg)] [(1,[0,1,0,0,8,28,63,0,255]),(6,[0,1,3,0,7,31]),(8,[0,0,3,7,0,15,63])] [(58,⟨[.v, .p (.j 0) 0, .p (.j 1) 0, .p (.j 2) 0, .v],[],[.bx [.v, .t (.f 0) 1], .bx [.v, .z], .bx [.v, .t (.j 3) 1], .ls]⟩)] Tryz.func134 (by kernel_rfl) (by kernel_rfl) (by kernel_rfl) h
def NC.sg:Sg:=⟨[(0,[.v])],[(0,[.v])],[]⟩
def NC.txt (C:Ctx) (a0:Value) (K:J2):Prop:=
 cl2 C 54 BO.sg [a0,(.int .i64 (-100000000000000)),(.int .i64 100000000000000)] [] fun v1 d2=>
 prP (un .not (nx v1 0)) fun t5_4=>
 AV t5_4 (
 K [(.int .i64 (-1))] []) (
 prP (bnI .lss a0 (.int .i64 0)) fun t7_5=>
 AV t7_5 (
 prP (bnI .mul (.int .i64 (-2)) a0) fun t9_6=>
 prP (bnI .sub t9_6 (.int .i64 1)) fun t10_7=>
 K [t10_7] []) (
 prP (bnI .mul (.int .i64 2) a0) fun t12_8=>
 K [t12_8] []))
theorem NC.cl2 {w0:World} {a0:Value} {K:J2} (h:NC.txt ⟨Tryz.prog,w0⟩ a0 K):Eng.cl2 ⟨Tryz.prog,w0⟩ 178 NC.sg [a0] [] K:=
 AD (C:=⟨Tryz.prog,w0⟩) (f:=178) (fn:=Tryz.f178) [(54,BO.sg)] [] [] Tryz.func178 (by kernel_rfl) (by kernel_rfl) (by kernel_rfl) h
def D5.sg:Sg:=⟨[(0,[.v])],[(0,[.v])],[]⟩
def D5.txt (C:Ctx) (a0:Value) (K:J2):Prop:=
 cl2 C 178 NC.sg [a0] [] fun v1 d2=>
 prP (bnI .lss (nx v1 0) (.int .i64 0)) fun t7_4=>
 AV t7_4 (
 K [(.string {data:= #[]})] []) (
 cl2 C 136 FA.sg [(nx v1 0)] [] fun v5 d6=>
 K [(nx v5 0)] [])
theorem D5.cl2 {w0:World} {a0:Value} {K:J2} (h:D5.txt ⟨Tryz.prog,w0⟩ a0 K):Eng.cl2 ⟨Tryz.prog,w0⟩ 135 D5.sg [a0] [] K:=
 AD (C:=⟨Tryz.prog,w0⟩) (f:=135) (fn:=Tryz.f135) [(178,NC.sg),(136,FA.sg)] [] [] Tryz.func135 (by kernel_rfl) (by kernel_rfl) (by kernel_rfl) h
def FI.sg:Sg:=⟨[(1,[.v, .t 1 0]),(1,[.v, .v, .v, .v, .v]),(1,[.v, .v, .t 1 0])],[(0,[.v]),(1,[.v, .t 1])],[]⟩
def FI.txt (C:Ctx) (a0 a1 a2 a3 a4 a5 a6 a7:Value) (c0 c1:List T) (K:J2):Prop:=
 cl2 C 40 EF.sg [a1,a2,a3,a4,a5] [] fun v1 d2=>
 prP (un .not (nx v1 0)) fun t15_4=>
 gE t15_4 (
 gP t15_4 false ((fun K=>cl2 C 132 D4.sg [a6,a7] [c1] fun v5 d6=>K (nx v5 0))) fun t18_7=>
 gP t15_4 false (prP (un .not t18_7)) fun t19_8=>
 prP (pk t15_4 (.bool true) t19_8) fun t20_9=>
 gE t20_9 (
 gP t20_9 false ((fun K=>cl2 C 133 GO.sg [a0] [c0] fun v10 d11=>K (nx v10 0))) fun t23_12=>
 gP t20_9 false (prP (un .not t23_12)) fun t24_13=>
 prP (pk t20_9 (.bool true) t24_13) fun t25_14=>
 AV t25_14 (
 apW c0 true (cnt 1 []) (cnt 1 c0) 16 (
 K [(.string {data:= #[]}),a0] [([]++c0)])) (
 cl2 C 134 HA.sg [a0,a5] [c0] fun v15 d16=>
 cl2 C 135 D5.sg [a1] [] fun v17 d18=>
 prP (bnI .sub a2 a0) fun t47_20=>
 cl2 C 135 D5.sg [t47_20] [] fun v21 d22=>
 prP (bnS .add (nx v17 0) (nx v21 0)) fun t49_24=>
 cl2 C 135 D5.sg [a3] [] fun v25 d26=>
 prP (bnS .add t49_24 (nx v25 0)) fun t53_28=>
 prP (bnI .sub a4 a2) fun t58_29=>
 cl2 C 135 D5.sg [t58_29] [] fun v30 d31=>
 prP (bnS .add t53_28 (nx v30 0)) fun t60_33=>
 prP (bnS .add t60_33 (nx v15 0)) fun t62_34=>
 cl2 C 136 FA.sg [a6] [] fun v35 d36=>
 prP (bnS .add t62_34 (nx v35 0)) fun t66_38=>
 prP (bnI .sub a7 a2) fun t71_39=>
 cl2 C 135 D5.sg [t71_39] [] fun v40 d41=>
 prP (bnS .add t66_38 (nx v40 0)) fun t73_43=>
 cl2 C 136 FA.sg [(iv (cnt 1 c1))] [] fun v44 d45=>
 prP (bnS .add t73_43 (nx v44 0)) fun t78_47=>
 BC (fun r50 x48 k49=>
 prP (bnI .lss (nx x48 2) (iv (cnt 1 c1))) fun t85_52=>
 AV t85_52 (
 ixW (cnt 1 c1) (nx x48 2) fun t92_53=>
 ldc c1 [] ((AA t92_53)*1) fun t93_54=>
 prP (bnI .sub t93_54 (nx x48 1)) fun t95_55=>
 cl2 C 135 D5.sg [t95_55] [] fun v56 d57=>
 prP (bnS .add (nx x48 0) (nx v56 0)) fun t97_59=>
 ixW (cnt 1 c1) (nx x48 2) fun t101_60=>
 ldc c1 [] ((AA t101_60)*1) fun t102_61=>
 prP (bnI .add (nx x48 2) (.int .i64 1)) fun t87_62=>
 r50 [t97_59,t102_61,t87_62,(nx x48 3),(nx x48 4),(nx x48 5),(nx x48 6),(nx x48 7),(nx x48 8),(nx x48 9),(nx x48 10),(nx x48 11)] [(nxc k49 0)]) (
 K [(nx x48 0),(nx x48 4)] [(nxc k49 0)])) [t78_47,a2,(.int .i64 0),a1,a2,a3,a4,a5,a6,a7,(.int .i64 0),(nx v15 1)] [(nxc d16 0)])))
theorem FI.cl2 {w0:World} {a0 a1 a2 a3 a4 a5 a6 a7:Value} {c0 c1:List T} {K:J2} (h:FI.txt ⟨Tryz.prog,w0⟩ a0 a1 a2 a3 a4 a5 a6 a7 c0 c1 K):Eng.cl2 ⟨Tryz.prog,w0⟩ 74 FI.sg [a0,a1,a2,a3,a4,a5,a6,a7] [c0,c1] K:=
 AD (C:=⟨Tryz.prog,w0⟩) (f:=74) (fn:=Tryz.f74) [(40,EF.sg),(132,D4.sg),(133,GO.sg),(134,HA.sg),(135,D5.sg),(136,FA.sg)] [(2,[0,1,0,0,8,28,63,60,255]),(4,[0,1,3,0,8,0,32,120,255,511,0,1024,3583,8191,0,16384,0,65536,245760,515583,1048575,0,4194303,0,8388608,26205695,67108863,0,134217728,0,536870912,2013265920,4220509695,8589934591,0,17179869184,51539607552,128774561279,274877906943,549755813887]),(12,[0,0,1,7])] [(506,⟨[.p (.j 0) 0, .p (.j 1) 0, .p (.j 2) 0, .p (.j 3) 0, .v, .v, .v],[],[.bx [.v, .v, .v, .v, .v], .bx [.v, .v, .t (.f 1) 1], .bx [.v, .z], .bx [.v, .t (.j 4) 1], .ls]⟩)] Tryz.func74 (by kernel_rfl) (by kernel_rfl) (by kernel_rfl) h
def I9.sg:Sg:=⟨[],[(0,[.v])],[]⟩
def I9.txt (C:Ctx) (K:J2):Prop:=
 K [(.string {data:= #[72,76,79,71,1]})] []
theorem I9.cl2 {w0:World} {K:J2} (h:I9.txt ⟨Tryz.prog,w0⟩ K):Eng.cl2 ⟨Tryz.prog,w0⟩ 97 I9.sg [] [] K:=
 AD (C:=⟨Tryz.prog,w0⟩) (f:=97) (fn:=Tryz.f97) [] [] [] Tryz.func97 (by kernel_rfl) (by kernel_rfl) (by kernel_rfl) h
def L5.sg:Sg:=⟨[(0,[.v])],[(0,[.v])],[]⟩
def L5.txt (C:Ctx) (a0:Value) (K:J2):Prop:=
 BC (fun r3 x1 k2=>
 prP (lnS (nx x1 0)) fun t9_5=>
 prP (bnI .lss (nx x1 2) t9_5) fun t10_6=>
 AV t10_6 (
 prP (ix (nx x1 0) (nx x1 2)) fun t16_7=>
 prP (cvI .i64 t16_7) fun t17_8=>
 prP (bnI .xor (nx x1 1) t17_8) fun t18_9=>
 BC (fun r12 x10 k11=>
 prP (bnI .lss (nx x10 3) (.int .i64 8)) fun t20_14=>
 AV t20_14 (
 BW (fun x16 k17=>
 prP (bnI .add (nx x16 3) (.int .i64 1)) fun t22_23=>
 r12 [(nx x16 0),(nx x16 1),(nx x16 2),t22_23] []) fun j18=>
 prP (bnI .rem (nx x10 1) (.int .i64 2)) fun t24_19=>
 prP (bnI .quo (nx x10 1) (.int .i64 2)) fun t26_20=>
 prP (bnI .eql t24_19 (.int .i64 1)) fun t28_21=>
 AV t28_21 (
 prP (bnI .xor t26_20 (.int .i64 2197175160)) fun t30_22=>
 j18 [(nx x10 0),t30_22,(nx x10 2),(nx x10 3)] []) (
 j18 [(nx x10 0),t26_20,(nx x10 2),(nx x10 3)] [])) (
 prP (bnI .add (nx x10 2) (.int .i64 1)) fun t12_24=>
 r3 [(nx x10 0),(nx x10 1),t12_24] [])) [(nx x1 0),t18_9,(nx x1 2),(.int .i64 0)] []) (
 prP (bnI .sub (.int .i64 4294967295) (nx x1 1)) fun t32_25=>
 K [t32_25] [])) [a0,(.int .i64 4294967295),(.int .i64 0)] []
theorem L5.cl2 {w0:World} {a0:Value} {K:J2} (h:L5.txt ⟨Tryz.prog,w0⟩ a0 K):Eng.cl2 ⟨Tryz.prog,w0⟩ 180 L5.sg [a0] [] K:=
 AD (C:=⟨Tryz.prog,w0⟩) (f:=180) (fn:=Tryz.f180) [] [] [(29849,⟨[.v, .v, .v, .v],[],[]⟩),(7462,⟨[.v, .v, .v, .v],[],[]⟩),(58,⟨[.v, .v, .v],[],[]⟩)] Tryz.func180 (by kernel_rfl) (by kernel_rfl) (by kernel_rfl) h
def JJ.sg:Sg:=⟨[(0,[.v]),(0,[.v])],[(0,[.v])],[]⟩
def JJ.txt (C:Ctx) (a0 a1:Value) (K:J2):Prop:=
 cl2 C 54 BO.sg [a1,(.int .i64 1),(.int .i64 7)] [] fun v1 d2=>
 prP (un .not (nx v1 0)) fun t9_4=>
 gE t9_4 (
 gP t9_4 false (prP (bnI .lss a0 (.int .i64 0))) fun t12_5=>
 prP (pk t9_4 (.bool true) t12_5) fun t13_6=>
 AV t13_6 (
 K [(.string {data:= #[]})] []) (
 BC (fun r9 x7 k8=>
 prP (bnI .lss (nx x7 3) (nx x7 1)) fun t16_11=>
 AV t16_11 (
 prP (bnI .rem (nx x7 0) (.int .i64 256)) fun t20_12=>
 prP (cvI .u8 t20_12) fun t21_13=>
 prP (b2T [T.c t21_13]) fun t23_14=>
 prP (bnS .add t23_14 (nx x7 2)) fun t25_15=>
 prP (bnI .quo (nx x7 0) (.int .i64 256)) fun t27_16=>
 prP (bnI .add (nx x7 3) (.int .i64 1)) fun t18_17=>
 r9 [t27_16,(nx x7 1),t25_15,t18_17] []) (
 prP (bnI .gtr (nx x7 0) (.int .i64 0)) fun t29_18=>
 AV t29_18 (
 K [(.string {data:= #[]})] []) (
 K [(nx x7 2)] []))) [a0,a1,(.string {data:= #[]}),(.int .i64 0)] []))
theorem JJ.cl2 {w0:World} {a0 a1:Value} {K:J2} (h:JJ.txt ⟨Tryz.prog,w0⟩ a0 a1 K):Eng.cl2 ⟨Tryz.prog,w0⟩ 179 JJ.sg [a0,a1] [] K:=
 AD (C:=⟨Tryz.prog,w0⟩) (f:=179) (fn:=Tryz.f179) [(54,BO.sg)] [] [(122,⟨[.v, .v, .v, .v],[],[]⟩)] Tryz.func179 (by kernel_rfl) (by kernel_rfl) (by kernel_rfl) h
def EG.sg:Sg:=⟨[(0,[.v]),(0,[.v])],[(0,[.v])],[]⟩
def EG.txt (C:Ctx) (a0 a1:Value) (K:J2):Prop:=
 cl2 C 54 BO.sg [a0,(.int .i64 0),(.int .i64 400)] [] fun v1 d2=>
 prP (un .not (nx v1 0)) fun t8_4=>
 gE t8_4 (
 gP t8_4 false (prP (lnS a1)) fun t11_5=>
 gP t8_4 false (prP (bnI .gtr t11_5 (.int .i64 200))) fun t12_6=>
 prP (pk t8_4 (.bool true) t12_6) fun t13_7=>
 AV t13_7 (
 K [(.string {data:= #[]})] []) (
 cl2 C 136 FA.sg [a0] [] fun v8 d9=>
 prP (lnS a1) fun t17_11=>
 cl2 C 136 FA.sg [t17_11] [] fun v12 d13=>
 prP (bnS .add (nx v8 0) (nx v12 0)) fun t19_15=>
 prP (bnS .add t19_15 a1) fun t21_16=>
 cl2 C 180 L5.sg [t21_16] [] fun v17 d18=>
 cl2 C 179 JJ.sg [(nx v17 0),(.int .i64 4)] [] fun v20 d21=>
 prP (bnS .add t21_16 (nx v20 0)) fun t26_23=>
 K [t26_23] []))
theorem EG.cl2 {w0:World} {a0 a1:Value} {K:J2} (h:EG.txt ⟨Tryz.prog,w0⟩ a0 a1 K):Eng.cl2 ⟨Tryz.prog,w0⟩ 137 EG.sg [a0,a1] [] K:=
 AD (C:=⟨Tryz.prog,w0⟩) (f:=137) (fn:=Tryz.f137) [(54,BO.sg),(136,FA.sg),(180,L5.sg),(179,JJ.sg)] [] [] Tryz.func137 (by kernel_rfl) (by kernel_rfl) (by kernel_rfl) h
def G8.sg:Sg:=⟨[(0,[.t 1 0])],[(0,[.v])],[]⟩
def G8.txt (C:Ctx) (c0:List T) (K:J2):Prop:=
 prP (bnI .gtr (iv (cnt 1 c0)) (.int .i64 400)) fun t7_1=>
 AV t7_1 (
 K [(.string {data:= #[]})] []) (
 cl2 C 97 I9.sg [] [] fun v2 d3=>
 BC (fun r7 x5 k6=>
 prP (bnI .lss (nx x5 1) (iv (cnt 1 c0))) fun t12_9=>
 AV t12_9 (
 ixW (cnt 1 c0) (nx x5 1) fun t17_10=>
 ldc c0 [] ((AA t17_10)*1) fun t18_11=>
 prP (bnS .eql t18_11 (.string {data:= #[]})) fun t19_12=>
 gE t19_12 (
 gE t19_12 (
 gP t19_12 false (ixW (cnt 1 c0) (nx x5 1)) fun t23_13=>
 gP t19_12 false (ldc c0 [] ((AA t23_13)*1)) fun t24_14=>
 gP t19_12 false (prP (lnS t24_14)) fun t25_15=>
 gP t19_12 false (prP (bnI .gtr t25_15 (.int .i64 200))) fun t26_16=>
 prP (pk t19_12 (.bool true) t26_16) fun t27_17=>
 AV t27_17 (
 K [(.string {data:= #[]})] []) (
 ixW (cnt 1 c0) (nx x5 1) fun t32_18=>
 ldc c0 [] ((AA t32_18)*1) fun t33_19=>
 cl2 C 137 EG.sg [(nx x5 1),t33_19] [] fun v20 d21=>
 prP (bnS .add (nx x5 0) (nx v20 0)) fun t35_23=>
 prP (bnI .add (nx x5 1) (.int .i64 1)) fun t14_24=>
 r7 [t35_23,t14_24] [])))) (
 cl2 C 137 EG.sg [(iv (cnt 1 c0)),(.string {data:= #[]})] [] fun v25 d26=>
 prP (bnS .add (nx x5 0) (nx v25 0)) fun t40_28=>
 K [t40_28] [])) [(nx v2 0),(.int .i64 0)] [])
theorem G8.cl2 {w0:World} {c0:List T} {K:J2} (h:G8.txt ⟨Tryz.prog,w0⟩ c0 K):Eng.cl2 ⟨Tryz.prog,w0⟩ 75 G8.sg [] [c0] K:=
 AD (C:=⟨Tryz.prog,w0⟩) (f:=75) (fn:=Tryz.f75) [(97,I9.sg),(137,EG.sg)] [] [(122,⟨[.t (.f 0) 1, .v, .v],[],[]⟩)] Tryz.func75 (by kernel_rfl) (by kernel_rfl) (by kernel_rfl) h
def H9.sg:Sg:=⟨[(0,[.t 5 0]),(0,[.t 3 0])],[(0,[.v])],[]⟩
def H9.txt (C:Ctx) (c0 c1:List T) (K:J2):Prop:=
 prP (bnI .neq (iv (cnt 5 c0)) (iv (cnt 3 c1))) fun t14_1=>
 gE t14_1 (
 gE t14_1 (
 gP t14_1 false (prP (bnI .geq (iv (cnt 5 c0)) (.int .i64 400))) fun t18_2=>
 prP (pk t14_1 (.bool true) t18_2) fun t19_3=>
 AV t19_3 (
 K [(.string {data:= #[]})] []) (
 BC (fun r6 x4 k5=>
 prP (bnI .lss (nx x4 0) (iv (cnt 5 c0))) fun t25_21=>
 AV t25_21 (
 ixW (cnt 5 c0) (nx x4 0) fun t32_22=>
 ldg c0 [] ((AA t32_22)*5) [.c, .c, .c, .c, .c] fun ts23=>
 ixW (cnt 3 c1) (nx x4 0) fun t36_24=>
 ldg c1 [] ((AA t36_24)*3) [.c, .c, .l 1] fun ts25=>
 cl2 C 74 FI.sg [(nx x4 1),(tv (nxT ts23 0)),(tv (nxT ts23 1)),(tv (nxT ts23 2)),(tv (nxT ts23 3)),(tv (nxT ts23 4)),(tv (nxT ts25 0)),(tv (nxT ts25 1))] [(nxc k5 1),(G4 c1 [(((AA t36_24)*3)+2)])] fun v26 d27=>
 prP (bnS .eql (nx v26 0) (.string {data:= #[]})) fun t42_28=>
 AV t42_28 (
 K [(.string {data:= #[]})] []) (
 apW [T.c (nx v26 0)] true (cnt 1 (nxc k5 0)) (cnt 1 [T.c (nx v26 0)]) 16 (
 prP (bnI .add (nx x4 0) (.int .i64 1)) fun t27_29=>
 r6 [t27_29,(nx v26 1)] [((nxc k5 0)++[T.c (nx v26 0)]),(nxc d27 0)]))) (
 cl2 C 75 G8.sg [] [(nxc k5 0)] fun v30 d31=>
 K [(nx v30 0)] [])) [(.int .i64 0),(.int .i64 0)] [[],[]])))
theorem H9.cl2 {w0:World} {c0 c1:List T} {K:J2} (h:H9.txt ⟨Tryz.prog,w0⟩ c0 c1 K):Eng.cl2 ⟨Tryz.prog,w0⟩ 37 H9.sg [] [c0,c1] K:=
 AD (C:=⟨Tryz.prog,w0⟩) (f:=37) (fn:=Tryz.f37) [(74,FI.sg),(75,G8.sg)] [(8,[0,0,0,6,14,0,0,96,224,511,1023,2047,2047,0,12287,32767])] [(250,⟨[.t (.f 0) 5, .t (.f 1) 3, .p (.j 0) 0, .t (.j 1) 1, .v],[],[.bx [.v, .t (.j 2) 1], .ls, .ls]⟩)] Tryz.func37 (by kernel_rfl) (by kernel_rfl) (by kernel_rfl) h
def I1.sg:Sg:=⟨[(0,[.t 5 0])],[(1,[.v, .t 8, .t 2, .t 1, .t 1, .t 3])],[]⟩
def I1.txt (C:Ctx) (c0:List T) (K:J2):Prop:=
 cl2 C 36 KL.sg [] [c0] fun v1 d2=>
 cl2 C 37 H9.sg [] [c0,(nxc d2 4)] fun v3 d4=>
 K [(nx v3 0)] [(nxc d2 0),(nxc d2 1),(nxc d2 2),(nxc d2 3),(nxc d2 4)]
theorem I1.cl2 {w0:World} {c0:List T} {K:J2} (h:I1.txt ⟨Tryz.prog,w0⟩ c0 K):Eng.cl2 ⟨Tryz.prog,w0⟩ 10 I1.sg [] [c0] K:=
 AD (C:=⟨Tryz.prog,w0⟩) (f:=10) (fn:=Tryz.f10) [(36,KL.sg),(37,H9.sg)] [(2,[0,0,3,0,0,31,63])] [] Tryz.func10 (by kernel_rfl) (by kernel_rfl) (by kernel_rfl) h
def H4.sg:Sg:=⟨[(0,[.v])],[(1,[.v, .v, .v, .v, .v, .v, .t 1, .v])],[]⟩
def H4.txt (C:Ctx) (a0:Value) (K:J2):Prop:=
 K [(.bool false),a0,(.int .i64 0),(.int .i64 0),(.int .i64 0),(.int .i64 0),(.bool false)] [[T.c (.int .i64 (-1)),T.c (.int .i64 (-1)),T.c (.int .i64 (-1))]]
theorem H4.cl2 {w0:World} {a0:Value} {K:J2} (h:H4.txt ⟨Tryz.prog,w0⟩ a0 K):Eng.cl2 ⟨Tryz.prog,w0⟩ 82 H4.sg [a0] [] K:=
 AD (C:=⟨Tryz.prog,w0⟩) (f:=82) (fn:=Tryz.f82) [] [] [] Tryz.func82 (by kernel_rfl) (by kernel_rfl) (by kernel_rfl) h
def FM.sg:Sg:=⟨[],[(1,[.t 8, .t 2, .t 1, .t 1])],[]⟩
def FM.txt (C:Ctx) (K:J2):Prop:=
 mkW 16 (.int .i64 8) (.int .i64 8) fun n1=>
 BC (fun r4 x2 k3=>
 prP (bnI .lss (nx x2 0) (.int .i64 8)) fun t5_11=>
 AV t5_11 (
 cl2 C 82 H4.sg [(.int .i64 0)] [] fun v12 d13=>
 apW [T.c (nx v12 0),T.c (nx v12 1),T.c (nx v12 2),T.c (nx v12 3),T.c (nx v12 4),T.c (nx v12 5),T.l 1 (nxc d13 0),T.c (nx v12 6)] false (cnt 8 (nxc k3 0)) (cnt 8 [T.c (nx v12 0),T.c (nx v12 1),T.c (nx v12 2),T.c (nx v12 3),T.c (nx v12 4),T.c (nx v12 5),T.l 1 (nxc d13 0),T.c (nx v12 6)]) 80 (
 prP (bnI .add (nx x2 0) (.int .i64 1)) fun t12_14=>
 r4 [t12_14] [((nxc k3 0)++[T.c (nx v12 0),T.c (nx v12 1),T.c (nx v12 2),T.c (nx v12 3),T.c (nx v12 4),T.c (nx v12 5),T.l 1 (nxc d13 0),T.c (nx v12 6)]),(nxc k3 1)])) (
 K [] [(nxc k3 0),(nxc k3 1),[],[]])) [(.int .i64 0)] [[],(T8 (AA n1) [T.c (.bool false),T.c (.int .i64 0)])]
theorem FM.cl2 {w0:World} {K:J2} (h:FM.txt ⟨Tryz.prog,w0⟩ K):Eng.cl2 ⟨Tryz.prog,w0⟩ 43 FM.sg [] [] K:=
 AD (C:=⟨Tryz.prog,w0⟩) (f:=43) (fn:=Tryz.f43) [(82,H4.sg)] [(4,[0,1,0,4,15,31,63])] [(58,⟨[.p (.j 0) 0, .p (.j 1) 0, .v],[],[.bx [.z, .z, .z, .z], .bx [.t (.j 2) 8, .t (.j 3) 2, .z, .z], .ls, .ls]⟩)] Tryz.func43 (by kernel_rfl) (by kernel_rfl) (by kernel_rfl) h
def fT.sg:Sg:=⟨[(0,[.t 5 0])],[(9,[])],[]⟩
def GG.sg:Sg:=⟨[(1,[.t 8 0, .t 2 0, .t 1 0, .t 1 0])],[(0,[.v])],[]⟩
def GG.txt (C:Ctx) (c0 c1 c2 c3:List T) (K:J2):Prop:=
 BC (fun r3 x1 k2=>
 prP (bnI .lss (nx x1 1) (nx x1 0)) fun t9_5=>
 AV t9_5 (
 ixW (cnt 8 c0) (nx x1 1) fun t11_6=>
 ldg c0 [] ((AA t11_6)*8) [.c, .c, .c, .c, .c, .c, .l 1, .c] fun ts7=>
 prP (bnI .lss (nx x1 1) (.int .i64 8)) fun t14_8=>
 gE t14_8 (
 gE t14_8 (
 gP t14_8 true (prP (un .not (tv (nxT ts7 0)))) fun t18_9=>
 prP (pk t14_8 t18_9 (.bool false)) fun t19_10=>
 gE t19_10 (
 gE t19_10 (
 gP t19_10 true (prP (bnI .lss (tv (nxT ts7 1)) (.int .i64 999))) fun t23_11=>
 prP (pk t19_10 t23_11 (.bool false)) fun t24_12=>
 AV t24_12 (
 K [(nx x1 1)] []) (
 prP (bnI .add (nx x1 1) (.int .i64 1)) fun t26_13=>
 r3 [(nx x1 0),t26_13] [])))))) (
 K [(.int .i64 (-1))] [])) [(iv (cnt 8 c0)),(.int .i64 0)] []
theorem GG.cl2 {w0:World} {c0 c1 c2 c3:List T} {K:J2} (h:GG.txt ⟨Tryz.prog,w0⟩ c0 c1 c2 c3 K):Eng.cl2 ⟨Tryz.prog,w0⟩ 167 GG.sg [] [c0,c1,c2,c3] K:=
 AD (C:=⟨Tryz.prog,w0⟩) (f:=167) (fn:=Tryz.f167) [] [] [(26,⟨[.t (.f 0) 8, .v, .v],[],[]⟩)] Tryz.func167 (by kernel_rfl) (by kernel_rfl) (by kernel_rfl) h
def ET.sg:Sg:=⟨[(0,[.t 1 0]),(0,[.v])],[(0,[.v])],[]⟩
def ET.txt (C:Ctx) (a0:Value) (c0:List T) (K:J2):Prop:=
 BC (fun r3 x1 k2=>
 prP (bnI .lss (nx x1 2) (nx x1 1)) fun t10_5=>
 AV t10_5 (
 ixW (cnt 1 c0) (nx x1 2) fun t12_6=>
 ldc c0 [] ((AA t12_6)*1) fun t13_7=>
 prP (bnS .eql t13_7 (nx x1 0)) fun t16_8=>
 AV t16_8 (
 K [(nx x1 2)] []) (
 prP (bnI .add (nx x1 2) (.int .i64 1)) fun t18_9=>
 r3 [(nx x1 0),(nx x1 1),t18_9] [])) (
 K [(.int .i64 (-1))] [])) [a0,(iv (cnt 1 c0)),(.int .i64 0)] []
theorem ET.cl2 {w0:World} {a0:Value} {c0:List T} {K:J2} (h:ET.txt ⟨Tryz.prog,w0⟩ a0 c0 K):Eng.cl2 ⟨Tryz.prog,w0⟩ 91 ET.sg [a0] [c0] K:=
 AD (C:=⟨Tryz.prog,w0⟩) (f:=91) (fn:=Tryz.f91) [] [] [(26,⟨[.v, .t (.f 0) 1, .v, .v],[],[]⟩)] Tryz.func91 (by kernel_rfl) (by kernel_rfl) (by kernel_rfl) h
def B6.sg:Sg:=⟨[(0,[.v]),(0,[.v]),(0,[.v])],[(0,[.v])],[]⟩
def B6.txt (C:Ctx) (a0 a1 a2:Value) (K:J2):Prop:=
 prP (bnI .geq a0 a1) fun t9_1=>
 gE t9_1 (
 gE t9_1 (
 gP t9_1 true (prP (bnI .leq a0 a2)) fun t13_2=>
 prP (pk t9_1 t13_2 (.bool false)) fun t14_3=>
 K [t14_3] []))
theorem B6.cl2 {w0:World} {a0 a1 a2:Value} {K:J2} (h:B6.txt ⟨Tryz.prog,w0⟩ a0 a1 a2 K):Eng.cl2 ⟨Tryz.prog,w0⟩ 94 B6.sg [a0,a1,a2] [] K:=
 AD (C:=⟨Tryz.prog,w0⟩) (f:=94) (fn:=Tryz.f94) [] [] [] Tryz.func94 (by kernel_rfl) (by kernel_rfl) (by kernel_rfl) h
def BX.sg:Sg:=⟨[(0,[.v])],[(1,[.v, .v, .t 1])],[]⟩
def BX.txt (C:Ctx) (a0:Value) (K:J2):Prop:=
 K [a0,(.int .i64 0)] [[]]
theorem BX.cl2 {w0:World} {a0:Value} {K:J2} (h:BX.txt ⟨Tryz.prog,w0⟩ a0 K):Eng.cl2 ⟨Tryz.prog,w0⟩ 85 BX.sg [a0] [] K:=
 AD (C:=⟨Tryz.prog,w0⟩) (f:=85) (fn:=Tryz.f85) [] [] [] Tryz.func85 (by kernel_rfl) (by kernel_rfl) (by kernel_rfl) h
def F7.sg:Sg:=⟨[(0,[.v]),(0,[.v])],[(0,[.v])],[]⟩
def F7.txt (C:Ctx) (a0 a1:Value) (K:J2):Prop:=
 cl2 C 94 B6.sg [a0,(.int .i64 0),(.int .i64 7)] [] fun v1 d2=>
 prP (un .not (nx v1 0)) fun t7_4=>
 gE t7_4 (
 gP t7_4 false ((fun K=>cl2 C 94 B6.sg [a1,(.int .i64 1),(.int .i64 999)] [] fun v5 d6=>K (nx v5 0))) fun t10_7=>
 gP t7_4 false (prP (un .not t10_7)) fun t11_8=>
 prP (pk t7_4 (.bool true) t11_8) fun t12_9=>
 AV t12_9 (
 K [(.int .i64 (-1))] []) (
 prP (bnI .mul (.int .i64 8) a1) fun t15_10=>
 prP (bnI .add a0 t15_10) fun t16_11=>
 K [t16_11] []))
theorem F7.cl2 {w0:World} {a0 a1:Value} {K:J2} (h:F7.txt ⟨Tryz.prog,w0⟩ a0 a1 K):Eng.cl2 ⟨Tryz.prog,w0⟩ 168 F7.sg [a0,a1] [] K:=
 AD (C:=⟨Tryz.prog,w0⟩) (f:=168) (fn:=Tryz.f168) [(94,B6.sg)] [] [] Tryz.func168 (by kernel_rfl) (by kernel_rfl) (by kernel_rfl) h
def EH.sg:Sg:=⟨[(2,[.t 8 2, .t 2 0, .t 1 0, .t 1 2]),(0,[.v])],[(1,[.v, .v, .t 1])],[[.t 8, .a 1, .a 2, .t 1]]⟩
def EH.txt (C:Ctx) (a0:Value) (c0 c1 c2 c3:List T) (K:J2):Prop:=
 cl2 C 167 GG.sg [] [c0,c1,c2,c3] fun v1 d2=>
 cl2 C 91 ET.sg [a0] [c3] fun v4 d5=>
 BW (fun x8 k9=>
 ixW (cnt 8 (nxc k9 0)) (nx x8 0) fun t63_27=>
 ldc (nxc k9 0) [] (((AA t63_27)*8)+1) fun t65_28=>
 prP (bnI .add t65_28 (.int .i64 1)) fun t66_29=>
 ixW (cnt 8 (nxc k9 0)) (nx x8 0) fun t76_30=>
 stg (nxc k9 0) [] ((AA t76_30)*8) [T.c (.bool true),T.c t66_29,T.c (nx x8 1),T.c (.int .i64 1),T.c (.int .i64 0),T.c (.int .i64 1),T.l 1 [T.c (.int .i64 (-1)),T.c (.int .i64 (-1)),T.c (.int .i64 (-1))],T.c (.bool false)] fun k31=>
 cl2 C 168 F7.sg [(nx x8 0),t66_29] [] fun v32 d33=>
 K [(.int .i64 0),(nx v32 0)] [[],k31,(nxc k9 1)]) fun j10=>
 prP (lnS a0) fun t20_11=>
 cl2 C 94 B6.sg [t20_11,(.int .i64 1),(.int .i64 8)] [] fun v12 d13=>
 prP (un .not (nx v12 0)) fun t22_15=>
 AV t22_15 (
 cl2 C 85 BX.sg [(.int .i64 2)] [] fun v16 d17=>
 K [(nx v16 0),(nx v16 1)] [(nxc d17 0),c0,c3]) (
 prP (bnI .lss (nx v1 0) (.int .i64 0)) fun t26_18=>
 AV t26_18 (
 cl2 C 85 BX.sg [(.int .i64 3)] [] fun v19 d20=>
 K [(nx v19 0),(nx v19 1)] [(nxc d20 0),c0,c3]) (
 prP (bnI .lss (nx v4 0) (.int .i64 0)) fun t30_21=>
 gE t30_21 (
 gE t30_21 (
 gE t30_21 (
 gE t30_21 (
 gE t30_21 (
 gP t30_21 true (prP (bnI .geq (iv (cnt 1 c3)) (.int .i64 6))) fun t37_22=>
 prP (pk t30_21 t37_22 (.bool false)) fun t38_23=>
 AV t38_23 (
 cl2 C 85 BX.sg [(.int .i64 6)] [] fun v24 d25=>
 K [(nx v24 0),(nx v24 1)] [(nxc d25 0),c0,c3]) (
 prP (bnI .lss (nx v4 0) (.int .i64 0)) fun t42_26=>
 AV t42_26 (
 apW [T.c a0] true (cnt 1 c3) (cnt 1 [T.c a0]) 16 (
 j10 [(nx v1 0),(iv (cnt 1 c3)),(.int .i64 0),(.int .i64 0)] [c0,(c3++[T.c a0])])) (
 j10 [(nx v1 0),(nx v4 0),(.int .i64 0),(.int .i64 0)] [c0,c3])))))))))
theorem EH.cl2 {w0:World} {a0:Value} {c0 c1 c2 c3:List T} {K:J2} (h:EH.txt ⟨Tryz.prog,w0⟩ a0 c0 c1 c2 c3 K):Eng.cl2 ⟨Tryz.prog,w0⟩ 126 EH.sg [a0] [c0,c1,c2,c3] K:=
 AD (C:=⟨Tryz.prog,w0⟩) (f:=126) (fn:=Tryz.f126) [(167,GG.sg),(91,ET.sg),(94,B6.sg),(85,BX.sg),(168,F7.sg)] [] [(15,⟨[.p (.j 0) 0, .p (.j 1) 0, .v, .v],[.p (.j 0) 0, .w, .t (.f 0) 2, .t (.f 1) 1, .w],[.bx [.t (.j 2) 8, .t (.f 0) 2, .t (.f 1) 1, .t (.j 3) 1], .bx [.v, .v, .z], .ls, .ls]⟩)] Tryz.func126 (by kernel_rfl) (by kernel_rfl) (by kernel_rfl) h
def BZ.sg:Sg:=⟨[(1,[.t 8 0, .t 2 0, .t 1 0, .t 1 0]),(0,[.v])],[(0,[.v])],[]⟩
def BZ.txt (C:Ctx) (a0:Value) (c0 c1 c2 c3:List T) (K:J2):Prop:=
 prP (bnI .lss a0 (.int .i64 8)) fun t8_1=>
 gE t8_1 (
 gE t8_1 (
 gE t8_1 (
 gP t8_1 false (prP (bnI .neq (iv (cnt 8 c0)) (.int .i64 8))) fun t13_2=>
 prP (pk t8_1 (.bool true) t13_2) fun t14_3=>
 AV t14_3 (
 K [(.int .i64 (-1))] []) (
 prP (bnI .rem a0 (.int .i64 8)) fun t16_4=>
 ixW (cnt 8 c0) t16_4 fun t20_5=>
 ldg c0 [] ((AA t20_5)*8) [.c, .c, .c, .c, .c, .c, .l 1, .c] fun ts6=>
 prP (un .not (tv (nxT ts6 0))) fun t24_7=>
 gE t24_7 (
 gE t24_7 (
 gE t24_7 (
 gP t24_7 false (prP (bnI .quo a0 (.int .i64 8))) fun t29_8=>
 gP t24_7 false (prP (bnI .neq (tv (nxT ts6 1)) t29_8)) fun t30_9=>
 prP (pk t24_7 (.bool true) t30_9) fun t31_10=>
 AV t31_10 (
 K [(.int .i64 (-1))] []) (
 K [t16_4] []))))))))
theorem BZ.cl2 {w0:World} {a0:Value} {c0 c1 c2 c3:List T} {K:J2} (h:BZ.txt ⟨Tryz.prog,w0⟩ a0 c0 c1 c2 c3 K):Eng.cl2 ⟨Tryz.prog,w0⟩ 147 BZ.sg [a0] [c0,c1,c2,c3] K:=
 AD (C:=⟨Tryz.prog,w0⟩) (f:=147) (fn:=Tryz.f147) [] [] [] Tryz.func147 (by kernel_rfl) (by kernel_rfl) (by kernel_rfl) h
def DR.sg:Sg:=⟨[(2,[.t 8 2, .t 2 0, .t 1 0, .t 1 0]),(0,[.v])],[],[[.t 8, .a 1, .a 2, .a 3]]⟩
def DR.txt (C:Ctx) (a0:Value) (c0 c1 c2 c3:List T) (K:J2):Prop:=
 cl2 C 147 BZ.sg [a0] [c0,c1,c2,c3] fun v1 d2=>
 prP (bnI .geq (nx v1 0) (.int .i64 0)) fun t11_4=>
 AV t11_4 (
 ixW (cnt 8 c0) (nx v1 0) fun t17_5=>
 ldc c0 [] (((AA t17_5)*8)+5) fun t19_6=>
 prP (bnI .add t19_6 (.int .i64 1)) fun t20_7=>
 ixW (cnt 8 c0) (nx v1 0) fun t21_8=>
 stc c0 [] (((AA t21_8)*8)+5) t20_7 fun k9=>
 K [] [k9]) (
 K [] [c0])
theorem DR.cl2 {w0:World} {a0:Value} {c0 c1 c2 c3:List T} {K:J2} (h:DR.txt ⟨Tryz.prog,w0⟩ a0 c0 c1 c2 c3 K):Eng.cl2 ⟨Tryz.prog,w0⟩ 169 DR.sg [a0] [c0,c1,c2,c3] K:=
 AD (C:=⟨Tryz.prog,w0⟩) (f:=169) (fn:=Tryz.f169) [(147,BZ.sg)] [] [] Tryz.func169 (by kernel_rfl) (by kernel_rfl) (by kernel_rfl) h
end Go.Proofs.YtnhicpkhkaihoaaGreat.P
