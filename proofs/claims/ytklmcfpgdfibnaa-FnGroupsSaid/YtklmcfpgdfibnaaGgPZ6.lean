/- A part of the proof. -/
import Derived.Test.YtklmcfpgdfibnaaChecked
import Derived.Test.YtklmcfpgdfibnaaGgPZ5
import Derived.KernelRfl
namespace Go.Proofs.Ytklmcfpgdfibnaa.P
open Go Go.Proofs.Ytklmcfpgdfibnaa Go.Proofs.Ytklmcfpgdfibnaa.Eng
set_option linter.unusedVariables false
set_option maxRecDepth 100000
def FV.sg:Sg:=⟨[(1,[.t 8 0, .t 2 0, .t 1 0, .t 1 0])],[(0,[.t 1])],[]⟩
def FV.txt (C:Ctx) (c0 c1 c2 c3:List T) (K:J2):Prop:=
 cl2 C 30 CW.sg [] [c0,c1,c2,c3] fun v1 d2=>
 prP (bnI .neq (iv (cnt 8 c0)) (.int .i64 8)) fun t16_3=>
 AV t16_3 (
 K [] [[]]) (
 BC (fun r6 x4 k5=>
 prP (bnI .lss (nx x4 0) (iv (cnt 1 (nxc k5 2)))) fun t21_8=>
 AV t21_8 (
 BS (fun x10 k11=>
 prP (bnI .add (nx x10 0) (.int .i64 1)) fun t23_48=>
 r6 [t23_48] [(nxc k11 0),(nxc k11 1),(nxc k11 2)]) fun j12=>
 ixW (cnt 1 (nxc k5 2)) (nx x4 0) fun t27_13=>
 ldc (nxc k5 2) [] ((AB t27_13)*1) fun t28_14=>
 cl2 C 89 CI.sg [t28_14] [(nxc k5 1)] fun v15 d16=>
 AV (nx v15 0) (
 j12 [(nx x4 0)] [(nxc k5 0),(nxc k5 1),(nxc k5 2)]) (
 ixW (cnt 1 (nxc k5 2)) (nx x4 0) fun t32_18=>
 ldc (nxc k5 2) [] ((AB t32_18)*1) fun t33_19=>
 prP (bnI .add (nx x4 0) (.int .i64 1)) fun t37_20=>
 BC (fun r23 x21 k22=>
 prP (bnI .lss (nx x21 1) (iv (cnt 1 (nxc k22 2)))) fun t41_25=>
 AV t41_25 (
 BS (fun x27 k28=>
 prP (bnI .add (nx x27 1) (.int .i64 1)) fun t43_47=>
 r23 [(nx x27 0),t43_47] [(nxc k28 0),(nxc k28 1),(nxc k28 2),(nxc k28 3)]) fun j29=>
 ixW (cnt 1 (nxc k22 2)) (nx x21 0) fun t47_30=>
 ldc (nxc k22 2) [] ((AB t47_30)*1) fun t48_31=>
 ixW (cnt 1 (nxc k22 2)) (nx x21 1) fun t51_32=>
 ldc (nxc k22 2) [] ((AB t51_32)*1) fun t52_33=>
 cl2 C 26 C7.sg [t48_31,t52_33] [c0,c1,c2,c3] fun v34 d35=>
 gE (nx v34 0) (
 gE (nx v34 0) (
 gE (nx v34 0) (
 gP (nx v34 0) true (ixW (cnt 1 (nxc k22 2)) (nx x21 1)) fun t58_37=>
 gP (nx v34 0) true (ldc (nxc k22 2) [] ((AB t58_37)*1)) fun t59_38=>
 gE (nx v34 0) (
 gE (nx v34 0) (
 gP (nx v34 0) true (ixW (cnt 1 (nxc k22 2)) (nx x21 0)) fun t62_39=>
 gP (nx v34 0) true (ldc (nxc k22 2) [] ((AB t62_39)*1)) fun t63_40=>
 gP (nx v34 0) true ((fun K=>cl2 C 26 C7.sg [t59_38,t63_40] [c0,c1,c2,c3] fun v41 d42=>K (nx v41 0))) fun t64_43=>
 prP (pk (nx v34 0) t64_43 (.bool false)) fun t65_44=>
 AV t65_44 (
 ixW (cnt 1 (nxc k22 2)) (nx x21 1) fun t70_45=>
 ldc (nxc k22 2) [] ((AB t70_45)*1) fun t71_46=>
 apW [T.c t71_46] true (cnt 1 (nxc k22 3)) (cnt 1 [T.c t71_46]) 8 (
 j29 [(nx x21 0),(nx x21 1)] [(nxc k22 0),(nxc k22 1),(nxc k22 2),((nxc k22 3)++[T.c t71_46])])) (
 j29 [(nx x21 0),(nx x21 1)] [(nxc k22 0),(nxc k22 1),(nxc k22 2),(nxc k22 3)]))))))) (
 apW (nxc k22 3) true (cnt 1 (nxc k22 1)) (cnt 1 (nxc k22 3)) 8 (
 apW [T.l 1 (nxc k22 3)] false (cnt 1 (nxc k22 0)) (cnt 1 [T.l 1 (nxc k22 3)]) 24 (
 j12 [(nx x21 0)] [((nxc k22 0)++[T.l 1 (nxc k22 3)]),((nxc k22 1)++(nxc k22 3)),(nxc k22 2)])))) [(nx x4 0),t37_20] [(nxc k5 0),(nxc k5 1),(nxc k5 2),[T.c t33_19]])) (
 K [] [(nxc k5 0)])) [(.int .i64 0)] [[],[],(nxc d2 0)])
theorem FV.cl2 {w0:World} {c0 c1 c2 c3:List T} {K:J2} (h:FV.txt ⟨Try.prog,w0⟩ c0 c1 c2 c3 K):Eng.cl2 ⟨Try.prog,w0⟩ 68 FV.sg [] [c0,c1,c2,c3] K:=
 AY (C:=⟨Try.prog,w0⟩) (f:=68) (fn:=Try.f68) [(30,CW.sg),(89,CI.sg),(26,C7.sg)] [(14,[0,0,0,6,14,0,0,96,224,511,1023,2047,2047,2047,14335,30719,2047,2047,198655,460799,1048575,2097151]),(15,[0,1,0,0,12,28,60,127,255,511])] [(1036905,⟨[.p (.j 0) 0, .t (.j 1) 1, .t (.j 2) 1, .t (.j 3) 1, .v, .p (.j 4) 0, .v],[],[.bx [.t (.f 0) 8, .t (.f 1) 2, .t (.f 2) 1, .t (.f 3) 1], .ls, .ls, .ls, .bx [.t (.j 5) 1], .ls]⟩),(259226,⟨[.p (.j 0) 0, .t (.j 1) 1, .t (.j 2) 1, .t (.j 3) 1, .v, .p (.j 4) 0, .v],[],[.bx [.t (.f 0) 8, .t (.f 1) 2, .t (.f 2) 1, .t (.f 3) 1], .ls, .ls, .ls, .bx [.t (.j 5) 1], .ls]⟩),(2025,⟨[.p (.j 0) 0, .t (.j 1) 1, .t (.j 2) 1, .t (.j 3) 1, .v],[],[.bx [.t (.f 0) 8, .t (.f 1) 2, .t (.f 2) 1, .t (.f 3) 1], .ls, .ls, .ls]⟩),(506,⟨[.p (.j 0) 0, .t (.j 1) 1, .t (.j 2) 1, .t (.j 3) 1, .v],[],[.bx [.t (.f 0) 8, .t (.f 1) 2, .t (.f 2) 1, .t (.f 3) 1], .ls, .ls, .ls]⟩)] Try.func68 (by kernel_rfl) (by kernel_rfl) (by kernel_rfl) h
def DC.sg:Sg:=⟨[(0,[.t 1 0]),(0,[.t 1 0])],[(0,[.v])],[]⟩
def DC.txt (C:Ctx) (c0 c1:List T) (K:J2):Prop:=
 prP (bnI .neq (iv (cnt 1 c0)) (iv (cnt 1 c1))) fun t10_1=>
 AV t10_1 (
 K [(.bool false)] []) (
 BC (fun r4 x2 k3=>
 prP (bnI .lss (nx x2 0) (iv (cnt 1 c0))) fun t14_6=>
 AV t14_6 (
 ixW (cnt 1 c0) (nx x2 0) fun t19_7=>
 ldl c0 [] ((AB t19_7)*1) 1 fun t21_8=>
 ixW (cnt 1 c1) (nx x2 0) fun t24_9=>
 ldl c1 [] ((AB t24_9)*1) 1 fun t26_10=>
 cl2 C 104 FZ.sg [] [(DN c0 [((AB t19_7)*1)]),(DN c1 [((AB t24_9)*1)])] fun v11 d12=>
 prP (un .not (nx v11 0)) fun t28_14=>
 AV t28_14 (
 K [(.bool false)] []) (
 prP (bnI .add (nx x2 0) (.int .i64 1)) fun t16_15=>
 r4 [t16_15] [])) (
 K [(.bool true)] [])) [(.int .i64 0)] [])
theorem DC.cl2 {w0:World} {c0 c1:List T} {K:J2} (h:DC.txt ⟨Try.prog,w0⟩ c0 c1 K):Eng.cl2 ⟨Try.prog,w0⟩ 67 DC.sg [] [c0,c1] K:=
 AY (C:=⟨Try.prog,w0⟩) (f:=67) (fn:=Try.f67) [(104,FZ.sg)] [(6,[0,0,3,7,15,0,0,96,224,480,1023,2047])] [(58,⟨[.t (.f 0) 1, .t (.f 1) 1, .v],[],[]⟩)] Try.func67 (by kernel_rfl) (by kernel_rfl) (by kernel_rfl) h
def FF.sg:Sg:=⟨[(0,[.t 1 0])],[(0,[.v])],[]⟩
def FF.txt (C:Ctx) (c0:List T) (K:J2):Prop:=
 cl2 C 17 JD.sg [] [c0] fun v1 d2=>
 AV (nx v1 0) (
 K [(.bool true)] []) (
 cl2 C 62 DD.sg [] [c0] fun v4 d5=>
 cl2 C 19 EJ.sg [] [(nxc d5 0),(nxc d5 1),(nxc d5 2),(nxc d5 3)] fun v6 d7=>
 prP (un .not (nx v6 0)) fun t19_9=>
 AV t19_9 (
 K [(.bool true)] []) (
 cl2 C 63 EM.sg [] [(nxc d5 0),(nxc d5 1),(nxc d5 2),(nxc d5 3)] fun v10 d11=>
 BC (fun r14 x12 k13=>
 prP (bnI .lss (nx x12 0) (iv (cnt 1 (nxc k13 0)))) fun t26_16=>
 AV t26_16 (
 ixW (cnt 1 (nxc k13 0)) (nx x12 0) fun t31_17=>
 ldl (nxc k13 0) [] ((AB t31_17)*1) 1 fun t33_18=>
 prP (bnI .eql (iv (cnt 1 (DN (nxc k13 0) [((AB t31_17)*1)]))) (.int .i64 0)) fun t35_19=>
 AV t35_19 (
 K [(.bool false)] []) (
 BC (fun r22 x20 k21=>
 ixW (cnt 1 (nxc k21 0)) (nx x20 0) fun t39_24=>
 ldl (nxc k21 0) [] ((AB t39_24)*1) 1 fun t41_25=>
 prP (bnI .lss (nx x20 1) (iv (cnt 1 (DN (nxc k21 0) [((AB t39_24)*1)])))) fun t43_26=>
 AV t43_26 (
 ixW (cnt 1 (nxc k21 0)) (nx x20 0) fun t48_27=>
 ldl (nxc k21 0) [] ((AB t48_27)*1) 1 fun t50_28=>
 ixW (cnt 1 (DN (nxc k21 0) [((AB t48_27)*1)])) (nx x20 1) fun t52_29=>
 ldc (nxc k21 0) [((AB t48_27)*1)] ((AB t52_29)*1) fun t53_30=>
 cl2 C 25 JE.sg [t53_30] [(nxc k21 1)] fun v31 d32=>
 AV (nx v31 0) (
 K [(.bool false)] []) (
 apW [T.c t53_30] true (cnt 1 (nxc k21 1)) (cnt 1 [T.c t53_30]) 8 (
 prP (bnI .gtr (nx x20 1) (.int .i64 0)) fun t62_34=>
 gE t62_34 (
 gE t62_34 (
 gE t62_34 (
 gP t62_34 true (ixW (cnt 1 (nxc k21 0)) (nx x20 0)) fun t67_35=>
 gE t62_34 (
 gP t62_34 true (ldl (nxc k21 0) [] ((AB t67_35)*1) 1) fun t69_36=>
 gP t62_34 true (ixW (cnt 1 (DN (nxc k21 0) [((AB t67_35)*1)])) (.int .i64 0)) fun t70_37=>
 gP t62_34 true (ldc (nxc k21 0) [((AB t67_35)*1)] ((AB t70_37)*1)) fun t71_38=>
 gE t62_34 (
 gP t62_34 true ((fun K=>cl2 C 26 C7.sg [t71_38,t53_30] [(nxc k21 2),(nxc k21 3),(nxc k21 4),(nxc k21 5)] fun v39 d40=>K (nx v39 0))) fun t73_41=>
 gP t62_34 true (prP (un .not t73_41)) fun t74_42=>
 gE t62_34 (
 gE (B1 t62_34 true t74_42) (
 gE (B1 t62_34 true t74_42) (
 gE (B1 t62_34 true t74_42) (
 gE (B1 t62_34 true t74_42) (
 gP (B1 t62_34 true t74_42) false (ixW (cnt 1 (nxc k21 0)) (nx x20 0)) fun t80_43=>
 gE (B1 t62_34 true t74_42) (
 gP (B1 t62_34 true t74_42) false (ldl (nxc k21 0) [] ((AB t80_43)*1) 1) fun t82_44=>
 gP (B1 t62_34 true t74_42) false (ixW (cnt 1 (DN (nxc k21 0) [((AB t80_43)*1)])) (.int .i64 0)) fun t83_45=>
 gP (B1 t62_34 true t74_42) false (ldc (nxc k21 0) [((AB t80_43)*1)] ((AB t83_45)*1)) fun t84_46=>
 gP (B1 t62_34 true t74_42) false ((fun K=>cl2 C 64 DU.sg [t53_30,t84_46] [(nxc k21 2),(nxc k21 3),(nxc k21 4),(nxc k21 5)] fun v47 d48=>K (nx v47 0))) fun t85_49=>
 gP (B1 t62_34 true t74_42) false (prP (un .not t85_49)) fun t86_50=>
 gP t62_34 true (prP (pk t74_42 (.bool true) t86_50)) fun t87_51=>
 prP (pk t62_34 t87_51 (.bool false)) fun t88_52=>
 AV t88_52 (
 K [(.bool false)] []) (
 prP (bnI .add (nx x20 1) (.int .i64 1)) fun t45_53=>
 r22 [(nx x20 0),t45_53] [(nxc k21 0),((nxc k21 1)++[T.c t53_30]),(nxc k21 2),(nxc k21 3),(nxc k21 4),(nxc k21 5)]))))))))))))))) (
 BC (fun r56 x54 k55=>
 prP (bnI .lss (nx x54 1) (nx x54 0)) fun t91_58=>
 AV t91_58 (
 ixW (cnt 1 (nxc k55 0)) (nx x54 1) fun t96_59=>
 ldl (nxc k55 0) [] ((AB t96_59)*1) 1 fun t98_60=>
 prP (bnI .eql (iv (cnt 1 (DN (nxc k55 0) [((AB t96_59)*1)]))) (.int .i64 0)) fun t100_61=>
 gE t100_61 (
 gE t100_61 (
 gE t100_61 (
 gP t100_61 false (ixW (cnt 1 (nxc k55 0)) (nx x54 0)) fun t105_62=>
 gE t100_61 (
 gP t100_61 false (ldl (nxc k55 0) [] ((AB t105_62)*1) 1) fun t107_63=>
 gP t100_61 false (ixW (cnt 1 (DN (nxc k55 0) [((AB t105_62)*1)])) (.int .i64 0)) fun t108_64=>
 gP t100_61 false (ldc (nxc k55 0) [((AB t105_62)*1)] ((AB t108_64)*1)) fun t109_65=>
 gE t100_61 (
 gE t100_61 (
 gP t100_61 false (ixW (cnt 1 (nxc k55 0)) (nx x54 1)) fun t112_66=>
 gE t100_61 (
 gP t100_61 false (ldl (nxc k55 0) [] ((AB t112_66)*1) 1) fun t114_67=>
 gP t100_61 false (ixW (cnt 1 (DN (nxc k55 0) [((AB t112_66)*1)])) (.int .i64 0)) fun t115_68=>
 gP t100_61 false (ldc (nxc k55 0) [((AB t112_66)*1)] ((AB t115_68)*1)) fun t116_69=>
 gP t100_61 false ((fun K=>cl2 C 26 C7.sg [t109_65,t116_69] [(nxc k55 2),(nxc k55 3),(nxc k55 4),(nxc k55 5)] fun v70 d71=>K (nx v70 0))) fun t117_72=>
 gE t100_61 (
 gE (B1 t100_61 false t117_72) (
 gE (B1 t100_61 false t117_72) (
 gE (B1 t100_61 false t117_72) (
 gP (B1 t100_61 false t117_72) true (ixW (cnt 1 (nxc k55 0)) (nx x54 1)) fun t122_73=>
 gE (B1 t100_61 false t117_72) (
 gP (B1 t100_61 false t117_72) true (ldl (nxc k55 0) [] ((AB t122_73)*1) 1) fun t124_74=>
 gP (B1 t100_61 false t117_72) true (ixW (cnt 1 (DN (nxc k55 0) [((AB t122_73)*1)])) (.int .i64 0)) fun t125_75=>
 gP (B1 t100_61 false t117_72) true (ldc (nxc k55 0) [((AB t122_73)*1)] ((AB t125_75)*1)) fun t126_76=>
 gE (B1 t100_61 false t117_72) (
 gE (B1 t100_61 false t117_72) (
 gP (B1 t100_61 false t117_72) true (ixW (cnt 1 (nxc k55 0)) (nx x54 0)) fun t129_77=>
 gE (B1 t100_61 false t117_72) (
 gP (B1 t100_61 false t117_72) true (ldl (nxc k55 0) [] ((AB t129_77)*1) 1) fun t131_78=>
 gP (B1 t100_61 false t117_72) true (ixW (cnt 1 (DN (nxc k55 0) [((AB t129_77)*1)])) (.int .i64 0)) fun t132_79=>
 gP (B1 t100_61 false t117_72) true (ldc (nxc k55 0) [((AB t129_77)*1)] ((AB t132_79)*1)) fun t133_80=>
 gP (B1 t100_61 false t117_72) true ((fun K=>cl2 C 26 C7.sg [t126_76,t133_80] [(nxc k55 2),(nxc k55 3),(nxc k55 4),(nxc k55 5)] fun v81 d82=>K (nx v81 0))) fun t134_83=>
 gP t100_61 false (prP (pk t117_72 t134_83 (.bool false))) fun t135_84=>
 prP (pk t100_61 (.bool true) t135_84) fun t136_85=>
 AV t136_85 (
 K [(.bool false)] []) (
 prP (bnI .add (nx x54 1) (.int .i64 1)) fun t93_86=>
 r56 [(nx x54 0),t93_86] [(nxc k55 0),(nxc k55 1),(nxc k55 2),(nxc k55 3),(nxc k55 4),(nxc k55 5)]))))))))))))))))) (
 prP (bnI .add (nx x54 0) (.int .i64 1)) fun t28_87=>
 r14 [t28_87] [(nxc k55 0),(nxc k55 1),(nxc k55 2),(nxc k55 3),(nxc k55 4),(nxc k55 5)])) [(nx x20 0),(.int .i64 0)] [(nxc k21 0),(nxc k21 1),(nxc k21 2),(nxc k21 3),(nxc k21 4),(nxc k21 5)])) [(nx x12 0),(.int .i64 0)] [(nxc k13 0),(nxc k13 1),(nxc k13 2),(nxc k13 3),(nxc k13 4),(nxc k13 5)])) (
 cl2 C 65 GZ.sg [] [(nxc k13 2),(nxc k13 3),(nxc k13 4),(nxc k13 5)] fun v88 d89=>
 BC (fun r92 x90 k91=>
 prP (bnI .lss (nx x90 1) (iv (cnt 1 (nxc k91 0)))) fun t142_94=>
 AV t142_94 (
 BS (fun x96 k97=>
 prP (bnI .add (nx x96 1) (.int .i64 1)) fun t144_115=>
 r92 [(nx x96 0),t144_115] [(nxc k97 0),(nxc k97 1),(nxc k97 2),(nxc k97 3),(nxc k97 4),(nxc k97 5),(nxc k97 6)]) fun j98=>
 ixW (cnt 1 (nxc k91 0)) (nx x90 1) fun t147_99=>
 ldl (nxc k91 0) [] ((AB t147_99)*1) 1 fun t149_100=>
 prP (bnI .gtr (iv (cnt 1 (DN (nxc k91 0) [((AB t147_99)*1)]))) (.int .i64 1)) fun t151_101=>
 gE t151_101 (
 gE t151_101 (
 gE t151_101 (
 gP t151_101 false (ixW (cnt 1 (nxc k91 0)) (nx x90 1)) fun t156_102=>
 gE t151_101 (
 gP t151_101 false (ldl (nxc k91 0) [] ((AB t156_102)*1) 1) fun t158_103=>
 gP t151_101 false (ixW (cnt 1 (DN (nxc k91 0) [((AB t156_102)*1)])) (.int .i64 0)) fun t159_104=>
 gP t151_101 false (ldc (nxc k91 0) [((AB t156_102)*1)] ((AB t159_104)*1)) fun t160_105=>
 gE t151_101 (
 gE t151_101 (
 gP t151_101 false (ixW (cnt 1 (nxc k91 0)) (nx x90 1)) fun t163_106=>
 gE t151_101 (
 gP t151_101 false (ldl (nxc k91 0) [] ((AB t163_106)*1) 1) fun t165_107=>
 gP t151_101 false (ixW (cnt 1 (DN (nxc k91 0) [((AB t163_106)*1)])) (.int .i64 0)) fun t166_108=>
 gP t151_101 false (ldc (nxc k91 0) [((AB t163_106)*1)] ((AB t166_108)*1)) fun t167_109=>
 gP t151_101 false ((fun K=>cl2 C 26 C7.sg [t160_105,t167_109] [(nxc k91 3),(nxc k91 4),(nxc k91 5),(nxc k91 6)] fun v110 d111=>K (nx v110 0))) fun t168_112=>
 prP (pk t151_101 (.bool true) t168_112) fun t169_113=>
 AV t169_113 (
 prP (bnI .add (nx x90 0) (.int .i64 1)) fun t171_114=>
 j98 [t171_114,(nx x90 1)] [(nxc k91 0),(nxc k91 1),(nxc k91 2),(nxc k91 3),(nxc k91 4),(nxc k91 5),(nxc k91 6)]) (
 j98 [(nx x90 0),(nx x90 1)] [(nxc k91 0),(nxc k91 1),(nxc k91 2),(nxc k91 3),(nxc k91 4),(nxc k91 5),(nxc k91 6)]))))))))) (
 cl2 C 30 CW.sg [] [(nxc k91 3),(nxc k91 4),(nxc k91 5),(nxc k91 6)] fun v116 d117=>
 prP (bnI .eql (iv (cnt 1 (nxc k91 1))) (iv (cnt 1 (nxc d117 0)))) fun t177_118=>
 gE t177_118 (
 gC t177_118 true (cl2 C 66 F8.sg [] [(nxc k91 1)]) fun v119 d120=>
 gE t177_118 (
 gC t177_118 true (cl2 C 30 CW.sg [] [(nxc k91 3),(nxc k91 4),(nxc k91 5),(nxc k91 6)]) fun v121 d122=>
 gC t177_118 true (cl2 C 66 F8.sg [] [(nxc d122 0)]) fun v123 d124=>
 gP t177_118 true ((fun K=>cl2 C 31 EC.sg [] [(nxc d120 0),(nxc d124 0)] fun v125 d126=>K (nx v125 0))) fun t184_127=>
 prP (pk t177_118 t184_127 (.bool false)) fun t185_128=>
 gE t185_128 (
 gE t185_128 (
 gE t185_128 (
 gP t185_128 true (prP (bnI .eql (iv (cnt 1 (nxc k91 2))) (nx x90 0))) fun t190_129=>
 prP (pk t185_128 t190_129 (.bool false)) fun t191_130=>
 gE t191_130 (
 gE t191_130 (
 gC t191_130 true (cl2 C 68 FV.sg [] [(nxc k91 3),(nxc k91 4),(nxc k91 5),(nxc k91 6)]) fun v131 d132=>
 gP t191_130 true ((fun K=>cl2 C 67 DC.sg [] [(nxc k91 0),(nxc d132 0)] fun v133 d134=>K (nx v133 0))) fun t196_135=>
 prP (pk t191_130 t196_135 (.bool false)) fun t197_136=>
 K [t197_136] []))))))))) [(.int .i64 0),(.int .i64 0)] [(nxc k13 0),(nxc k13 1),(nxc d89 0),(nxc k13 2),(nxc k13 3),(nxc k13 4),(nxc k13 5)])) [(.int .i64 0)] [(nxc d11 0),[],(nxc d5 0),(nxc d5 1),(nxc d5 2),(nxc d5 3)]))
theorem FF.cl2 {w0:World} {c0:List T} {K:J2} (h:FF.txt ⟨Try.prog,w0⟩ c0 K):Eng.cl2 ⟨Try.prog,w0⟩ 10 FF.sg [] [c0] K:=
 AY (C:=⟨Try.prog,w0⟩) (f:=10) (fn:=Try.f10) [(17,JD.sg),(62,DD.sg),(19,EJ.sg),(63,EM.sg),(25,JE.sg),(26,C7.sg),(64,DU.sg),(65,GZ.sg),(30,CW.sg),(66,F8.sg),(31,EC.sg),(68,FV.sg),(67,DC.sg)] [(20,[0,1,3,7,7,7,55,119,247,503,1015,7,4095,8191,16383,32767,32767,32767,32767,425983,950271,1998847,4095999,8290303,16777215,33554431,67108863,134217727]),(25,[0,0,3,7,15,31,63,127,255,255,255,1791,3839,7935,16127,32511,255,255,196863,459007,983295,2031871,4129023,8388607,16777215,33554431,33554431,33554431,234881023,503316479,1040187391,2113929215,4261412863,33554431,33554431,25803358207,60163096575,128882573311,266321526783,541199433727,1099511627775,2199023255551,4398046511103]),(32,[0,0,3,7,15,31,63,127,255,255,255,1791,3839,7935,16127,32511,255,255,196863,459007,983295,2031871,4129023,8388607,16777215]),(34,[0,1,0,4,12,31,63,127,255,127,1023,2047,4095,8191,16383,32767,65535,32767,262143,524287,1048575,2097151,2097151,6291455,16777215,33554431,67108863])] [(260686,⟨[.p (.j 0) 0, .t (.j 1) 1, .t (.j 2) 1, .v, .v],[],[.bx [.t (.j 3) 8, .t (.j 4) 2, .t (.j 5) 1, .t (.j 6) 1], .ls, .ls, .ls, .ls, .ls, .ls]⟩),(260682,⟨[.p (.j 0) 0, .t (.j 1) 1, .t (.j 2) 1, .v, .v],[],[.bx [.t (.j 3) 8, .t (.j 4) 2, .t (.j 5) 1, .t (.j 6) 1], .ls, .ls, .ls, .ls, .ls, .ls]⟩),(32745,⟨[.p (.j 0) 0, .t (.j 1) 1, .t (.j 2) 1, .t (.j 3) 1, .v, .v],[],[.bx [.t (.j 4) 8, .t (.j 5) 2, .t (.j 6) 1, .t (.j 7) 1], .ls, .ls, .ls, .ls, .ls, .ls, .ls]⟩),(8186,⟨[.p (.j 0) 0, .t (.j 1) 1, .t (.j 2) 1, .t (.j 3) 1, .v, .v],[],[.bx [.t (.j 4) 8, .t (.j 5) 2, .t (.j 6) 1, .t (.j 7) 1], .ls, .ls, .ls, .ls, .ls, .ls, .ls]⟩),(1018,⟨[.p (.j 0) 0, .t (.j 1) 1, .t (.j 2) 1, .v],[],[.bx [.t (.j 3) 8, .t (.j 4) 2, .t (.j 5) 1, .t (.j 6) 1], .ls, .ls, .ls, .ls, .ls, .ls]⟩)] Try.func10 (by kernel_rfl) (by kernel_rfl) (by kernel_rfl) h
end Go.Proofs.Ytklmcfpgdfibnaa.P
