/- A part of the proof. -/
import Derived.Test.YtklmcfpgdfibnaaChecked
import Derived.Test.YtklmcfpgdfibnaaWaPZ3
import Derived.KernelRfl
namespace Go.Proofs.Ytklmcfpgdfibnaa.P
open Go Go.Proofs.Ytklmcfpgdfibnaa Go.Proofs.Ytklmcfpgdfibnaa.Eng
set_option linter.unusedVariables false
set_option maxRecDepth 100000
def EU.sg:Sg:=⟨[(0,[.t 1 0])],[(1,[.t 8, .t 2, .t 1, .t 1]),(0,[.v])],[]⟩
def EU.txt (C:Ctx) (c0:List T) (K:J2):Prop:=
 cl2 C 85 GS.sg [] [c0] fun v1 d2=>
 cl2 C 96 GQ.sg [(nx v1 0),(nx v1 1)] [c0] fun v3 d4=>
 cl2 C 113 FB.sg [(nx v3 0),(nx v3 1)] [c0,(nxc d4 0),(nxc d4 1),(nxc d4 2),(nxc d4 3)] fun v5 d6=>
 K [(nx v5 0)] [(nxc d4 0),(nxc d4 1),(nxc d4 2),(nxc d4 3)]
theorem EU.cl2 {w0:World} {c0:List T} {K:J2} (h:EU.txt ⟨Try.prog,w0⟩ c0 K):Eng.cl2 ⟨Try.prog,w0⟩ 53 EU.sg [] [c0] K:=
 AY (C:=⟨Try.prog,w0⟩) (f:=53) (fn:=Try.f53) [(85,GS.sg),(96,GQ.sg),(113,FB.sg)] [(3,[0,0,0,6,15,31])] [] Try.func53 (by kernel_rfl) (by kernel_rfl) (by kernel_rfl) h
def IT.sg:Sg:=⟨[(1,[.t 8 0, .t 2 0, .t 1 0, .t 1 0]),(0,[.v])],[(0,[.t 1])],[]⟩
def IT.txt (C:Ctx) (a0:Value) (c0 c1 c2 c3:List T) (K:J2):Prop:=
 cl2 C 81 DK.sg [a0] [c0,c1,c2,c3] fun v1 d2=>
 cl2 C 35 DM.sg [] [c0,c1,c2,c3] fun v4 d5=>
 cl2 C 102 FT.sg [(.int .i64 (-1))] [c0,c1,c2,c3,(nxc d5 0)] fun v6 d7=>
 prP (bnI .lss (nx v1 0) (.int .i64 0)) fun t16_8=>
 gE t16_8 (
 gE t16_8 (
 gE t16_8 (
 gE t16_8 (
 gP t16_8 false (ixW 8 (nx v1 0)) fun t22_9=>
 gP t16_8 false (prP (arG [(nx v6 8),(nx v6 9),(nx v6 10),(nx v6 11),(nx v6 12),(nx v6 13),(nx v6 14),(nx v6 15)] t22_9)) fun t23_10=>
 gP t16_8 false (prP (un .not t23_10)) fun t24_11=>
 prP (pk t16_8 (.bool true) t24_11) fun t25_12=>
 AX t25_12 (
 K [] [[]]) (
 BE (fun r15 x13 k14=>
 prP (bnI .geq (nx x13 0) (.int .i64 0)) fun t27_26=>
 AX t27_26 (
 ixW (cnt 8 c0) (nx x13 0) fun t38_27=>
 ldc c0 [] (((AD t38_27)*8)+1) fun t40_28=>
 cl2 C 98 F8.sg [(nx x13 0),t40_28] [] fun v29 d30=>
 apW (nxc k14 0) true (cnt 1 [T.c (nx v29 0)]) (cnt 1 (nxc k14 0)) 8 (
 ixW 8 (nx x13 0) fun t32_32=>
 prP (arG [(nx x13 1),(nx x13 2),(nx x13 3),(nx x13 4),(nx x13 5),(nx x13 6),(nx x13 7),(nx x13 8)] t32_32) fun t33_33=>
 r15 [t33_33,(nx x13 1),(nx x13 2),(nx x13 3),(nx x13 4),(nx x13 5),(nx x13 6),(nx x13 7),(nx x13 8),(nx x13 9),(nx x13 10),(nx x13 11),(nx x13 12),(nx x13 13),(nx x13 14),(nx x13 15),(nx x13 16)] [([T.c (nx v29 0)]++(nxc k14 0)),(nxc k14 1)])) (
 K [] [(nxc k14 0)])) [(nx v1 0),(nx v6 0),(nx v6 1),(nx v6 2),(nx v6 3),(nx v6 4),(nx v6 5),(nx v6 6),(nx v6 7),(nx v6 8),(nx v6 9),(nx v6 10),(nx v6 11),(nx v6 12),(nx v6 13),(nx v6 14),(nx v6 15)] [[],(nxc d7 0)])))))
theorem IT.cl2 {w0:World} {a0:Value} {c0 c1 c2 c3:List T} {K:J2} (h:IT.txt ⟨Try.prog,w0⟩ a0 c0 c1 c2 c3 K):Eng.cl2 ⟨Try.prog,w0⟩ 54 IT.sg [a0] [c0,c1,c2,c3] K:=
 AY (C:=⟨Try.prog,w0⟩) (f:=54) (fn:=Try.f54) [(81,DK.sg),(35,DM.sg),(102,FT.sg),(98,F8.sg)] [(2,[0,0,2,7,15])] [(252,⟨[.p (.j 0) 0, .v, .p (.j 1) 0, .t (.j 2) 1],[],[.bx [.t (.f 0) 8, .t (.f 1) 2, .t (.f 2) 1, .t (.f 3) 1], .bx [.t (.j 3) 1, .v, .v, .v, .v, .v, .v, .v, .v, .v, .v, .v, .v, .v, .v, .v, .v], .ls, .ls]⟩)] Try.func54 (by kernel_rfl) (by kernel_rfl) (by kernel_rfl) h
def IW.sg:Sg:=⟨[(1,[.t 8 0, .t 2 0, .t 1 0, .t 1 0]),(0,[.v])],[(0,[.t 1])],[]⟩
def IW.txt (C:Ctx) (a0:Value) (c0 c1 c2 c3:List T) (K:J2):Prop:=
 prP (bnI .neq (iv (cnt 8 c0)) (.int .i64 8)) fun t17_1=>
 gE t17_1 (
 gE t17_1 (
 gP t17_1 false ((fun K=>cl2 C 24 BD.sg [a0] [c0,c1,c2,c3] fun v2 d3=>K (nx v2 0))) fun t21_4=>
 gP t17_1 false (prP (bnI .lss t21_4 (.int .i64 0))) fun t22_5=>
 prP (pk t17_1 (.bool true) t22_5) fun t23_6=>
 AX t23_6 (
 K [] [[]]) (
 cl2 C 33 CF.sg [] [c0,c1,c2,c3] fun v7 d8=>
 BE (fun r11 x9 k10=>
 prP (bnI .lss (nx x9 1) (iv (cnt 1 (nxc k10 1)))) fun t31_13=>
 AX t31_13 (
 BK (fun x15 k16=>
 prP (bnI .add (nx x15 1) (.int .i64 1)) fun t33_26=>
 r11 [(nx x15 0),t33_26] [(nxc k16 0),(nxc k16 1)]) fun j17=>
 ixW (cnt 1 (nxc k10 1)) (nx x9 1) fun t37_18=>
 ldc (nxc k10 1) [] ((AD t37_18)*1) fun t38_19=>
 cl2 C 24 BD.sg [t38_19] [c0,c1,c2,c3] fun v20 d21=>
 prP (bnI .geq (nx v20 0) (.int .i64 0)) fun t40_23=>
 AX t40_23 (
 ixW (cnt 1 (nxc k10 1)) (nx x9 1) fun t44_24=>
 ldc (nxc k10 1) [] ((AD t44_24)*1) fun t45_25=>
 apW [T.c t45_25] true (cnt 1 (nxc k10 0)) (cnt 1 [T.c t45_25]) 8 (
 j17 [(nx x9 0),(nx x9 1)] [((nxc k10 0)++[T.c t45_25]),(nxc k10 1)])) (
 j17 [(nx x9 0),(nx x9 1)] [(nxc k10 0),(nxc k10 1)])) (
 mkW 8 (iv (cnt 1 (nxc k10 0))) (iv (cnt 1 (nxc k10 0))) fun n27=>
 BE (fun r30 x28 k29=>
 prP (bnI .lss (nx x28 1) (iv (cnt 1 (nxc k29 0)))) fun t54_32=>
 AX t54_32 (
 ixW (cnt 1 (nxc k29 0)) (nx x28 1) fun t59_33=>
 ldc (nxc k29 0) [] ((AD t59_33)*1) fun t60_34=>
 prP (bnI .eql t60_34 (nx x28 0)) fun t62_35=>
 AX t62_35 (
 BE (fun r38 x36 k37=>
 ixW (cnt 1 (nxc k37 1)) (nx x36 0) fun t68_40=>
 ldc (nxc k37 1) [] ((AD t68_40)*1) fun t69_41=>
 prP (bnI .gtr t69_41 (.int .i64 0)) fun t70_42=>
 AX t70_42 (
 ixW (cnt 1 (nxc k37 1)) (nx x36 0) fun t73_43=>
 ldc (nxc k37 1) [] ((AD t73_43)*1) fun t74_44=>
 prP (bnI .sub t74_44 (.int .i64 1)) fun t75_45=>
 ixW (cnt 1 (nxc k37 0)) t75_45 fun t78_46=>
 ldc (nxc k37 0) [] ((AD t78_46)*1) fun t79_47=>
 apW (nxc k37 2) true (cnt 1 [T.c t79_47]) (cnt 1 (nxc k37 2)) 8 (
 r38 [t75_45] [(nxc k37 0),(nxc k37 1),([T.c t79_47]++(nxc k37 2))])) (
 K [] [(nxc k37 2)])) [(nx x28 1)] [(nxc k29 0),(nxc k29 1),[T.c (nx x28 0)]]) (
 ixW (cnt 1 (nxc k29 0)) (nx x28 1) fun t89_48=>
 ldc (nxc k29 0) [] ((AD t89_48)*1) fun t90_49=>
 cl2 C 24 BD.sg [t90_49] [c0,c1,c2,c3] fun v50 d51=>
 ixW (cnt 8 c0) (nx v50 0) fun t92_53=>
 ldl c0 [] (((AD t92_53)*8)+6) 1 fun t94_54=>
 BE (fun r57 x55 k56=>
 prP (bnI .lss (nx x55 3) (iv (cnt 1 (FJ c0 [(AD (nx x55 2))])))) fun t98_59=>
 AX t98_59 (
 BK (fun x61 k62=>
 prP (bnI .add (nx x61 3) (.int .i64 1)) fun t100_80=>
 r57 [(nx x61 0),(nx x61 1),(iv (AD (nx x61 2))),t100_80] [(nxc k62 0),(nxc k62 1)]) fun j63=>
 ixW (cnt 1 (FJ c0 [(AD (nx x55 2))])) (nx x55 3) fun t104_64=>
 ldc c0 [(AD (nx x55 2))] ((AD t104_64)*1) fun t105_65=>
 cl2 C 24 BD.sg [t105_65] [c0,c1,c2,c3] fun v66 d67=>
 prP (bnI .geq (nx v66 0) (.int .i64 0)) fun t107_69=>
 gE t107_69 (
 gE t107_69 (
 gE t107_69 (
 gP t107_69 true (ixW (cnt 1 (FJ c0 [(AD (nx x55 2))])) (nx x55 3)) fun t112_70=>
 gP t107_69 true (ldc c0 [(AD (nx x55 2))] ((AD t112_70)*1)) fun t113_71=>
 gP t107_69 true ((fun K=>cl2 C 89 CA.sg [t113_71] [(nxc k56 0)] fun v72 d73=>K (nx v72 0))) fun t114_74=>
 gP t107_69 true (prP (un .not t114_74)) fun t115_75=>
 prP (pk t107_69 t115_75 (.bool false)) fun t116_76=>
 AX t116_76 (
 ixW (cnt 1 (FJ c0 [(AD (nx x55 2))])) (nx x55 3) fun t120_77=>
 ldc c0 [(AD (nx x55 2))] ((AD t120_77)*1) fun t121_78=>
 apW [T.c t121_78] true (cnt 1 (nxc k56 0)) (cnt 1 [T.c t121_78]) 8 (
 prP (bnI .add (nx x55 1) (.int .i64 1)) fun t126_79=>
 apW [T.c t126_79] true (cnt 1 (nxc k56 1)) (cnt 1 [T.c t126_79]) 8 (
 j63 [(nx x55 0),(nx x55 1),(iv (AD (nx x55 2))),(nx x55 3)] [((nxc k56 0)++[T.c t121_78]),((nxc k56 1)++[T.c t126_79])]))) (
 j63 [(nx x55 0),(nx x55 1),(iv (AD (nx x55 2))),(nx x55 3)] [(nxc k56 0),(nxc k56 1)]))))) (
 prP (bnI .add (nx x55 1) (.int .i64 1)) fun t56_81=>
 r30 [(nx x55 0),t56_81] [(nxc k56 0),(nxc k56 1)])) [(nx x28 0),(nx x28 1),(iv (((AD t92_53)*8)+6)),(.int .i64 0)] [(nxc k29 0),(nxc k29 1)])) (
 K [] [[]])) [(nx x9 0),(.int .i64 0)] [(nxc k10 0),(PO (AD n27) [T.c (.int .i64 0)])])) [a0,(.int .i64 0)] [[],(nxc d8 0)])))
theorem IW.cl2 {w0:World} {a0:Value} {c0 c1 c2 c3:List T} {K:J2} (h:IW.txt ⟨Try.prog,w0⟩ a0 c0 c1 c2 c3 K):Eng.cl2 ⟨Try.prog,w0⟩ 55 IW.sg [a0] [c0,c1,c2,c3] K:=
 AY (C:=⟨Try.prog,w0⟩) (f:=55) (fn:=Try.f55) [(24,BD.sg),(33,CF.sg),(89,CA.sg)] [(8,[0,0,0,6,14,31,63]),(21,[0,1,0,0,0,24,56,124,255,511,1023,2047]),(25,[0,0,0,6,14,31,63,127,255,255,255,1791,3839,8191,16383,32767])] [(1001,⟨[.v, .p (.j 0) 0, .t (.j 1) 1, .t (.j 2) 1, .v],[],[.bx [.t (.f 0) 8, .t (.f 1) 2, .t (.f 2) 1, .t (.f 3) 1], .ls, .ls]⟩),(2085418,⟨[.t (.j 0) 1, .t (.j 1) 1, .t (.j 2) 1, .v],[],[.ls, .ls, .ls]⟩),(1042745,⟨[.v, .p (.j 0) 0, .t (.j 1) 1, .t (.j 2) 1, .v, .n (.f 0) 1 1, .v],[],[.bx [.t (.f 0) 8, .t (.f 1) 2, .t (.f 2) 1, .t (.f 3) 1], .ls, .ls]⟩),(260686,⟨[.v, .p (.j 0) 0, .t (.j 1) 1, .t (.j 2) 1, .v, .n (.f 0) 1 1, .v],[],[.bx [.t (.f 0) 8, .t (.f 1) 2, .t (.f 2) 1, .t (.f 3) 1], .ls, .ls]⟩),(1018,⟨[.v, .p (.j 0) 0, .t (.j 1) 1, .t (.j 2) 1, .v],[],[.bx [.t (.f 0) 8, .t (.f 1) 2, .t (.f 2) 1, .t (.f 3) 1], .ls, .ls]⟩),(250,⟨[.v, .p (.j 0) 0, .t (.j 1) 1, .t (.j 2) 1, .v],[],[.bx [.t (.f 0) 8, .t (.f 1) 2, .t (.f 2) 1, .t (.f 3) 1], .ls, .ls]⟩)] Try.func55 (by kernel_rfl) (by kernel_rfl) (by kernel_rfl) h
def GI.sg:Sg:=⟨[(0,[.t 1 0])],[(0,[.v])],[]⟩
def GI.txt (C:Ctx) (c0:List T) (K:J2):Prop:=
 cl2 C 17 IM.sg [] [c0] fun v1 d2=>
 AX (nx v1 0) (
 K [(.bool true)] []) (
 cl2 C 53 EU.sg [] [c0] fun v4 d5=>
 cl2 C 54 IT.sg [(nx v4 0)] [(nxc d5 0),(nxc d5 1),(nxc d5 2),(nxc d5 3)] fun v6 d7=>
 cl2 C 19 DF.sg [] [(nxc d5 0),(nxc d5 1),(nxc d5 2),(nxc d5 3)] fun v8 d9=>
 prP (un .not (nx v8 0)) fun t20_11=>
 gE t20_11 (
 gE t20_11 (
 gP t20_11 false ((fun K=>cl2 C 24 BD.sg [(nx v4 0)] [(nxc d5 0),(nxc d5 1),(nxc d5 2),(nxc d5 3)] fun v12 d13=>K (nx v12 0))) fun t24_14=>
 gP t20_11 false (prP (bnI .lss t24_14 (.int .i64 0))) fun t25_15=>
 prP (pk t20_11 (.bool true) t25_15) fun t26_16=>
 gE t26_16 (
 gC t26_16 false (cl2 C 22 FO.sg [] [(nxc d5 0),(nxc d5 1),(nxc d5 2),(nxc d5 3)]) fun v17 d18=>
 gE t26_16 (
 gP t26_16 false ((fun K=>cl2 C 25 GV.sg [(nx v4 0)] [(nxc d18 0)] fun v19 d20=>K (nx v19 0))) fun t31_21=>
 prP (pk t26_16 (.bool true) t31_21) fun t32_22=>
 AX t32_22 (
 prP (bnI .eql (iv (cnt 1 (nxc d7 0))) (.int .i64 0)) fun t35_23=>
 gE t35_23 (
 gP t35_23 false ((fun K=>cl2 C 19 DF.sg [] [(nxc d5 0),(nxc d5 1),(nxc d5 2),(nxc d5 3)] fun v24 d25=>K (nx v24 0))) fun t38_26=>
 gP t35_23 false (prP (un .not t38_26)) fun t39_27=>
 prP (pk t35_23 (.bool true) t39_27) fun t40_28=>
 K [t40_28] [])) (
 prP (bnI .eql (iv (cnt 1 (nxc d7 0))) (.int .i64 0)) fun t43_29=>
 gE t43_29 (
 gE t43_29 (
 gE t43_29 (
 gP t43_29 false (prP (bnI .sub (iv (cnt 1 (nxc d7 0))) (.int .i64 1))) fun t48_30=>
 gP t43_29 false (ixW (cnt 1 (nxc d7 0)) t48_30) fun t49_31=>
 gP t43_29 false (ldc (nxc d7 0) [] ((AD t49_31)*1)) fun t50_32=>
 gE t43_29 (
 gP t43_29 false (prP (bnI .neq t50_32 (nx v4 0))) fun t52_33=>
 prP (pk t43_29 (.bool true) t52_33) fun t53_34=>
 gE t53_34 (
 gC t53_34 false (cl2 C 33 CF.sg [] [(nxc d5 0),(nxc d5 1),(nxc d5 2),(nxc d5 3)]) fun v35 d36=>
 gE t53_34 (
 gP t53_34 false (ixW (cnt 1 (nxc d7 0)) (.int .i64 0)) fun t58_37=>
 gP t53_34 false (ldc (nxc d7 0) [] ((AD t58_37)*1)) fun t59_38=>
 gP t53_34 false ((fun K=>cl2 C 25 GV.sg [t59_38] [(nxc d36 0)] fun v39 d40=>K (nx v39 0))) fun t60_41=>
 gP t53_34 false (prP (un .not t60_41)) fun t61_42=>
 prP (pk t53_34 (.bool true) t61_42) fun t62_43=>
 gE t62_43 (
 gE t62_43 (
 gE t62_43 (
 gE t62_43 (
 gC t62_43 false (cl2 C 55 IW.sg [(nx v4 0)] [(nxc d5 0),(nxc d5 1),(nxc d5 2),(nxc d5 3)]) fun v44 d45=>
 gE t62_43 (
 gP t62_43 false (prP (bnI .neq (iv (cnt 1 (nxc d7 0))) (iv (cnt 1 (nxc d45 0))))) fun t70_46=>
 prP (pk t62_43 (.bool true) t70_46) fun t71_47=>
 AX t71_47 (
 K [(.bool false)] []) (
 BE (fun r50 x48 k49=>
 prP (bnI .lss (nx x48 0) (iv (cnt 1 (nxc k49 0)))) fun t75_52=>
 AX t75_52 (
 prP (bnI .sub (nx x48 0) (.int .i64 1)) fun t81_53=>
 ixW (cnt 1 (nxc k49 0)) t81_53 fun t82_54=>
 ldc (nxc k49 0) [] ((AD t82_54)*1) fun t83_55=>
 cl2 C 24 BD.sg [t83_55] [(nxc k49 1),(nxc k49 2),(nxc k49 3),(nxc k49 4)] fun v56 d57=>
 prP (bnI .lss (nx v56 0) (.int .i64 0)) fun t86_59=>
 gE t86_59 (
 gE t86_59 (
 gE t86_59 (
 gP t86_59 false (ixW (cnt 8 (nxc k49 1)) (nx v56 0)) fun t91_60=>
 gE t86_59 (
 gP t86_59 false (ldl (nxc k49 1) [] (((AD t91_60)*8)+6) 1) fun t93_61=>
 gE t86_59 (
 gE t86_59 (
 gP t86_59 false (ixW (cnt 1 (nxc k49 0)) (nx x48 0)) fun t96_62=>
 gP t86_59 false (ldc (nxc k49 0) [] ((AD t96_62)*1)) fun t97_63=>
 gP t86_59 false ((fun K=>cl2 C 25 GV.sg [t97_63] [(FJ (nxc k49 1) [(((AD t91_60)*8)+6)])] fun v64 d65=>K (nx v64 0))) fun t98_66=>
 gP t86_59 false (prP (un .not t98_66)) fun t99_67=>
 prP (pk t86_59 (.bool true) t99_67) fun t100_68=>
 gE t100_68 (
 gE t100_68 (
 gP t100_68 false ((fun K=>scW (cnt 1 (nxc k49 0)) none (some (nx x48 0)) fun l m=>K (two l m))) fun t104_69=>
 gE t100_68 (
 gE t100_68 (
 gP t100_68 false (ixW (cnt 1 (nxc k49 0)) (nx x48 0)) fun t107_70=>
 gP t100_68 false (ldc (nxc k49 0) [] ((AD t107_70)*1)) fun t108_71=>
 gP t100_68 false ((fun K=>cl2 C 25 GV.sg [t108_71] [(GB (nxc k49 0) [] ((AD (dM t104_69))*1) ((AD (eD t104_69))*1))] fun v72 d73=>K (nx v72 0))) fun t109_74=>
 prP (pk t100_68 (.bool true) t109_74) fun t110_75=>
 AX t110_75 (
 K [(.bool false)] []) (
 prP (bnI .add (nx x48 0) (.int .i64 1)) fun t77_76=>
 r50 [t77_76] [(nxc k49 0),(nxc k49 1),(nxc k49 2),(nxc k49 3),(nxc k49 4)])))))))))))) (
 cl2 C 30 CM.sg [] [(nxc k49 1),(nxc k49 2),(nxc k49 3),(nxc k49 4)] fun v77 d78=>
 prP (bnI .leq (iv (cnt 1 (nxc k49 0))) (iv (cnt 1 (nxc d78 0)))) fun t116_79=>
 K [t116_79] [])) [(.int .i64 1)] [(nxc d7 0),(nxc d5 0),(nxc d5 1),(nxc d5 2),(nxc d5 3)]))))))))))))))))))
theorem GI.cl2 {w0:World} {c0:List T} {K:J2} (h:GI.txt ⟨Try.prog,w0⟩ c0 K):Eng.cl2 ⟨Try.prog,w0⟩ 8 GI.sg [] [c0] K:=
 AY (C:=⟨Try.prog,w0⟩) (f:=8) (fn:=Try.f8) [(17,IM.sg),(53,EU.sg),(54,IT.sg),(19,DF.sg),(24,BD.sg),(22,FO.sg),(25,GV.sg),(33,CF.sg),(55,IW.sg),(30,CM.sg)] [(7,[0,1,3,7,15,15,47,111,255,511,15,2047,4095,8191,16383,32767,16383,81919,212991,524287,1048575,2097151,4194303,8388607,16777215,8388607,8388607,109051903,243269631,536870911,1073741823]),(12,[0,0,0,4,14,30,63,127]),(13,[0,1,3,7,15,7,63,127,255,7,7,1543,3591,8191,16383,32767,65535,131071,131071,524287,131071,131071,3276799,7471103,16777215,33554431])] [(1018,⟨[.p (.j 0) 0, .t (.j 1) 1, .v],[],[.bx [.t (.j 2) 8, .t (.j 3) 2, .t (.j 4) 1, .t (.j 5) 1], .ls, .ls, .ls, .ls, .ls]⟩)] Try.func8 (by kernel_rfl) (by kernel_rfl) (by kernel_rfl) h
end Go.Proofs.Ytklmcfpgdfibnaa.P
