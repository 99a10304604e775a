/- A part of the proof. -/
import Derived.Test.YtklmcfpgdfibnaaChecked
import Derived.Test.YtklmcfpgdfibnaaRcPZ3
import Derived.KernelRfl
namespace Go.Proofs.Ytklmcfpgdfibnaa.P
open Go Go.Proofs.Ytklmcfpgdfibnaa Go.Proofs.Ytklmcfpgdfibnaa.Eng
set_option linter.unusedVariables false
set_option maxRecDepth 100000
def CJ.sg:Sg:=⟨[(0,[.t 1 0])],[(1,[.t 8, .t 2, .t 1, .t 1]),(0,[.t 1])],[]⟩
def CJ.txt (C:Ctx) (c0:List T) (K:J2):Prop:=
 cl2 C 85 GM.sg [] [c0] fun v1 d2=>
 cl2 C 96 GL.sg [(nx v1 0),(nx v1 1)] [c0] fun v3 d4=>
 cl2 C 112 BQ.sg [(nx v3 0),(nx v3 1),(.int .i64 4)] [c0] fun v5 d6=>
 BE (fun r9 x7 k8=>
 prP (bnI .gtr (nx x7 0) (.int .i64 0)) fun t16_11=>
 AW t16_11 (
 cl2 C 113 E9.sg [(nx x7 1),(nx x7 2)] [c0,(nxc k8 1),(nxc k8 2),(nxc k8 3),(nxc k8 4)] fun v12 d13=>
 apW [T.c (nx v12 0)] true (cnt 1 (nxc k8 0)) (cnt 1 [T.c (nx v12 0)]) 8 (
 prP (bnI .sub (nx x7 0) (.int .i64 1)) fun t18_14=>
 r9 [t18_14,(nx v12 1),(nx v12 2)] [((nxc k8 0)++[T.c (nx v12 0)]),(nxc k8 1),(nxc k8 2),(nxc k8 3),(nxc k8 4)])) (
 K [] [(nxc k8 1),(nxc k8 2),(nxc k8 3),(nxc k8 4),(nxc k8 0)])) [(nx v5 0),(nx v5 1),(nx v5 2)] [[],(nxc d4 0),(nxc d4 1),(nxc d4 2),(nxc d4 3)]
theorem CJ.cl2 {w0:World} {c0:List T} {K:J2} (h:CJ.txt ⟨Try.prog,w0⟩ c0 K):Eng.cl2 ⟨Try.prog,w0⟩ 52 CJ.sg [] [c0] K:=
 AV (C:=⟨Try.prog,w0⟩) (f:=52) (fn:=Try.f52) [(85,GM.sg),(96,GL.sg),(112,BQ.sg),(113,E9.sg)] [] [(250,⟨[.p (.j 0) 0, .p (.j 1) 0, .p (.j 2) 0, .t (.j 3) 1, .v],[],[.bx [.z, .z, .z, .z], .bx [.t (.f 0) 1, .v, .v], .bx [.t (.j 4) 8, .t (.j 5) 2, .t (.j 6) 1, .t (.j 7) 1], .ls, .ls, .ls, .ls, .ls]⟩)] Try.func52 (by kernel_rfl) (by kernel_rfl) (by kernel_rfl) h
def GP.sg:Sg:=⟨[(1,[.t 8 0, .t 2 0, .t 1 0, .t 1 0]),(0,[.v]),(0,[.v])],[(0,[.v])],[]⟩
def GP.txt (C:Ctx) (a0 a1:Value) (c0 c1 c2 c3:List T) (K:J2):Prop:=
 prP (bnI .neq (iv (cnt 8 c0)) (.int .i64 8)) fun t10_1=>
 gE t10_1 (
 gE t10_1 (
 gP t10_1 false ((fun K=>cl2 C 24 BD.sg [a0] [c0,c1,c2,c3] fun v2 d3=>K (nx v2 0))) fun t14_4=>
 gP t10_1 false (prP (bnI .lss t14_4 (.int .i64 0))) fun t15_5=>
 prP (pk t10_1 (.bool true) t15_5) fun t16_6=>
 gE t16_6 (
 gE t16_6 (
 gP t16_6 false ((fun K=>cl2 C 24 BD.sg [a1] [c0,c1,c2,c3] fun v7 d8=>K (nx v7 0))) fun t20_9=>
 gP t16_6 false (prP (bnI .lss t20_9 (.int .i64 0))) fun t21_10=>
 prP (pk t16_6 (.bool true) t21_10) fun t22_11=>
 AW t22_11 (
 K [(.bool false)] []) (
 cl2 C 24 BD.sg [a0] [c0,c1,c2,c3] fun v12 d13=>
 ixW (cnt 8 c0) (nx v12 0) fun t29_15=>
 ldl c0 [] (((AB t29_15)*8)+6) 1 fun t31_16=>
 cl2 C 93 D4.sg [(.int .i64 (-1))] [c0,c1,c2,c3,(FZ c0 [(((AB t29_15)*8)+6)])] fun v17 d18=>
 cl2 C 89 CU.sg [a1] [(nxc d18 0)] fun v19 d20=>
 K [(nx v19 0)] [])))))
theorem GP.cl2 {w0:World} {a0 a1:Value} {c0 c1 c2 c3:List T} {K:J2} (h:GP.txt ⟨Try.prog,w0⟩ a0 a1 c0 c1 c2 c3 K):Eng.cl2 ⟨Try.prog,w0⟩ 26 GP.sg [a0,a1] [c0,c1,c2,c3] K:=
 AV (C:=⟨Try.prog,w0⟩) (f:=26) (fn:=Try.f26) [(24,BD.sg),(93,D4.sg),(89,CU.sg)] [(3,[0,0,2,0,0,24,62,126,254,511,0,2047,4095])] [] Try.func26 (by kernel_rfl) (by kernel_rfl) (by kernel_rfl) h
def EA.sg:Sg:=⟨[(0,[.t 1 0])],[(0,[.v])],[]⟩
def EA.txt (C:Ctx) (c0:List T) (K:J2):Prop:=
 cl2 C 17 IL.sg [] [c0] fun v1 d2=>
 AW (nx v1 0) (
 K [(.bool true)] []) (
 cl2 C 52 CJ.sg [] [c0] fun v4 d5=>
 cl2 C 19 D8.sg [] [(nxc d5 0),(nxc d5 1),(nxc d5 2),(nxc d5 3)] fun v6 d7=>
 prP (un .not (nx v6 0)) fun t25_9=>
 AW t25_9 (
 K [(.bool true)] []) (
 cl2 C 34 CG.sg [] [(nxc d5 0),(nxc d5 1),(nxc d5 2),(nxc d5 3),(nxc d5 4)] fun v10 d11=>
 BE (fun r14 x12 k13=>
 prP (bnI .lss (nx x12 0) (iv (cnt 1 (nxc k13 0)))) fun t32_16=>
 AW t32_16 (
 ixW (cnt 1 (nxc k13 0)) (nx x12 0) fun t38_17=>
 ldc (nxc k13 0) [] ((AB t38_17)*1) fun t39_18=>
 cl2 C 24 BD.sg [t39_18] [(nxc k13 2),(nxc k13 3),(nxc k13 4),(nxc k13 5)] fun v19 d20=>
 prP (bnI .geq (nx v19 0) (.int .i64 0)) fun t41_22=>
 ixW (cnt 1 (nxc k13 0)) (nx x12 0) fun t45_23=>
 ldc (nxc k13 0) [] ((AB t45_23)*1) fun t46_24=>
 cl2 C 25 F9.sg [t46_24] [(nxc k13 1)] fun v25 d26=>
 prP (bnB .neq t41_22 (nx v25 0)) fun t48_28=>
 AW t48_28 (
 K [(.bool false)] []) (
 prP (bnI .add (nx x12 0) (.int .i64 1)) fun t34_29=>
 r14 [t34_29] [(nxc k13 0),(nxc k13 1),(nxc k13 2),(nxc k13 3),(nxc k13 4),(nxc k13 5)])) (
 BE (fun r32 x30 k31=>
 prP (bnI .lss (nx x30 0) (iv (cnt 1 (nxc k31 1)))) fun t52_34=>
 AW t52_34 (
 ixW (cnt 1 (nxc k31 1)) (nx x30 0) fun t58_35=>
 ldc (nxc k31 1) [] ((AB t58_35)*1) fun t59_36=>
 cl2 C 24 BD.sg [t59_36] [(nxc k31 2),(nxc k31 3),(nxc k31 4),(nxc k31 5)] fun v37 d38=>
 prP (bnI .lss (nx v37 0) (.int .i64 0)) fun t62_40=>
 AW t62_40 (
 K [(.bool false)] []) (
 ixW (cnt 1 (nxc k31 1)) (nx x30 0) fun t66_41=>
 ldc (nxc k31 1) [] ((AB t66_41)*1) fun t67_42=>
 cl2 C 25 F9.sg [t67_42] [(nxc k31 0)] fun v43 d44=>
 BE (fun r48 x46 k47=>
 prP (bnI .lss (nx x46 3) (iv (cnt 1 (nxc k47 1)))) fun t72_50=>
 AW t72_50 (
 gE (nx x46 2) (
 gE (nx x46 2) (
 gE (nx x46 2) (
 gP (nx x46 2) false (ixW (cnt 1 (nxc k47 1)) (nx x46 3)) fun t80_51=>
 gP (nx x46 2) false (ldc (nxc k47 1) [] ((AB t80_51)*1)) fun t81_52=>
 gE (nx x46 2) (
 gE (nx x46 2) (
 gP (nx x46 2) false (ixW (cnt 1 (nxc k47 1)) (nx x46 0)) fun t84_53=>
 gP (nx x46 2) false (ldc (nxc k47 1) [] ((AB t84_53)*1)) fun t85_54=>
 gP (nx x46 2) false ((fun K=>cl2 C 26 GP.sg [t81_52,t85_54] [(nxc k47 2),(nxc k47 3),(nxc k47 4),(nxc k47 5)] fun v55 d56=>K (nx v55 0))) fun t86_57=>
 prP (pk (nx x46 2) (.bool true) t86_57) fun t87_58=>
 prP (bnI .add (nx x46 3) (.int .i64 1)) fun t74_59=>
 r48 [(nx x46 0),(nx x46 1),t87_58,t74_59] [(nxc k47 0),(nxc k47 1),(nxc k47 2),(nxc k47 3),(nxc k47 4),(nxc k47 5)])))))) (
 BE (fun r62 x60 k61=>
 prP (bnI .lss (nx x60 3) (.int .i64 3)) fun t89_64=>
 AW t89_64 (
 ixW (cnt 8 (nxc k61 2)) (nx x60 1) fun t95_65=>
 ldl (nxc k61 2) [] (((AB t95_65)*8)+6) 1 fun t97_66=>
 ixW (cnt 1 (FZ (nxc k61 2) [(((AB t95_65)*8)+6)])) (nx x60 3) fun t99_67=>
 ldc (nxc k61 2) [(((AB t95_65)*8)+6)] ((AB t99_67)*1) fun t100_68=>
 prP (bnI .geq t100_68 (.int .i64 0)) fun t101_69=>
 gE t101_69 (
 gE t101_69 (
 gE t101_69 (
 gE t101_69 (
 gP t101_69 true (ixW (cnt 8 (nxc k61 2)) (nx x60 1)) fun t107_70=>
 gE t101_69 (
 gP t101_69 true (ldl (nxc k61 2) [] (((AB t107_70)*8)+6) 1) fun t109_71=>
 gE t101_69 (
 gP t101_69 true (ixW (cnt 1 (FZ (nxc k61 2) [(((AB t107_70)*8)+6)])) (nx x60 3)) fun t111_72=>
 gP t101_69 true (ldc (nxc k61 2) [(((AB t107_70)*8)+6)] ((AB t111_72)*1)) fun t112_73=>
 gP t101_69 true ((fun K=>cl2 C 25 F9.sg [t112_73] [(nxc k61 1)] fun v74 d75=>K (nx v74 0))) fun t113_76=>
 gP t101_69 true (prP (un .not t113_76)) fun t114_77=>
 prP (pk t101_69 t114_77 (.bool false)) fun t115_78=>
 AW t115_78 (
 K [(.bool false)] []) (
 prP (bnI .add (nx x60 3) (.int .i64 1)) fun t91_79=>
 r62 [(nx x60 0),(nx x60 1),(nx x60 2),t91_79] [(nxc k61 0),(nxc k61 1),(nxc k61 2),(nxc k61 3),(nxc k61 4),(nxc k61 5)])))))))) (
 prP (un .not (nx x60 2)) fun t117_80=>
 AW t117_80 (
 K [(.bool false)] []) (
 prP (bnI .add (nx x60 0) (.int .i64 1)) fun t54_81=>
 r32 [t54_81] [(nxc k61 0),(nxc k61 1),(nxc k61 2),(nxc k61 3),(nxc k61 4),(nxc k61 5)]))) [(nx x46 0),(nx x46 1),(nx x46 2),(.int .i64 0)] [(nxc k47 0),(nxc k47 1),(nxc k47 2),(nxc k47 3),(nxc k47 4),(nxc k47 5)])) [(nx x30 0),(nx v37 0),(nx v43 0),(.int .i64 0)] [(nxc k31 0),(nxc k31 1),(nxc k31 2),(nxc k31 3),(nxc k31 4),(nxc k31 5)])) (
 cl2 C 35 C0.sg [] [(nxc k31 2),(nxc k31 3),(nxc k31 4),(nxc k31 5)] fun v82 d83=>
 cl2 C 34 CG.sg [] [(nxc k31 2),(nxc k31 3),(nxc k31 4),(nxc k31 5),(nxc d83 0)] fun v84 d85=>
 cl2 C 27 FO.sg [] [(nxc k31 2),(nxc k31 3),(nxc k31 4),(nxc k31 5)] fun v86 d87=>
 BE (fun r90 x88 k89=>
 prP (bnI .lss (nx x88 0) (iv (cnt 1 (nxc k89 3)))) fun t128_92=>
 AW t128_92 (
 ixW (cnt 1 (nxc k89 3)) (nx x88 0) fun t134_93=>
 ldc (nxc k89 3) [] ((AB t134_93)*1) fun t135_94=>
 cl2 C 25 F9.sg [t135_94] [(nxc k89 2)] fun v95 d96=>
 gE (nx v95 0) (
 gC (nx v95 0) false (cl2 C 30 C9.sg [] [(nxc k89 4),(nxc k89 5),(nxc k89 6),(nxc k89 7)]) fun v98 d99=>
 gE (nx v95 0) (
 gE (nx v95 0) (
 gP (nx v95 0) false (ixW (cnt 1 (nxc k89 3)) (nx x88 0)) fun t142_100=>
 gP (nx v95 0) false (ldc (nxc k89 3) [] ((AB t142_100)*1)) fun t143_101=>
 gP (nx v95 0) false ((fun K=>cl2 C 25 F9.sg [t143_101] [(nxc d99 0)] fun v102 d103=>K (nx v102 0))) fun t144_104=>
 gP (nx v95 0) false (prP (un .not t144_104)) fun t145_105=>
 prP (pk (nx v95 0) (.bool true) t145_105) fun t146_106=>
 AW t146_106 (
 K [(.bool false)] []) (
 prP (bnI .add (nx x88 0) (.int .i64 1)) fun t130_107=>
 r90 [t130_107] [(nxc k89 0),(nxc k89 1),(nxc k89 2),(nxc k89 3),(nxc k89 4),(nxc k89 5),(nxc k89 6),(nxc k89 7)]))))) (
 prP (bnI .add (iv (cnt 1 (nxc k89 2))) (iv (cnt 1 (nxc k89 3)))) fun t151_108=>
 cl2 C 30 C9.sg [] [(nxc k89 4),(nxc k89 5),(nxc k89 6),(nxc k89 7)] fun v109 d110=>
 prP (bnI .eql t151_108 (iv (cnt 1 (nxc d110 0)))) fun t155_111=>
 gE t155_111 (
 gE t155_111 (
 gC t155_111 true (cl2 C 33 DN.sg [] [(nxc k89 4),(nxc k89 5),(nxc k89 6),(nxc k89 7)]) fun v112 d113=>
 gP t155_111 true ((fun K=>cl2 C 31 DL.sg [] [(nxc k89 1),(nxc d113 0)] fun v114 d115=>K (nx v114 0))) fun t160_116=>
 prP (pk t155_111 t160_116 (.bool false)) fun t161_117=>
 gE t161_117 (
 gE t161_117 (
 gC t161_117 true (cl2 C 34 CG.sg [] [(nxc k89 4),(nxc k89 5),(nxc k89 6),(nxc k89 7),(nxc k89 0)]) fun v118 d119=>
 gE t161_117 (
 gP t161_117 true ((fun K=>cl2 C 31 DL.sg [] [(nxc d119 0),(nxc k89 0)] fun v120 d121=>K (nx v120 0))) fun t167_122=>
 prP (pk t161_117 t167_122 (.bool false)) fun t168_123=>
 K [t168_123] []))))))) [(.int .i64 0)] [(nxc k31 1),(nxc d83 0),(nxc d85 0),(nxc d87 0),(nxc k31 2),(nxc k31 3),(nxc k31 4),(nxc k31 5)])) [(.int .i64 0)] [(nxc k13 0),(nxc k13 1),(nxc k13 2),(nxc k13 3),(nxc k13 4),(nxc k13 5)])) [(.int .i64 0)] [(nxc d5 4),(nxc d11 0),(nxc d5 0),(nxc d5 1),(nxc d5 2),(nxc d5 3)]))
theorem EA.cl2 {w0:World} {c0:List T} {K:J2} (h:EA.txt ⟨Try.prog,w0⟩ c0 K):Eng.cl2 ⟨Try.prog,w0⟩ 7 EA.sg [] [c0] K:=
 AV (C:=⟨Try.prog,w0⟩) (f:=7) (fn:=Try.f7) [(17,IL.sg),(52,CJ.sg),(19,D8.sg),(34,CG.sg),(24,BD.sg),(25,F9.sg),(26,GP.sg),(35,C0.sg),(27,FO.sg),(30,C9.sg),(33,DN.sg),(31,DL.sg)] [(10,[0,0,0,6,14,31,63,0,0,0,768,1792,4031,8191]),(15,[0,0,0,6,14,31,63]),(22,[0,1,3,3,3,27,59,3,3,387,899,2047,4095,8191]),(36,[0,0,0,6,14,31,63,127,255,127,127,1663,3711,8191,16383,32767])] [(2085498,⟨[.p (.j 0) 0, .t (.j 1) 1, .t (.j 2) 1, .v, .v, .v, .v],[],[.bx [.t (.j 3) 8, .t (.j 4) 2, .t (.j 5) 1, .t (.j 6) 1], .ls, .ls, .ls, .ls, .ls, .ls]⟩),(1042746,⟨[.p (.j 0) 0, .t (.j 1) 1, .t (.j 2) 1, .v, .v, .v, .v],[],[.bx [.t (.j 3) 8, .t (.j 4) 2, .t (.j 5) 1, .t (.j 6) 1], .ls, .ls, .ls, .ls, .ls, .ls]⟩),(16378,⟨[.p (.j 0) 0, .t (.j 1) 1, .t (.j 2) 1, .t (.j 3) 1, .t (.j 4) 1, .v],[],[.bx [.t (.j 5) 8, .t (.j 6) 2, .t (.j 7) 1, .t (.j 8) 1], .ls, .ls, .ls, .ls, .ls, .ls, .ls, .ls]⟩),(1018,⟨[.p (.j 0) 0, .t (.j 1) 1, .t (.j 2) 1, .v],[],[.bx [.t (.j 3) 8, .t (.j 4) 2, .t (.j 5) 1, .t (.j 6) 1], .ls, .ls, .ls, .ls, .ls, .ls]⟩),(506,⟨[.p (.j 0) 0, .t (.j 1) 1, .t (.j 2) 1, .v],[],[.bx [.t (.j 3) 8, .t (.j 4) 2, .t (.j 5) 1, .t (.j 6) 1], .ls, .ls, .ls, .ls, .ls, .ls]⟩)] Try.func7 (by kernel_rfl) (by kernel_rfl) (by kernel_rfl) h
end Go.Proofs.Ytklmcfpgdfibnaa.P
