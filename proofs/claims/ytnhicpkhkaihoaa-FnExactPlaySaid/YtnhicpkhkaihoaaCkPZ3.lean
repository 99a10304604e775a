/- A part of the proof. -/
import Derived.Test.YtnhicpkhkaihoaaChecked
import Derived.Test.YtnhicpkhkaihoaaCkPZ2
import Derived.KernelRfl
namespace Go.Proofs.Ytnhicpkhkaihoaa.P
open Go Go.Proofs.Ytnhicpkhkaihoaa Go.Proofs.Ytnhicpkhkaihoaa.Eng
set_option linter.unusedVariables false
set_option maxRecDepth 100000
def GU.sg:Sg:=⟨[(1,[.t 8 0, .t 2 0, .t 1 0, .t 1 0])],[(0,[.v])],[]⟩
def GU.txt (C:Ctx) (c0 c1 c2 c3:List T) (K:J2):Prop:=
 prP (bnI .neq (iv (cnt 8 c0)) (.int .i64 8)) fun t15_1=>
 gE t15_1 (
 gE t15_1 (
 gE t15_1 (
 gP t15_1 false (prP (bnI .neq (iv (cnt 2 c1)) (.int .i64 8))) fun t20_2=>
 prP (pk t15_1 (.bool true) t20_2) fun t21_3=>
 gE t21_3 (
 gE t21_3 (
 gE t21_3 (
 gP t21_3 false (prP (bnI .gtr (iv (cnt 1 c3)) (.int .i64 6))) fun t26_4=>
 prP (pk t21_3 (.bool true) t26_4) fun t27_5=>
 AU t27_5 (
 K [(.bool false)] []) (
 BD (fun r8 x6 k7=>
 prP (bnI .lss (nx x6 0) (iv (cnt 8 c0))) fun t32_10=>
 AU t32_10 (
 BW (fun x12 k13=>
 prP (bnI .add (nx x12 0) (.int .i64 1)) fun t34_90=>
 r8 [t34_90] []) fun j14=>
 ixW (cnt 8 c0) (nx x6 0) fun t38_15=>
 ldg c0 [] ((AA t38_15)*8) [.c, .c, .c, .c, .c, .c, .l 1, .c] fun ts16=>
 cl2 C 154 B7.sg [(tv (nxT ts16 1)),(.int .i64 0),(.int .i64 999)] [] fun v17 d18=>
 prP (un .not (nx v17 0)) fun t43_20=>
 gE t43_20 (
 gE t43_20 (
 gE t43_20 (
 gP t43_20 false (prP (bnI .neq (iv (cnt 1 (FI c0 [(((AA t38_15)*8)+6)]))) (.int .i64 3))) fun t48_21=>
 prP (pk t43_20 (.bool true) t48_21) fun t49_22=>
 AU t49_22 (
 K [(.bool false)] []) (
 prP (un .not (tv (nxT ts16 0))) fun t52_23=>
 AU t52_23 (
 prP (bnI .neq (tv (nxT ts16 2)) (.int .i64 0)) fun t55_24=>
 gE t55_24 (
 gE t55_24 (
 gP t55_24 false (prP (bnI .neq (tv (nxT ts16 3)) (.int .i64 0))) fun t59_25=>
 prP (pk t55_24 (.bool true) t59_25) fun t60_26=>
 gE t60_26 (
 gE t60_26 (
 gP t60_26 false (prP (bnI .neq (tv (nxT ts16 4)) (.int .i64 0))) fun t64_27=>
 prP (pk t60_26 (.bool true) t64_27) fun t65_28=>
 gE t65_28 (
 gE t65_28 (
 gP t65_28 false (prP (bnI .neq (tv (nxT ts16 5)) (.int .i64 0))) fun t69_29=>
 prP (pk t65_28 (.bool true) t69_29) fun t70_30=>
 gE t70_30 (
 gE t70_30 (
 prP (pk t70_30 (.bool true) (tv (nxT ts16 7))) fun t74_31=>
 AU t74_31 (
 K [(.bool false)] []) (
 BD (fun r34 x32 k33=>
 prP (bnI .lss (nx x32 1) (.int .i64 3)) fun t76_36=>
 AU t76_36 (
 ixW (cnt 1 (FI c0 [(AA (nx x32 8))])) (nx x32 1) fun t82_37=>
 ldc c0 [(AA (nx x32 8))] ((AA t82_37)*1) fun t83_38=>
 prP (bnI .neq t83_38 (.int .i64 (-1))) fun t84_39=>
 AU t84_39 (
 K [(.bool false)] []) (
 prP (bnI .add (nx x32 1) (.int .i64 1)) fun t78_40=>
 r34 [(nx x32 0),t78_40,(nx x32 2),(nx x32 3),(nx x32 4),(nx x32 5),(nx x32 6),(nx x32 7),(iv (AA (nx x32 8))),(nx x32 9)] [])) (
 j14 [(nx x32 0)] [])) [(nx x6 0),(.int .i64 0),(tv (nxT ts16 0)),(tv (nxT ts16 1)),(tv (nxT ts16 2)),(tv (nxT ts16 3)),(tv (nxT ts16 4)),(tv (nxT ts16 5)),(iv (((AA t38_15)*8)+6)),(tv (nxT ts16 7))] [])))))))))) (
 prP (bnI .lss (tv (nxT ts16 1)) (.int .i64 1)) fun t87_41=>
 gE t87_41 (
 gE t87_41 (
 gE t87_41 (
 gE t87_41 (
 gE t87_41 (
 gP t87_41 false (prP (bnI .sub (iv (cnt 1 c3)) (.int .i64 1))) fun t94_42=>
 gP t87_41 false ((fun K=>cl2 C 154 B7.sg [(tv (nxT ts16 2)),(.int .i64 0),t94_42] [] fun v43 d44=>K (nx v43 0))) fun t95_45=>
 gP t87_41 false (prP (un .not t95_45)) fun t96_46=>
 prP (pk t87_41 (.bool true) t96_46) fun t97_47=>
 gE t97_47 (
 gE t97_47 (
 gP t97_47 false ((fun K=>cl2 C 154 B7.sg [(tv (nxT ts16 3)),(.int .i64 0),(.int .i64 20)] [] fun v48 d49=>K (nx v48 0))) fun t101_50=>
 gP t97_47 false (prP (un .not t101_50)) fun t102_51=>
 prP (pk t97_47 (.bool true) t102_51) fun t103_52=>
 gE t103_52 (
 gE t103_52 (
 gP t103_52 false ((fun K=>cl2 C 154 B7.sg [(tv (nxT ts16 4)),(.int .i64 0),(.int .i64 20)] [] fun v53 d54=>K (nx v53 0))) fun t107_55=>
 gP t103_52 false (prP (un .not t107_55)) fun t108_56=>
 prP (pk t103_52 (.bool true) t108_56) fun t109_57=>
 AU t109_57 (
 K [(.bool false)] []) (
 BD (fun r60 x58 k59=>
 prP (bnI .lss (nx x58 1) (.int .i64 3)) fun t111_62=>
 AU t111_62 (
 ixW (cnt 1 (FI c0 [(AA (nx x58 8))])) (nx x58 1) fun t117_63=>
 ldc c0 [(AA (nx x58 8))] ((AA t117_63)*1) fun t118_64=>
 prP (bnI .neq t118_64 (.int .i64 (-1))) fun t119_65=>
 gE t119_65 (
 gE t119_65 (
 gE t119_65 (
 gE t119_65 (
 gP t119_65 true (ixW (cnt 1 (FI c0 [(AA (nx x58 8))])) (nx x58 1)) fun t125_66=>
 gP t119_65 true (ldc c0 [(AA (nx x58 8))] ((AA t125_66)*1)) fun t126_67=>
 gP t119_65 true ((fun K=>cl2 C 91 BQ.sg [t126_67] [c0,c1,c2,c3] fun v68 d69=>K (nx v68 0))) fun t127_70=>
 gP t119_65 true (prP (bnI .lss t127_70 (.int .i64 0))) fun t128_71=>
 prP (pk t119_65 t128_71 (.bool false)) fun t129_72=>
 AU t129_72 (
 K [(.bool false)] []) (
 prP (bnI .add (nx x58 1) (.int .i64 1)) fun t113_73=>
 r60 [(nx x58 0),t113_73,(nx x58 2),(nx x58 3),(nx x58 4),(nx x58 5),(nx x58 6),(nx x58 7),(iv (AA (nx x58 8))),(nx x58 9)] [])))))) (
 prP (bnI .add (nx x58 5) (nx x58 6)) fun t136_74=>
 cl2 C 189 D7.sg [(nx x58 0)] [c0,c1,c2,c3] fun v75 d76=>
 prP (bnI .add t136_74 (nx v75 0)) fun t140_78=>
 prP (bnI .neq (nx x58 7) t140_78) fun t141_79=>
 gE t141_79 (
 gE t141_79 (
 gP t141_79 false (prP (bnI .lss (nx x58 7) (.int .i64 1))) fun t145_80=>
 prP (pk t141_79 (.bool true) t145_80) fun t146_81=>
 gE t146_81 (
 gE t146_81 (
 gE t146_81 (
 gE t146_81 (
 gE t146_81 (
 gE t146_81 (
 gE t146_81 (
 gP t146_81 false ((fun K=>cl2 C 79 EJ.sg [(nx x58 0),(nx x58 3)] [] fun v82 d83=>K (nx v82 0))) fun t155_84=>
 gP t146_81 false ((fun K=>cl2 C 190 FP.sg [t155_84] [c2] fun v85 d86=>K (nx v85 0))) fun t156_87=>
 gP t146_81 false (prP (bnB .neq (nx x58 9) t156_87)) fun t157_88=>
 prP (pk t146_81 (.bool true) t157_88) fun t158_89=>
 AU t158_89 (
 K [(.bool false)] []) (
 j14 [(nx x58 0)] [])))))))))))) [(nx x6 0),(.int .i64 0),(tv (nxT ts16 0)),(tv (nxT ts16 1)),(tv (nxT ts16 2)),(tv (nxT ts16 3)),(tv (nxT ts16 4)),(tv (nxT ts16 5)),(iv (((AA t38_15)*8)+6)),(tv (nxT ts16 7))] [])))))))))))))))) (
 BD (fun r93 x91 k92=>
 prP (bnI .lss (nx x91 0) (iv (cnt 2 c1))) fun t163_95=>
 AU t163_95 (
 ixW (cnt 2 c1) (nx x91 0) fun t169_96=>
 ldg c1 [] ((AA t169_96)*2) [.c, .c] fun ts97=>
 prP (un .not (tv (nxT ts97 0))) fun t173_98=>
 gE t173_98 (
 gE t173_98 (
 gP t173_98 true (prP (bnI .neq (tv (nxT ts97 1)) (.int .i64 0))) fun t177_99=>
 prP (pk t173_98 t177_99 (.bool false)) fun t178_100=>
 gE t178_100 (
 gE t178_100 (
 gE t178_100 (
 gE (DK t178_100 false (tv (nxT ts97 0))) (
 gE (DK t178_100 false (tv (nxT ts97 0))) (
 gP (DK t178_100 false (tv (nxT ts97 0))) true ((fun K=>cl2 C 154 B7.sg [(tv (nxT ts97 1)),(.int .i64 8),(.int .i64 7999)] [] fun v101 d102=>K (nx v101 0))) fun t185_103=>
 gP (DK t178_100 false (tv (nxT ts97 0))) true (prP (un .not t185_103)) fun t186_104=>
 gP t178_100 false (prP (pk (tv (nxT ts97 0)) t186_104 (.bool false))) fun t187_105=>
 prP (pk t178_100 (.bool true) t187_105) fun t188_106=>
 AU t188_106 (
 K [(.bool false)] []) (
 prP (bnI .add (nx x91 0) (.int .i64 1)) fun t165_107=>
 r93 [t165_107] []))))))))) (
 BD (fun r110 x108 k109=>
 prP (bnI .lss (nx x108 0) (iv (cnt 1 c2))) fun t193_112=>
 AU t193_112 (
 ixW (cnt 1 c2) (nx x108 0) fun t200_113=>
 ldc c2 [] ((AA t200_113)*1) fun t201_114=>
 cl2 C 91 BQ.sg [t201_114] [c0,c1,c2,c3] fun v115 d116=>
 prP (bnI .lss (nx v115 0) (.int .i64 0)) fun t203_118=>
 gE t203_118 (
 gE t203_118 (
 gE t203_118 (
 gP t203_118 false ((fun K=>scW (cnt 1 c2) none (some (nx x108 0)) fun l m=>K (two l m))) fun t208_119=>
 gE t203_118 (
 gE t203_118 (
 gE t203_118 (
 gP t203_118 false (ixW (cnt 1 c2) (nx x108 0)) fun t212_120=>
 gP t203_118 false (ldc c2 [] ((AA t212_120)*1)) fun t213_121=>
 gP t203_118 false ((fun K=>cl2 C 190 FP.sg [t213_121] [(IT c2 [] ((AA (mI t208_119))*1) ((AA (oR t208_119))*1))] fun v122 d123=>K (nx v122 0))) fun t214_124=>
 prP (pk t203_118 (.bool true) t214_124) fun t215_125=>
 AU t215_125 (
 K [(.bool false)] []) (
 prP (bnI .add (nx x108 0) (.int .i64 1)) fun t195_126=>
 r110 [t195_126] [])))))))) (
 BD (fun r129 x127 k128=>
 prP (bnI .lss (nx x127 0) (iv (cnt 1 c3))) fun t220_131=>
 AU t220_131 (
 ixW (cnt 1 c3) (nx x127 0) fun t226_132=>
 ldc c3 [] ((AA t226_132)*1) fun t227_133=>
 prP (lnS t227_133) fun t228_134=>
 cl2 C 154 B7.sg [t228_134,(.int .i64 1),(.int .i64 8)] [] fun v135 d136=>
 prP (un .not (nx v135 0)) fun t230_138=>
 AU t230_138 (
 K [(.bool false)] []) (
 BD (fun r141 x139 k140=>
 prP (bnI .lss (nx x139 1) (nx x139 0)) fun t233_143=>
 AU t233_143 (
 ixW (cnt 1 c3) (nx x139 1) fun t239_144=>
 ldc c3 [] ((AA t239_144)*1) fun t240_145=>
 ixW (cnt 1 c3) (nx x139 0) fun t244_146=>
 ldc c3 [] ((AA t244_146)*1) fun t245_147=>
 prP (bnS .eql t240_145 t245_147) fun t246_148=>
 AU t246_148 (
 K [(.bool false)] []) (
 prP (bnI .add (nx x139 1) (.int .i64 1)) fun t235_149=>
 r141 [(nx x139 0),t235_149] [])) (
 prP (bnI .add (nx x139 0) (.int .i64 1)) fun t222_150=>
 r129 [t222_150] [])) [(nx x127 0),(.int .i64 0)] [])) (
 K [(.bool true)] [])) [(.int .i64 0)] [])) [(.int .i64 0)] [])) [(.int .i64 0)] [])) [(.int .i64 0)] [])))))))
theorem GU.cl2 {w0:World} {c0 c1 c2 c3:List T} {K:J2} (h:GU.txt ⟨Try.prog,w0⟩ c0 c1 c2 c3 K):Eng.cl2 ⟨Try.prog,w0⟩ 135 GU.sg [] [c0,c1,c2,c3] K:=
 AE (C:=⟨Try.prog,w0⟩) (f:=135) (fn:=Try.f135) [(154,B7.sg),(91,BQ.sg),(189,D7.sg),(79,EJ.sg),(190,FP.sg)] [(22,[0,1,0,7,15,31,63,127,127,383,127,1919,3967,8191,16383,32767]),(24,[0,1,0,4,0,16,60,0,0,384,1020,2047,4095,8191,16383,32767,65535,131071,262143,524287,262143,1310719,262143,262143,8650751,29622271,66322431,134217727,268435455]),(35,[0,0,2,0,14,30,63,127,255,511,1023,511,4095,511,8703,511,57855,123391,262143,524287]),(45,[0,1,0,7,15,0,32,0,224,480,1023])] [(477610,⟨[.p (.j 0) 0, .v, .p (.j 1) 0, .v],[],[.bx [.t (.f 0) 8, .t (.f 1) 2, .t (.f 2) 1, .t (.f 3) 1], .bx [.v, .v, .v, .v, .v, .v, .n (.f 0) 1 1, .v]]⟩),(119418,⟨[.p (.j 0) 0, .v, .p (.j 1) 0, .v],[],[.bx [.t (.f 0) 8, .t (.f 1) 2, .t (.f 2) 1, .t (.f 3) 1], .bx [.v, .v, .v, .v, .v, .v, .n (.f 0) 1 1, .v]]⟩),(233,⟨[.p (.j 0) 0, .v],[],[.bx [.t (.f 0) 8, .t (.f 1) 2, .t (.f 2) 1, .t (.f 3) 1]]⟩),(64806,⟨[.p (.j 0) 0, .v, .v],[],[.bx [.t (.f 0) 8, .t (.f 1) 2, .t (.f 2) 1, .t (.f 3) 1]]⟩),(506,⟨[.p (.j 0) 0, .v],[],[.bx [.t (.f 0) 8, .t (.f 1) 2, .t (.f 2) 1, .t (.f 3) 1]]⟩),(250,⟨[.p (.j 0) 0, .v],[],[.bx [.t (.f 0) 8, .t (.f 1) 2, .t (.f 2) 1, .t (.f 3) 1]]⟩),(122,⟨[.p (.j 0) 0, .v],[],[.bx [.t (.f 0) 8, .t (.f 1) 2, .t (.f 2) 1, .t (.f 3) 1]]⟩),(58,⟨[.p (.j 0) 0, .v],[],[.bx [.t (.f 0) 8, .t (.f 1) 2, .t (.f 2) 1, .t (.f 3) 1]]⟩)] Try.func135 (by kernel_rfl) (by kernel_rfl) (by kernel_rfl) h
def ES.sg:Sg:=⟨[(1,[.t 8 0, .t 2 0, .t 1 0, .t 1 0])],[(0,[.v])],[]⟩
def ES.txt (C:Ctx) (c0 c1 c2 c3:List T) (K:J2):Prop:=
 BD (fun r3 x1 k2=>
 prP (bnI .lss (nx x1 0) (iv (cnt 8 c0))) fun t8_5=>
 gE t8_5 (
 gP t8_5 true (prP (bnI .lss (nx x1 0) (.int .i64 8))) fun t11_6=>
 prP (pk t8_5 t11_6 (.bool false)) fun t12_7=>
 AU t12_7 (
 ixW (cnt 8 c0) (nx x1 0) fun t18_8=>
 ldc c0 [] ((AA t18_8)*8) fun t20_9=>
 prP (un .not t20_9) fun t21_10=>
 gE t21_10 (
 gE t21_10 (
 gE t21_10 (
 gP t21_10 true (ixW (cnt 8 c0) (nx x1 0)) fun t26_11=>
 gE t21_10 (
 gP t21_10 true (ldc c0 [] (((AA t26_11)*8)+1)) fun t28_12=>
 gP t21_10 true (prP (bnI .lss t28_12 (.int .i64 999))) fun t29_13=>
 prP (pk t21_10 t29_13 (.bool false)) fun t30_14=>
 AU t30_14 (
 K [(nx x1 0)] []) (
 prP (bnI .add (nx x1 0) (.int .i64 1)) fun t14_15=>
 r3 [t14_15] [])))))) (
 K [(.int .i64 (-1))] []))) [(.int .i64 0)] []
theorem ES.cl2 {w0:World} {c0 c1 c2 c3:List T} {K:J2} (h:ES.txt ⟨Try.prog,w0⟩ c0 c1 c2 c3 K):Eng.cl2 ⟨Try.prog,w0⟩ 191 ES.sg [] [c0,c1,c2,c3] K:=
 AE (C:=⟨Try.prog,w0⟩) (f:=191) (fn:=Try.f191) [] [] [(26,⟨[.p (.j 0) 0, .v],[],[.bx [.t (.f 0) 8, .t (.f 1) 2, .t (.f 2) 1, .t (.f 3) 1]]⟩)] Try.func191 (by kernel_rfl) (by kernel_rfl) (by kernel_rfl) h
def C5.sg:Sg:=⟨[],[(0,[.t 1])],[]⟩
def C5.txt (C:Ctx) (K:J2):Prop:=
 BD (fun r3 x1 k2=>
 prP (bnI .lss (nx x1 0) (.int .i64 3)) fun t5_5=>
 AU t5_5 (
 apW [T.c (.int .i64 (-1))] true (cnt 1 (nxc k2 0)) (cnt 1 [T.c (.int .i64 (-1))]) 8 (
 prP (bnI .add (nx x1 0) (.int .i64 1)) fun t7_6=>
 r3 [t7_6] [((nxc k2 0)++[T.c (.int .i64 (-1))])])) (
 K [] [(nxc k2 0)])) [(.int .i64 0)] [[]]
theorem C5.cl2 {w0:World} {K:J2} (h:C5.txt ⟨Try.prog,w0⟩ K):Eng.cl2 ⟨Try.prog,w0⟩ 181 C5.sg [] [] K:=
 AE (C:=⟨Try.prog,w0⟩) (f:=181) (fn:=Try.f181) [] [] [(58,⟨[.t (.j 0) 1, .v],[],[.ls]⟩)] Try.func181 (by kernel_rfl) (by kernel_rfl) (by kernel_rfl) h
def FZ.sg:Sg:=⟨[(1,[.t 8 2, .t 2 0, .t 1 0, .t 1 2]),(1,[.v, .v, .v, .v, .v])],[(1,[.t 8, .a 1, .a 2, .t 1]),(1,[.v, .v, .t 1])],[]⟩
def FZ.txt (C:Ctx) (a0 a1 a2 a3 a4:Value) (c0 c1 c2 c3:List T) (K:J2):Prop:=
 prP (lnS a4) fun t12_1=>
 cl2 C 154 B7.sg [t12_1,(.int .i64 1),(.int .i64 8)] [] fun v2 d3=>
 prP (un .not (nx v2 0)) fun t14_5=>
 AU t14_5 (
 K [(.int .i64 2),(.int .i64 0)] [c0,c3,[]]) (
 cl2 C 191 ES.sg [] [c0,c1,c2,c3] fun v6 d7=>
 prP (bnI .lss (nx v6 0) (.int .i64 0)) fun t20_9=>
 AU t20_9 (
 K [(.int .i64 3),(.int .i64 0)] [c0,c3,[]]) (
 BD (fun r12 x10 k11=>
 prP (bnI .lss (nx x10 2) (iv (cnt 1 (nxc k11 1)))) fun t27_14=>
 AU t27_14 (
 BW (fun x16 k17=>
 prP (bnI .add (nx x16 2) (.int .i64 1)) fun t29_22=>
 r12 [(nx x16 0),(nx x16 1),t29_22,(nx x16 3),(nx x16 4),(nx x16 5),(nx x16 6),(nx x16 7),(nx x16 8),(nx x16 9)] [(nxc k17 0),(nxc k17 1)]) fun j18=>
 ixW (cnt 1 (nxc k11 1)) (nx x10 2) fun t33_19=>
 ldc (nxc k11 1) [] ((AA t33_19)*1) fun t34_20=>
 prP (bnS .eql t34_20 (nx x10 7)) fun t37_21=>
 AU t37_21 (
 j18 [(nx x10 0),(nx x10 2),(nx x10 2),(nx x10 3),(nx x10 4),(nx x10 5),(nx x10 6),(nx x10 7),(nx x10 8),(nx x10 9)] [(nxc k11 0),(nxc k11 1)]) (
 j18 [(nx x10 0),(nx x10 1),(nx x10 2),(nx x10 3),(nx x10 4),(nx x10 5),(nx x10 6),(nx x10 7),(nx x10 8),(nx x10 9)] [(nxc k11 0),(nxc k11 1)])) (
 prP (bnI .lss (nx x10 1) (.int .i64 0)) fun t40_23=>
 gE t40_23 (
 gE t40_23 (
 gE t40_23 (
 gP t40_23 true (prP (bnI .geq (iv (cnt 1 (nxc k11 1))) (.int .i64 6))) fun t45_24=>
 prP (pk t40_23 t45_24 (.bool false)) fun t46_25=>
 AU t46_25 (
 K [(.int .i64 6),(.int .i64 0)] [(nxc k11 0),(nxc k11 1),[]]) (
 BW (fun x27 k28=>
 ixW (cnt 8 (nxc k28 0)) (nx x27 0) fun t64_31=>
 ldc (nxc k28 0) [] (((AA t64_31)*8)+1) fun t66_32=>
 prP (bnI .add t66_32 (.int .i64 1)) fun t67_33=>
 cl2 C 181 C5.sg [] [] fun v34 d35=>
 ixW (cnt 8 (nxc k28 0)) (nx x27 0) fun t75_36=>
 stg (nxc k28 0) [] ((AA t75_36)*8) [T.c (.bool true),T.c t67_33,T.c (nx x27 1),T.c (.int .i64 1),T.c (.int .i64 0),T.c (.int .i64 1),T.l 1 (nxc d35 0),T.c (.bool false)] fun k37=>
 cl2 C 79 EJ.sg [(nx x27 0),t67_33] [] fun v38 d39=>
 K [(.int .i64 0),(nx v38 0)] [k37,(nxc k28 1),[]]) fun j29=>
 prP (bnI .lss (nx x10 1) (.int .i64 0)) fun t50_30=>
 AU t50_30 (
 apW [T.c (nx x10 7)] true (cnt 1 (nxc k11 1)) (cnt 1 [T.c (nx x10 7)]) 16 (
 j29 [(nx x10 0),(iv (cnt 1 (nxc k11 1))),(nx x10 8),(nx x10 9)] [(nxc k11 0),((nxc k11 1)++[T.c (nx x10 7)])])) (
 j29 [(nx x10 0),(nx x10 1),(nx x10 8),(nx x10 9)] [(nxc k11 0),(nxc k11 1)]))))))) [(nx v6 0),(.int .i64 (-1)),(.int .i64 0),a0,a1,a2,a3,a4,(.int .i64 0),(.int .i64 0)] [c0,c3]))
theorem FZ.cl2 {w0:World} {a0 a1 a2 a3 a4:Value} {c0 c1 c2 c3:List T} {K:J2} (h:FZ.txt ⟨Try.prog,w0⟩ a0 a1 a2 a3 a4 c0 c1 c2 c3 K):Eng.cl2 ⟨Try.prog,w0⟩ 136 FZ.sg [a0,a1,a2,a3,a4] [c0,c1,c2,c3] K:=
 AE (C:=⟨Try.prog,w0⟩) (f:=136) (fn:=Try.f136) [(154,B7.sg),(191,ES.sg),(181,C5.sg),(79,EJ.sg)] [(10,[0,1,0,7,15,0,32,127]),(18,[0,1,0,0,0,0,56,127,255]),(19,[0,0,0,6,14,15,63])] [(2025,⟨[.p (.j 0) 0, .p (.j 1) 0, .p (.j 2) 0, .p (.j 3) 0, .v, .v, .v],[.w, .t (.f 0) 2, .t (.f 1) 1, .w],[.bx [.t (.j 4) 8, .t (.f 0) 2, .t (.f 1) 1, .t (.j 5) 1], .bx [.v, .v, .v, .v, .v], .bx [.z, .z, .z, .z], .bx [.v, .v, .z], .ls, .ls]⟩),(255,⟨[.p (.j 0) 0, .p (.j 1) 0, .p (.j 2) 0, .v, .v],[.w, .t (.f 0) 2, .t (.f 1) 1, .w],[.bx [.t (.j 3) 8, .t (.f 0) 2, .t (.f 1) 1, .t (.j 4) 1], .bx [.z, .z, .z, .z], .bx [.v, .v, .z], .ls, .ls]⟩),(506,⟨[.p (.j 0) 0, .p (.j 1) 0, .p (.j 2) 0, .p (.j 3) 0, .v, .v, .v],[.w, .t (.f 0) 2, .t (.f 1) 1, .w],[.bx [.t (.j 4) 8, .t (.f 0) 2, .t (.f 1) 1, .t (.j 5) 1], .bx [.v, .v, .v, .v, .v], .bx [.z, .z, .z, .z], .bx [.v, .v, .z], .ls, .ls]⟩)] Try.func136 (by kernel_rfl) (by kernel_rfl) (by kernel_rfl) h
def FL.sg:Sg:=⟨[(1,[.t 8 0, .t 2 0, .t 1 0, .t 1 0]),(0,[.v])],[(1,[.t 8, .t 2, .t 1, .t 1])],[]⟩
def FL.txt (C:Ctx) (a0:Value) (c0 c1 c2 c3:List T) (K:J2):Prop:=
 cl2 C 134 C7.sg [] [c0,c1,c2,c3] fun v1 d2=>
 cl2 C 91 BQ.sg [a0] [c0,c1,c2,c3] fun v3 d4=>
 BW (fun x7 k8=>
 K [] [(nxc k8 0),(nxc k8 1),(nxc k8 2),(nxc k8 3)]) fun j9=>
 prP (bnI .geq (nx v3 0) (.int .i64 0)) fun t13_10=>
 AU t13_10 (
 ixW (cnt 8 c0) (nx v3 0) fun t20_11=>
 ldc c0 [] (((AA t20_11)*8)+5) fun t22_12=>
 prP (bnI .add t22_12 (.int .i64 1)) fun t23_13=>
 ixW (cnt 8 (nxc d2 0)) (nx v3 0) fun t24_14=>
 stc (nxc d2 0) [] (((AA t24_14)*8)+5) t23_13 fun k15=>
 j9 [] [k15,(nxc d2 1),(nxc d2 2),(nxc d2 3)]) (
 j9 [] [(nxc d2 0),(nxc d2 1),(nxc d2 2),(nxc d2 3)])
theorem FL.cl2 {w0:World} {a0:Value} {c0 c1 c2 c3:List T} {K:J2} (h:FL.txt ⟨Try.prog,w0⟩ a0 c0 c1 c2 c3 K):Eng.cl2 ⟨Try.prog,w0⟩ 192 FL.sg [a0] [c0,c1,c2,c3] K:=
 AE (C:=⟨Try.prog,w0⟩) (f:=192) (fn:=Try.f192) [(134,C7.sg),(91,BQ.sg)] [(4,[0,1,0,0,8,0,56,120,248,504,1023,2047,4095])] [(15,⟨[.p (.j 0) 0, .p (.j 1) 0],[],[.bx [.z, .z, .z, .z], .bx [.t (.j 2) 8, .t (.j 3) 2, .t (.j 4) 1, .t (.j 5) 1], .ls, .ls, .ls, .ls]⟩)] Try.func192 (by kernel_rfl) (by kernel_rfl) (by kernel_rfl) h
def EC.sg:Sg:=⟨[(0,[.t 1 0]),(0,[.v])],[(0,[.t 1])],[]⟩
def EC.txt (C:Ctx) (a0:Value) (c0:List T) (K:J2):Prop:=
 BD (fun r3 x1 k2=>
 prP (bnI .lss (nx x1 1) (iv (cnt 1 c0))) fun t11_5=>
 AU t11_5 (
 BW (fun x7 k8=>
 prP (bnI .add (nx x7 1) (.int .i64 1)) fun t13_15=>
 r3 [(nx x7 0),t13_15] [(nxc k8 0)]) fun j9=>
 ixW (cnt 1 c0) (nx x1 1) fun t16_10=>
 ldc c0 [] ((AA t16_10)*1) fun t17_11=>
 prP (bnI .neq t17_11 (nx x1 0)) fun t19_12=>
 AU t19_12 (
 ixW (cnt 1 c0) (nx x1 1) fun t23_13=>
 ldc c0 [] ((AA t23_13)*1) fun t24_14=>
 apW [T.c t24_14] true (cnt 1 (nxc k2 0)) (cnt 1 [T.c t24_14]) 8 (
 j9 [(nx x1 0),(nx x1 1)] [((nxc k2 0)++[T.c t24_14])])) (
 j9 [(nx x1 0),(nx x1 1)] [(nxc k2 0)])) (
 K [] [(nxc k2 0)])) [a0,(.int .i64 0)] [[]]
theorem EC.cl2 {w0:World} {a0:Value} {c0:List T} {K:J2} (h:EC.txt ⟨Try.prog,w0⟩ a0 c0 K):Eng.cl2 ⟨Try.prog,w0⟩ 224 EC.sg [a0] [c0] K:=
 AE (C:=⟨Try.prog,w0⟩) (f:=224) (fn:=Try.f224) [] [] [(233,⟨[.t (.f 0) 1, .v, .t (.j 0) 1, .v],[],[.ls]⟩),(58,⟨[.t (.f 0) 1, .v, .t (.j 0) 1, .v],[],[.ls]⟩)] Try.func224 (by kernel_rfl) (by kernel_rfl) (by kernel_rfl) h
def GB.sg:Sg:=⟨[(1,[.t 8 0, .t 2 0, .t 1 0, .t 1 0]),(0,[.t 1 0])],[(1,[.t 8, .t 2, .t 1, .t 1]),(0,[.t 1])],[]⟩
def GB.txt (C:Ctx) (c0 c1 c2 c3 c4:List T) (K:J2):Prop:=
 cl2 C 134 C7.sg [] [c0,c1,c2,c3] fun v1 d2=>
 apW c4 true (cnt 1 []) (cnt 1 c4) 8 (
 BD (fun r5 x3 k4=>
 prP (bnI .gtr (iv (AA (nx x3 0))) (.int .i64 0)) fun t20_65=>
 gE t20_65 (
 gE t20_65 (
 gP t20_65 true (prP (bnI .leq (iv (cnt 1 (nxc k4 0))) (.int .i64 8))) fun t24_66=>
 prP (pk t20_65 t24_66 (.bool false)) fun t25_67=>
 AU t25_67 (
 ixW (AA (nx x3 0)) (.int .i64 0) fun t27_68=>
 ldc (nxc k4 1) [] ((AA (nx x3 1))+((AA t27_68)*1)) fun t28_69=>
 scW (AA (nx x3 0)) (some (.int .i64 1)) none fun l70 m71=>
 cl2 C 91 BQ.sg [t28_69] [(nxc k4 2),(nxc k4 3),(nxc k4 4),(nxc k4 5)] fun v72 d73=>
 prP (bnI .lss (nx v72 0) (.int .i64 0)) fun t35_75=>
 AU t35_75 (
 r5 [(iv (AA m71)),(iv ((AA (nx x3 1))+((AA l70)*1)))] [(nxc k4 0),(nxc k4 1),(nxc k4 2),(nxc k4 3),(nxc k4 4),(nxc k4 5)]) (
 ixW (cnt 8 (nxc k4 2)) (nx v72 0) fun t42_76=>
 ldc (nxc k4 2) [] (((AA t42_76)*8)+5) fun t44_77=>
 prP (bnI .sub t44_77 (.int .i64 1)) fun t45_78=>
 ixW (cnt 8 (nxc k4 2)) (nx v72 0) fun t46_79=>
 stc (nxc k4 2) [] (((AA t46_79)*8)+5) t45_78 fun k80=>
 ixW (cnt 8 k80) (nx v72 0) fun t51_81=>
 ldc k80 [] (((AA t51_81)*8)+5) fun t53_82=>
 prP (bnI .gtr t53_82 (.int .i64 0)) fun t54_83=>
 AU t54_83 (
 BW (fun x85 k86=>
 r5 [(iv (AA (nx x85 0))),(iv (AA (nx x85 1)))] [(nxc k86 0),(nxc k86 1),(nxc k86 2),(nxc k86 3),(nxc k86 4),(nxc k86 5)]) fun j87=>
 ixW (cnt 8 k80) (nx v72 0) fun t58_88=>
 ldc k80 [] (((AA t58_88)*8)+7) fun t60_89=>
 prP (un .not t60_89) fun t61_90=>
 AU t61_90 (
 ixW (cnt 8 k80) (nx v72 0) fun t65_91=>
 stc k80 [] (((AA t65_91)*8)+7) (.bool true) fun k92=>
 apW [T.c t28_69] true (cnt 1 (nxc k4 4)) (cnt 1 [T.c t28_69]) 8 (
 j87 [(iv (AA m71)),(iv ((AA (nx x3 1))+((AA l70)*1)))] [(nxc k4 0),(nxc k4 1),k92,(nxc k4 3),((nxc k4 4)++[T.c t28_69]),(nxc k4 5)])) (
 j87 [(iv (AA m71)),(iv ((AA (nx x3 1))+((AA l70)*1)))] [(nxc k4 0),(nxc k4 1),k80,(nxc k4 3),(nxc k4 4),(nxc k4 5)])) (
 apW [T.c t28_69] true (cnt 1 (nxc k4 0)) (cnt 1 [T.c t28_69]) 8 (
 BD (fun r95 x93 k94=>
 ixW (cnt 8 (nxc k94 2)) (nx x93 3) fun t81_97=>
 ldl (nxc k94 2) [] (((AA t81_97)*8)+6) 1 fun t83_98=>
 prP (bnI .lss (nx x93 4) (iv (cnt 1 (FI (nxc k94 2) [(((AA t81_97)*8)+6)])))) fun t85_99=>
 AU t85_99 (
 BW (fun x101 k102=>
 prP (bnI .add (nx x101 4) (.int .i64 1)) fun t87_113=>
 r95 [(iv (AA (nx x101 0))),(iv (AA (nx x101 1))),(nx x101 2),(nx x101 3),t87_113] [(nxc k102 0),(nxc k102 1),(nxc k102 2),(nxc k102 3),(nxc k102 4),(nxc k102 5)]) fun j103=>
 ixW (cnt 8 (nxc k94 2)) (nx x93 3) fun t91_104=>
 ldl (nxc k94 2) [] (((AA t91_104)*8)+6) 1 fun t93_105=>
 ixW (cnt 1 (FI (nxc k94 2) [(((AA t91_104)*8)+6)])) (nx x93 4) fun t95_106=>
 ldc (nxc k94 2) [(((AA t91_104)*8)+6)] ((AA t95_106)*1) fun t96_107=>
 prP (bnI .geq t96_107 (.int .i64 0)) fun t97_108=>
 AU t97_108 (
 ixW (cnt 8 (nxc k94 2)) (nx x93 3) fun t102_109=>
 ldl (nxc k94 2) [] (((AA t102_109)*8)+6) 1 fun t104_110=>
 ixW (cnt 1 (FI (nxc k94 2) [(((AA t102_109)*8)+6)])) (nx x93 4) fun t106_111=>
 ldc (nxc k94 2) [(((AA t102_109)*8)+6)] ((AA t106_111)*1) fun t107_112=>
 apW [T.c t107_112] true (AA (nx x93 0)) (cnt 1 [T.c t107_112]) 8 (
 j103 [(iv (cnt 1 ((IT (nxc k94 1) [] (AA (nx x93 1)) ((AA (nx x93 0))*1))++[T.c t107_112]))),(iv 0),(nx x93 2),(nx x93 3),(nx x93 4)] [(nxc k94 0),((IT (nxc k94 1) [] (AA (nx x93 1)) ((AA (nx x93 0))*1))++[T.c t107_112]),(nxc k94 2),(nxc k94 3),(nxc k94 4),(nxc k94 5)])) (
 j103 [(iv (AA (nx x93 0))),(iv (AA (nx x93 1))),(nx x93 2),(nx x93 3),(nx x93 4)] [(nxc k94 0),(nxc k94 1),(nxc k94 2),(nxc k94 3),(nxc k94 4),(nxc k94 5)])) (
 cl2 C 224 EC.sg [(nx x93 2)] [(nxc k94 4)] fun v114 d115=>
 ixW (cnt 8 (nxc k94 2)) (nx x93 3) fun t121_116=>
 ldc (nxc k94 2) [] (((AA t121_116)*8)+1) fun t123_117=>
 cl2 C 181 C5.sg [] [] fun v118 d119=>
 ixW (cnt 8 (nxc k94 2)) (nx x93 3) fun t126_120=>
 stg (nxc k94 2) [] ((AA t126_120)*8) [T.c (.bool false),T.c t123_117,T.c (.int .i64 0),T.c (.int .i64 0),T.c (.int .i64 0),T.c (.int .i64 0),T.l 1 (nxc d119 0),T.c (.bool false)] fun k121=>
 r5 [(iv (AA (nx x93 0))),(iv (AA (nx x93 1)))] [(nxc k94 0),(nxc k94 1),k121,(nxc k94 3),(nxc d115 0),(nxc k94 5)])) [(iv (AA m71)),(iv ((AA (nx x3 1))+((AA l70)*1))),t28_69,(nx v72 0),(.int .i64 0)] [((nxc k4 0)++[T.c t28_69]),(nxc k4 1),k80,(nxc k4 3),(nxc k4 4),(nxc k4 5)])))) (
 K [] [(nxc k4 2),(nxc k4 3),(nxc k4 4),(nxc k4 5),(nxc k4 0)])))) [(iv (cnt 1 ([]++c4))),(iv 0)] [[],([]++c4),(nxc d2 0),(nxc d2 1),(nxc d2 2),(nxc d2 3)])
theorem GB.cl2 {w0:World} {c0 c1 c2 c3 c4:List T} {K:J2} (h:GB.txt ⟨Try.prog,w0⟩ c0 c1 c2 c3 c4 K):Eng.cl2 ⟨Try.prog,w0⟩ 193 GB.sg [] [c0,c1,c2,c3,c4] K:=
 AE (C:=⟨Try.prog,w0⟩) (f:=193) (fn:=Try.f193) [(134,C7.sg),(91,BQ.sg),(224,EC.sg),(181,C5.sg)] [(9,[0,1,0,0,8,0,56,120,248,504,1023,2047,4095]),(21,[0,1,0,0,8,0,56,120,248,0,1016,2047,4095])] [(254714,⟨[.p (.j 0) 0, .p (.j 1) 0, .t (.j 2) 1, .s (.j 3) 0 1],[],[.bx [.z, .z, .z, .z], .bx [.t (.j 4) 8, .t (.j 5) 2, .t (.j 6) 1, .t (.j 7) 1], .ls, .ls, .ls, .ls, .ls, .ls]⟩),(4075497,⟨[.p (.j 0) 0, .p (.j 1) 0, .t (.j 2) 1, .s (.j 3) 0 1, .v, .v, .v],[],[.bx [.z, .z, .z, .z], .bx [.t (.j 4) 8, .t (.j 5) 2, .t (.j 6) 1, .t (.j 7) 1], .ls, .ls, .ls, .ls, .ls, .ls]⟩),(1018874,⟨[.p (.j 0) 0, .p (.j 1) 0, .t (.j 2) 1, .s (.j 3) 0 1, .v, .v, .v],[],[.bx [.z, .z, .z, .z], .bx [.t (.j 4) 8, .t (.j 5) 2, .t (.j 6) 1, .t (.j 7) 1], .ls, .ls, .ls, .ls, .ls, .ls]⟩),(124,⟨[.p (.j 0) 0, .p (.j 1) 0, .t (.j 2) 1, .s (.j 3) 0 1],[],[.bx [.z, .z, .z, .z], .bx [.t (.j 4) 8, .t (.j 5) 2, .t (.j 6) 1, .t (.j 7) 1], .ls, .ls, .ls, .ls, .ls, .ls]⟩)] Try.func193 (by kernel_rfl) (by kernel_rfl) (by kernel_rfl) h
def GR.sg:Sg:=⟨[(1,[.t 8 2, .t 2 2, .t 1 2, .t 1 2]),(1,[.v, .v, .v, .v, .v])],[(1,[.t 8, .t 2, .t 1, .t 1]),(1,[.v, .v, .t 1])],[]⟩
def GR.txt (C:Ctx) (a0 a1 a2 a3 a4:Value) (c0 c1 c2 c3:List T) (K:J2):Prop:=
 cl2 C 91 BQ.sg [a1] [c0,c1,c2,c3] fun v1 d2=>
 prP (bnI .lss (nx v1 0) (.int .i64 0)) fun t15_4=>
 AU t15_4 (
 K [(.int .i64 1),(.int .i64 0)] [c0,c1,c2,c3,[]]) (
 ixW (cnt 8 c0) (nx v1 0) fun t21_5=>
 ldg c0 [] ((AA t21_5)*8) [.c, .c, .c, .c, .c, .c, .l 1, .c] fun ts6=>
 BW (fun x8 k9=>
 cl2 C 193 GB.sg [] [(nxc k9 0),(nxc k9 1),(nxc k9 2),(nxc k9 3),[T.c (nx x8 1)]] fun v50 d51=>
 K [(.int .i64 0),(.int .i64 0)] [(nxc d51 0),(nxc d51 1),(nxc d51 2),(nxc d51 3),(nxc d51 4)]) fun j10=>
 BW (fun x12 k13=>
 AU (nx x12 1) (
 K [(.int .i64 4),(.int .i64 0)] [(nxc k13 0),(nxc k13 1),(nxc k13 2),(nxc k13 3),[]]) (
 BW (fun x22 k23=>
 AU (nx x22 1) (
 K [(.int .i64 5),(.int .i64 0)] [(nxc k23 0),(nxc k23 1),(nxc k23 2),(nxc k23 3),[]]) (
 prP (bnI .eql (nx x22 2) (.int .i64 2)) fun t72_31=>
 AU t72_31 (
 prP (bnI .add (nx x22 12) (.int .i64 1)) fun t78_32=>
 ixW (cnt 8 (nxc k23 0)) (nx x22 0) fun t79_33=>
 stc (nxc k23 0) [] (((AA t79_33)*8)+3) t78_32 fun k34=>
 cl2 C 192 FL.sg [(nx x22 3)] [k34,(nxc k23 1),(nxc k23 2),(nxc k23 3)] fun v35 d36=>
 K [(.int .i64 0),(.int .i64 0)] [(nxc d36 0),(nxc d36 1),(nxc d36 2),(nxc d36 3),[]]) (
 prP (bnI .eql (nx x22 2) (.int .i64 5)) fun t89_37=>
 AU t89_37 (
 prP (bnI .add (nx x22 13) (.int .i64 1)) fun t95_38=>
 ixW (cnt 8 (nxc k23 0)) (nx x22 0) fun t96_39=>
 stc (nxc k23 0) [] (((AA t96_39)*8)+4) t95_38 fun k40=>
 cl2 C 192 FL.sg [(nx x22 3)] [k40,(nxc k23 1),(nxc k23 2),(nxc k23 3)] fun v41 d42=>
 K [(.int .i64 0),(.int .i64 0)] [(nxc d42 0),(nxc d42 1),(nxc d42 2),(nxc d42 3),[]]) (
 prP (bnI .eql (nx x22 2) (.int .i64 3)) fun t106_43=>
 AU t106_43 (
 prP (bnI .sub (nx x22 12) (.int .i64 1)) fun t112_44=>
 ixW (cnt 8 (nxc k23 0)) (nx x22 0) fun t113_45=>
 stc (nxc k23 0) [] (((AA t113_45)*8)+3) t112_44 fun k46=>
 j10 [(nx x22 2),(nx x22 3),(nx x22 4),(nx x22 5),(nx x22 6),(nx x22 7),(nx x22 8)] [k46,(nxc k23 1),(nxc k23 2),(nxc k23 3)]) (
 prP (bnI .sub (nx x22 13) (.int .i64 1)) fun t28_47=>
 ixW (cnt 8 (nxc k23 0)) (nx x22 0) fun t29_48=>
 stc (nxc k23 0) [] (((AA t29_48)*8)+4) t28_47 fun k49=>
 j10 [(nx x22 2),(nx x22 3),(nx x22 4),(nx x22 5),(nx x22 6),(nx x22 7),(nx x22 8)] [k49,(nxc k23 1),(nxc k23 2),(nxc k23 3)]))))) fun j24=>
 prP (bnI .eql (nx x12 2) (.int .i64 3)) fun t53_25=>
 gE t53_25 (
 gE t53_25 (
 gP t53_25 true (prP (bnI .lss (nx x12 12) (.int .i64 1))) fun t57_26=>
 prP (pk t53_25 t57_26 (.bool false)) fun t58_27=>
 AU t58_27 (
 j24 [(nx x12 0),t58_27,(nx x12 2),(nx x12 3),(nx x12 4),(nx x12 5),(nx x12 6),(nx x12 7),(nx x12 8),(nx x12 9),(nx x12 10),(nx x12 11),(nx x12 12),(nx x12 13),(nx x12 14),(iv (AA (nx x12 15))),(nx x12 16)] [(nxc k13 0),(nxc k13 1),(nxc k13 2),(nxc k13 3)]) (
 prP (bnI .eql (nx x12 2) (.int .i64 6)) fun t61_28=>
 gE t61_28 (
 gE t61_28 (
 gP t61_28 true (prP (bnI .lss (nx x12 13) (.int .i64 1))) fun t65_29=>
 prP (pk t61_28 t65_29 (.bool false)) fun t66_30=>
 j24 [(nx x12 0),t66_30,(nx x12 2),(nx x12 3),(nx x12 4),(nx x12 5),(nx x12 6),(nx x12 7),(nx x12 8),(nx x12 9),(nx x12 10),(nx x12 11),(nx x12 12),(nx x12 13),(nx x12 14),(iv (AA (nx x12 15))),(nx x12 16)] [(nxc k13 0),(nxc k13 1),(nxc k13 2),(nxc k13 3)]))))))) fun j14=>
 prP (bnI .eql a0 (.int .i64 2)) fun t34_15=>
 gE t34_15 (
 gE t34_15 (
 gP t34_15 true (prP (bnI .geq (tv (nxT ts6 3)) (.int .i64 20))) fun t38_16=>
 prP (pk t34_15 t38_16 (.bool false)) fun t39_17=>
 AU t39_17 (
 j14 [(nx v1 0),t39_17,a0,a1,a2,a3,a4,(.int .i64 0),(.int .i64 0),(tv (nxT ts6 0)),(tv (nxT ts6 1)),(tv (nxT ts6 2)),(tv (nxT ts6 3)),(tv (nxT ts6 4)),(tv (nxT ts6 5)),(iv (((AA t21_5)*8)+6)),(tv (nxT ts6 7))] [c0,c1,c2,c3]) (
 prP (bnI .eql a0 (.int .i64 5)) fun t42_18=>
 gE t42_18 (
 gE t42_18 (
 gP t42_18 true (prP (bnI .geq (tv (nxT ts6 4)) (.int .i64 20))) fun t46_19=>
 prP (pk t42_18 t46_19 (.bool false)) fun t47_20=>
 j14 [(nx v1 0),t47_20,a0,a1,a2,a3,a4,(.int .i64 0),(.int .i64 0),(tv (nxT ts6 0)),(tv (nxT ts6 1)),(tv (nxT ts6 2)),(tv (nxT ts6 3)),(tv (nxT ts6 4)),(tv (nxT ts6 5)),(iv (((AA t21_5)*8)+6)),(tv (nxT ts6 7))] [c0,c1,c2,c3]))))))
theorem GR.cl2 {w0:World} {a0 a1 a2 a3 a4:Value} {c0 c1 c2 c3:List T} {K:J2} (h:GR.txt ⟨Try.prog,w0⟩ a0 a1 a2 a3 a4 c0 c1 c2 c3 K):Eng.cl2 ⟨Try.prog,w0⟩ 137 GR.sg [a0,a1,a2,a3,a4] [c0,c1,c2,c3] K:=
 AE (C:=⟨Try.prog,w0⟩) (f:=137) (fn:=Try.f137) [(91,BQ.sg),(192,FL.sg),(193,GB.sg)] [] [(124,⟨[.p (.j 0) 0, .p (.j 1) 0, .p (.j 2) 0, .p (.j 3) 0, .v, .p (.j 4) 0, .v],[],[.bx [.t (.j 5) 8, .t (.j 6) 2, .t (.j 7) 1, .t (.j 8) 1], .bx [.v, .v, .v, .v, .v], .bx [.z, .z, .z, .z], .bx [.v, .v, .z], .bx [.v, .v, .v, .v, .v, .v, .n (.j 5) 1 1, .v], .ls, .ls, .ls, .ls]⟩),(499,⟨[.p (.j 0) 0, .p (.j 1) 0, .p (.j 2) 0, .p (.j 3) 0, .v, .p (.j 4) 0, .v],[],[.bx [.t (.j 5) 8, .t (.j 6) 2, .t (.j 7) 1, .t (.j 8) 1], .bx [.v, .v, .v, .v, .v], .bx [.z, .z, .z, .z], .bx [.v, .v, .z], .bx [.v, .v, .v, .v, .v, .v, .n (.j 5) 1 1, .v], .ls, .ls, .ls, .ls]⟩),(31,⟨[.p (.j 0) 0, .p (.j 1) 0, .p (.j 2) 0, .p (.j 3) 0],[],[.bx [.t (.j 4) 8, .t (.j 5) 2, .t (.j 6) 1, .t (.j 7) 1], .bx [.v, .v, .v, .v, .v], .bx [.z, .z, .z, .z], .bx [.v, .v, .z], .ls, .ls, .ls, .ls]⟩)] Try.func137 (by kernel_rfl) (by kernel_rfl) (by kernel_rfl) h
def F5.sg:Sg:=⟨[(1,[.t 8 2, .t 2 2, .t 1 2, .t 1 2]),(1,[.v, .v, .v, .v, .v])],[(1,[.t 8, .t 2, .t 1, .t 1]),(1,[.v, .v, .t 1])],[]⟩
def F5.txt (C:Ctx) (a0 a1 a2 a3 a4:Value) (c0 c1 c2 c3:List T) (K:J2):Prop:=
 cl2 C 91 BQ.sg [a1] [c0,c1,c2,c3] fun v1 d2=>
 prP (bnI .lss (nx v1 0) (.int .i64 0)) fun t15_4=>
 gE t15_4 (
 gE t15_4 (
 gP t15_4 false (prP (bnI .neq a3 (.int .i64 (-1)))) fun t19_5=>
 gE t15_4 (
 gE (DK t15_4 false t19_5) (
 gE (DK t15_4 false t19_5) (
 gE (DK t15_4 false t19_5) (
 gP (DK t15_4 false t19_5) true ((fun K=>cl2 C 91 BQ.sg [a3] [c0,c1,c2,c3] fun v6 d7=>K (nx v6 0))) fun t24_8=>
 gP (DK t15_4 false t19_5) true (prP (bnI .lss t24_8 (.int .i64 0))) fun t25_9=>
 gP t15_4 false (prP (pk t19_5 t25_9 (.bool false))) fun t26_10=>
 prP (pk t15_4 (.bool true) t26_10) fun t27_11=>
 AU t27_11 (
 K [(.int .i64 1),(.int .i64 0)] [c0,c1,c2,c3,[]]) (
 cl2 C 154 B7.sg [a2,(.int .i64 0),(.int .i64 2)] [] fun v12 d13=>
 prP (un .not (nx v12 0)) fun t33_15=>
 AU t33_15 (
 K [(.int .i64 2),(.int .i64 0)] [c0,c1,c2,c3,[]]) (
 ixW (cnt 8 c0) (nx v1 0) fun t39_16=>
 ldl c0 [] (((AA t39_16)*8)+6) 1 fun t41_17=>
 ixW (cnt 1 (FI c0 [(((AA t39_16)*8)+6)])) a2 fun t44_18=>
 ldc c0 [(((AA t39_16)*8)+6)] ((AA t44_18)*1) fun t45_19=>
 BW (fun x21 k22=>
 ixW (cnt 8 (nxc k22 0)) (nx x21 0) fun t56_27=>
 ldl (nxc k22 0) [] (((AA t56_27)*8)+6) 1 fun t58_28=>
 ixW (cnt 1 (FI (nxc k22 0) [(((AA t56_27)*8)+6)])) (nx x21 4) fun t63_29=>
 stc (nxc k22 0) [(((AA t56_27)*8)+6)] ((AA t63_29)*1) (nx x21 5) fun k30=>
 prP (bnI .lss (nx x21 1) (.int .i64 0)) fun t65_31=>
 AU t65_31 (
 K [(.int .i64 0),(.int .i64 0)] [k30,(nxc k22 1),(nxc k22 2),(nxc k22 3),[]]) (
 cl2 C 193 GB.sg [] [k30,(nxc k22 1),(nxc k22 2),(nxc k22 3),[T.c (nx x21 1)]] fun v32 d33=>
 K [(.int .i64 0),(.int .i64 0)] [(nxc d33 0),(nxc d33 1),(nxc d33 2),(nxc d33 3),(nxc d33 4)])) fun j23=>
 prP (bnI .geq a3 (.int .i64 0)) fun t48_24=>
 AU t48_24 (
 cl2 C 192 FL.sg [a3] [c0,c1,c2,c3] fun v25 d26=>
 j23 [(nx v1 0),t45_19,a0,a1,a2,a3,a4,(.int .i64 0),(.int .i64 0)] [(nxc d26 0),(nxc d26 1),(nxc d26 2),(nxc d26 3)]) (
 j23 [(nx v1 0),t45_19,a0,a1,a2,a3,a4,(.int .i64 0),(.int .i64 0)] [c0,c1,c2,c3])))))))))
theorem F5.cl2 {w0:World} {a0 a1 a2 a3 a4:Value} {c0 c1 c2 c3:List T} {K:J2} (h:F5.txt ⟨Try.prog,w0⟩ a0 a1 a2 a3 a4 c0 c1 c2 c3 K):Eng.cl2 ⟨Try.prog,w0⟩ 138 F5.sg [a0,a1,a2,a3,a4] [c0,c1,c2,c3] K:=
 AE (C:=⟨Try.prog,w0⟩) (f:=138) (fn:=Try.f138) [(91,BQ.sg),(154,B7.sg),(192,FL.sg),(193,GB.sg)] [(6,[0,1,0,7,15,31,0,64,255,511,1023]),(9,[0,1,0,7,15,31,0,64,0,256,1023,2047])] [(63,⟨[.p (.j 0) 0, .p (.j 1) 0, .p (.j 2) 0, .p (.j 3) 0, .v, .v],[],[.bx [.t (.j 4) 8, .t (.j 5) 2, .t (.j 6) 1, .t (.j 7) 1], .bx [.v, .v, .v, .v, .v], .bx [.z, .z, .z, .z], .bx [.v, .v, .z], .ls, .ls, .ls, .ls]⟩)] Try.func138 (by kernel_rfl) (by kernel_rfl) (by kernel_rfl) h
def GY.sg:Sg:=⟨[(1,[.t 8 0, .t 2 2, .t 1 0, .t 1 0]),(1,[.v, .v, .v, .v, .v])],[(1,[.a 0, .t 2, .a 2, .a 3]),(1,[.v, .v, .t 1])],[]⟩
def GY.txt (C:Ctx) (a0 a1 a2 a3 a4:Value) (c0 c1 c2 c3:List T) (K:J2):Prop:=
 prP (bnI .eql a0 (.int .i64 7)) fun t10_1=>
 AU t10_1 (
 cl2 C 91 BQ.sg [a1] [c0,c1,c2,c3] fun v2 d3=>
 prP (bnI .lss (nx v2 0) (.int .i64 0)) fun t15_5=>
 AU t15_5 (
 K [(.int .i64 1),(.int .i64 0)] [c1,[]]) (
 BD (fun r8 x6 k7=>
 prP (bnI .lss (nx x6 0) (iv (cnt 2 (nxc k7 0)))) fun t22_10=>
 AU t22_10 (
 ixW (cnt 2 (nxc k7 0)) (nx x6 0) fun t28_11=>
 ldc (nxc k7 0) [] ((AA t28_11)*2) fun t30_12=>
 prP (un .not t30_12) fun t31_13=>
 AU t31_13 (
 ixW (cnt 2 (nxc k7 0)) (nx x6 0) fun t38_14=>
 stg (nxc k7 0) [] ((AA t38_14)*2) [T.c (.bool true),T.c (nx x6 2)] fun k15=>
 K [(.int .i64 0),(nx x6 0)] [k15,[]]) (
 prP (bnI .add (nx x6 0) (.int .i64 1)) fun t24_16=>
 r8 [t24_16,(nx x6 1),(nx x6 2),(nx x6 3),(nx x6 4),(nx x6 5),(nx x6 6),(nx x6 7)] [(nxc k7 0)])) (
 K [(.int .i64 3),(.int .i64 0)] [(nxc k7 0),[]])) [(.int .i64 0),a0,a1,a2,a3,a4,(.int .i64 0),(.int .i64 0)] [c1])) (
 prP (bnI .sub (iv (cnt 2 c1)) (.int .i64 1)) fun t49_17=>
 cl2 C 154 B7.sg [a1,(.int .i64 0),t49_17] [] fun v18 d19=>
 prP (un .not (nx v18 0)) fun t51_21=>
 gE t51_21 (
 gE t51_21 (
 gE t51_21 (
 gE t51_21 (
 gP t51_21 false (ixW (cnt 2 c1) a1) fun t57_22=>
 gE t51_21 (
 gP t51_21 false (ldc c1 [] ((AA t57_22)*2)) fun t59_23=>
 gP t51_21 false (prP (un .not t59_23)) fun t60_24=>
 prP (pk t51_21 (.bool true) t60_24) fun t61_25=>
 AU t61_25 (
 K [(.int .i64 2),(.int .i64 0)] [c1,[]]) (
 prP (bnI .eql a0 (.int .i64 9)) fun t66_26=>
 AU t66_26 (
 ixW (cnt 2 c1) a1 fun t72_27=>
 stg c1 [] ((AA t72_27)*2) [T.c (.bool false),T.c (.int .i64 0)] fun k28=>
 K [(.int .i64 0),(.int .i64 0)] [k28,[]]) (
 ixW (cnt 2 c1) a1 fun t79_29=>
 ldc c1 [] (((AA t79_29)*2)+1) fun t81_30=>
 cl2 C 91 BQ.sg [t81_30] [c0,c1,c2,c3] fun v31 d32=>
 prP (bnI .lss (nx v31 0) (.int .i64 0)) fun t85_34=>
 AU t85_34 (
 K [(.int .i64 0),(.int .i64 (-1))] [c1,[]]) (
 K [(.int .i64 0),t81_30] [c1,[]])))))))))
theorem GY.cl2 {w0:World} {a0 a1 a2 a3 a4:Value} {c0 c1 c2 c3:List T} {K:J2} (h:GY.txt ⟨Try.prog,w0⟩ a0 a1 a2 a3 a4 c0 c1 c2 c3 K):Eng.cl2 ⟨Try.prog,w0⟩ 139 GY.sg [a0,a1,a2,a3,a4] [c0,c1,c2,c3] K:=
 AE (C:=⟨Try.prog,w0⟩) (f:=139) (fn:=Try.f139) [(91,BQ.sg),(154,B7.sg)] [] [(426,⟨[.p (.j 0) 0, .p (.j 1) 0, .p (.j 2) 0, .p (.j 3) 0, .v],[.t (.f 0) 8, .w, .t (.f 1) 1, .t (.f 2) 1],[.bx [.t (.f 0) 8, .t (.j 4) 2, .t (.f 1) 1, .t (.f 2) 1], .bx [.v, .v, .v, .v, .v], .bx [.z, .z, .z, .z], .bx [.v, .v, .z], .ls]⟩)] Try.func139 (by kernel_rfl) (by kernel_rfl) (by kernel_rfl) h
def EU.sg:Sg:=⟨[(1,[.t 8 0, .t 2 0, .t 1 0, .t 1 0])],[(1,[.t 1, .t 1])],[]⟩
def EU.txt (C:Ctx) (c0 c1 c2 c3:List T) (K:J2):Prop:=
 BD (fun r3 x1 k2=>
 prP (bnI .lss (nx x1 0) (iv (cnt 8 c0))) fun t10_12=>
 gE t10_12 (
 gP t10_12 true (prP (bnI .lss (nx x1 0) (.int .i64 8))) fun t13_13=>
 prP (pk t10_12 t13_13 (.bool false)) fun t14_14=>
 AU t14_14 (
 ixW (cnt 8 c0) (nx x1 0) fun t22_15=>
 ldc c0 [] (((AA t22_15)*8)+5) fun t24_16=>
 apW [T.c t24_16] true (cnt 1 (nxc k2 0)) (cnt 1 [T.c t24_16]) 8 (
 apW [T.c (.int .i64 0)] true (cnt 1 (nxc k2 1)) (cnt 1 [T.c (.int .i64 0)]) 8 (
 prP (bnI .add (nx x1 0) (.int .i64 1)) fun t16_17=>
 r3 [t16_17] [((nxc k2 0)++[T.c t24_16]),((nxc k2 1)++[T.c (.int .i64 0)])]))) (
 K [] [(nxc k2 0),(nxc k2 1)]))) [(.int .i64 0)] [[],[]]
theorem EU.cl2 {w0:World} {c0 c1 c2 c3:List T} {K:J2} (h:EU.txt ⟨Try.prog,w0⟩ c0 c1 c2 c3 K):Eng.cl2 ⟨Try.prog,w0⟩ 194 EU.sg [] [c0,c1,c2,c3] K:=
 AE (C:=⟨Try.prog,w0⟩) (f:=194) (fn:=Try.f194) [] [(5,[0,1,0,4,0,28,60,124,252,511,1023,2047])] [(58,⟨[.p (.j 0) 0, .p (.j 1) 0, .p (.j 2) 0, .v],[],[.bx [.t (.f 0) 8, .t (.f 1) 2, .t (.f 2) 1, .t (.f 3) 1], .bx [.z, .z], .bx [.t (.j 3) 1, .t (.j 4) 1], .ls, .ls]⟩)] Try.func194 (by kernel_rfl) (by kernel_rfl) (by kernel_rfl) h
def FG.sg:Sg:=⟨[(1,[.t 1 0, .t 1 0])],[(1,[.t 1, .t 1])],[]⟩
def FG.txt (C:Ctx) (c0 c1:List T) (K:J2):Prop:=
 apW c0 true (cnt 1 []) (cnt 1 c0) 8 (
 apW c1 true (cnt 1 []) (cnt 1 c1) 8 (
 K [] [([]++c0),([]++c1)]))
theorem FG.cl2 {w0:World} {c0 c1:List T} {K:J2} (h:FG.txt ⟨Try.prog,w0⟩ c0 c1 K):Eng.cl2 ⟨Try.prog,w0⟩ 225 FG.sg [] [c0,c1] K:=
 AE (C:=⟨Try.prog,w0⟩) (f:=225) (fn:=Try.f225) [] [(1,[0,0,2,7,0,0,32,127,255,511])] [] Try.func225 (by kernel_rfl) (by kernel_rfl) (by kernel_rfl) h
def G9.sg:Sg:=⟨[(1,[.t 8 0, .t 2 0, .t 1 0, .t 1 0]),(1,[.t 1 0, .t 1 0]),(0,[.v])],[(0,[.v])],[]⟩
def G9.txt (C:Ctx) (a0:Value) (c0 c1 c2 c3 c4 c5:List T) (K:J2):Prop:=
 prP (bnI .eql (iv (cnt 8 c0)) (.int .i64 8)) fun t10_1=>
 gE t10_1 (
 gE t10_1 (
 gE t10_1 (
 gP t10_1 true (prP (bnI .eql (iv (cnt 1 c4)) (.int .i64 8))) fun t15_2=>
 prP (pk t10_1 t15_2 (.bool false)) fun t16_3=>
 gE t16_3 (
 gE t16_3 (
 gE t16_3 (
 gP t16_3 true (prP (bnI .eql (iv (cnt 1 c5)) (.int .i64 8))) fun t21_4=>
 prP (pk t16_3 t21_4 (.bool false)) fun t22_5=>
 gE t22_5 (
 gP t22_5 true ((fun K=>cl2 C 154 B7.sg [a0,(.int .i64 0),(.int .i64 7)] [] fun v6 d7=>K (nx v6 0))) fun t25_8=>
 prP (pk t22_5 t25_8 (.bool false)) fun t26_9=>
 gE t26_9 (
 gE t26_9 (
 gE t26_9 (
 gP t26_9 true (ixW (cnt 8 c0) a0) fun t31_10=>
 gE t26_9 (
 gP t26_9 true (ldc c0 [] ((AA t31_10)*8)) fun t33_11=>
 prP (pk t26_9 t33_11 (.bool false)) fun t34_12=>
 K [t34_12] [])))))))))))
theorem G9.cl2 {w0:World} {a0:Value} {c0 c1 c2 c3 c4 c5:List T} {K:J2} (h:G9.txt ⟨Try.prog,w0⟩ a0 c0 c1 c2 c3 c4 c5 K):Eng.cl2 ⟨Try.prog,w0⟩ 226 G9.sg [a0] [c0,c1,c2,c3,c4,c5] K:=
 AE (C:=⟨Try.prog,w0⟩) (f:=226) (fn:=Try.f226) [(154,B7.sg)] [] [] Try.func226 (by kernel_rfl) (by kernel_rfl) (by kernel_rfl) h
def DX.sg:Sg:=⟨[(1,[.t 8 0, .t 2 0, .t 1 0, .t 1 0]),(0,[.v])],[(0,[.t 1])],[]⟩
def DX.txt (C:Ctx) (a0:Value) (c0 c1 c2 c3:List T) (K:J2):Prop:=
 BD (fun r3 x1 k2=>
 ixW (cnt 8 c0) (nx x1 0) fun t13_5=>
 ldl c0 [] (((AA t13_5)*8)+6) 1 fun t15_6=>
 prP (bnI .lss (nx x1 1) (iv (cnt 1 (FI c0 [(((AA t13_5)*8)+6)])))) fun t17_7=>
 AU t17_7 (
 BW (fun x9 k10=>
 prP (bnI .add (nx x9 1) (.int .i64 1)) fun t19_20=>
 r3 [(nx x9 0),t19_20] [(nxc k10 0)]) fun j11=>
 ixW (cnt 8 c0) (nx x1 0) fun t24_12=>
 ldl c0 [] (((AA t24_12)*8)+6) 1 fun t26_13=>
 ixW (cnt 1 (FI c0 [(((AA t24_12)*8)+6)])) (nx x1 1) fun t28_14=>
 ldc c0 [(((AA t24_12)*8)+6)] ((AA t28_14)*1) fun t29_15=>
 cl2 C 91 BQ.sg [t29_15] [c0,c1,c2,c3] fun v16 d17=>
 prP (bnI .geq (nx v16 0) (.int .i64 0)) fun t32_19=>
 AU t32_19 (
 apW [T.c (nx v16 0)] true (cnt 1 (nxc k2 0)) (cnt 1 [T.c (nx v16 0)]) 8 (
 j11 [(nx x1 0),(nx x1 1)] [((nxc k2 0)++[T.c (nx v16 0)])])) (
 j11 [(nx x1 0),(nx x1 1)] [(nxc k2 0)])) (
 K [] [(nxc k2 0)])) [a0,(.int .i64 0)] [[]]
theorem DX.cl2 {w0:World} {a0:Value} {c0 c1 c2 c3:List T} {K:J2} (h:DX.txt ⟨Try.prog,w0⟩ a0 c0 c1 c2 c3 K):Eng.cl2 ⟨Try.prog,w0⟩ 227 DX.sg [a0] [c0,c1,c2,c3] K:=
 AE (C:=⟨Try.prog,w0⟩) (f:=227) (fn:=Try.f227) [(91,BQ.sg)] [(5,[0,0,2,0,14,30,62,0,254,510,1023,2047])] [(233,⟨[.v, .p (.j 0) 0, .t (.j 1) 1, .v],[],[.bx [.t (.f 0) 8, .t (.f 1) 2, .t (.f 2) 1, .t (.f 3) 1], .ls]⟩),(58,⟨[.v, .p (.j 0) 0, .t (.j 1) 1, .v],[],[.bx [.t (.f 0) 8, .t (.f 1) 2, .t (.f 2) 1, .t (.f 3) 1], .ls]⟩)] Try.func227 (by kernel_rfl) (by kernel_rfl) (by kernel_rfl) h
def FA.sg:Sg:=⟨[(1,[.t 8 0, .t 2 0, .t 1 0, .t 1 0]),(1,[.t 1 0, .t 1 0]),(0,[.v])],[(1,[.t 1, .t 1])],[]⟩
def FA.txt (C:Ctx) (a0:Value) (c0 c1 c2 c3 c4 c5:List T) (K:J2):Prop:=
 cl2 C 225 FG.sg [] [c4,c5] fun v1 d2=>
 cl2 C 226 G9.sg [a0] [c0,c1,c2,c3,c4,c5] fun v3 d4=>
 prP (un .not (nx v3 0)) fun t18_6=>
 gE t18_6 (
 gE t18_6 (
 gE t18_6 (
 gP t18_6 false (ixW (cnt 1 c5) a0) fun t23_7=>
 gP t18_6 false (ldc c5 [] ((AA t23_7)*1)) fun t24_8=>
 gP t18_6 false (prP (bnI .eql t24_8 (.int .i64 1))) fun t25_9=>
 prP (pk t18_6 (.bool true) t25_9) fun t26_10=>
 AU t26_10 (
 K [] [(nxc d2 0),(nxc d2 1)]) (
 ixW (cnt 1 (nxc d2 1)) a0 fun t31_11=>
 stc (nxc d2 1) [] ((AA t31_11)*1) (.int .i64 1) fun k12=>
 BD (fun r15 x13 k14=>
 prP (bnI .gtr (iv (AA (nx x13 0))) (.int .i64 0)) fun t36_57=>
 AU t36_57 (
 prP (bnI .sub (iv (AA (nx x13 0))) (.int .i64 1)) fun t40_58=>
 ixW (AA (nx x13 0)) t40_58 fun t41_59=>
 ldc (nxc k14 0) [] ((AA (nx x13 1))+((AA t41_59)*1)) fun t42_60=>
 prP (bnI .sub (iv (AA (nx x13 0))) (.int .i64 1)) fun t46_61=>
 scW (AA (nx x13 0)) none (some t46_61) fun l62 m63=>
 cl2 C 227 DX.sg [t42_60] [c0,c1,c2,c3] fun v64 d65=>
 BD (fun r68 x66 k67=>
 prP (bnI .lss (nx x66 2) (iv (cnt 1 (nxc k67 1)))) fun t54_70=>
 AU t54_70 (
 BW (fun x72 k73=>
 prP (bnI .add (nx x72 2) (.int .i64 1)) fun t56_95=>
 r68 [(iv (AA (nx x72 0))),(iv (AA (nx x72 1))),t56_95] [(nxc k73 0),(nxc k73 1),(nxc k73 2),(nxc k73 3)]) fun j74=>
 ixW (cnt 1 (nxc k67 1)) (nx x66 2) fun t61_75=>
 ldc (nxc k67 1) [] ((AA t61_75)*1) fun t62_76=>
 ixW (cnt 1 (nxc k67 1)) (nx x66 2) fun t67_77=>
 ldc (nxc k67 1) [] ((AA t67_77)*1) fun t68_78=>
 ixW (cnt 1 (nxc k67 2)) t68_78 fun t69_79=>
 ldc (nxc k67 2) [] ((AA t69_79)*1) fun t70_80=>
 prP (bnI .sub t70_80 (.int .i64 1)) fun t71_81=>
 ixW (cnt 1 (nxc k67 2)) t62_76 fun t72_82=>
 stc (nxc k67 2) [] ((AA t72_82)*1) t71_81 fun k83=>
 ixW (cnt 1 (nxc k67 1)) (nx x66 2) fun t77_84=>
 ldc (nxc k67 1) [] ((AA t77_84)*1) fun t78_85=>
 ixW (cnt 1 (nxc k67 3)) t78_85 fun t79_86=>
 ldc (nxc k67 3) [] ((AA t79_86)*1) fun t80_87=>
 prP (bnI .neq t80_87 (.int .i64 1)) fun t81_88=>
 AU t81_88 (
 ixW (cnt 1 (nxc k67 1)) (nx x66 2) fun t86_89=>
 ldc (nxc k67 1) [] ((AA t86_89)*1) fun t87_90=>
 ixW (cnt 1 (nxc k67 3)) t87_90 fun t88_91=>
 stc (nxc k67 3) [] ((AA t88_91)*1) (.int .i64 1) fun k92=>
 ixW (cnt 1 (nxc k67 1)) (nx x66 2) fun t92_93=>
 ldc (nxc k67 1) [] ((AA t92_93)*1) fun t93_94=>
 apW [T.c t93_94] true (AA (nx x66 0)) (cnt 1 [T.c t93_94]) 8 (
 j74 [(iv (cnt 1 ((IT (nxc k67 0) [] (AA (nx x66 1)) ((AA (nx x66 0))*1))++[T.c t93_94]))),(iv 0),(nx x66 2)] [((IT (nxc k67 0) [] (AA (nx x66 1)) ((AA (nx x66 0))*1))++[T.c t93_94]),(nxc k67 1),k83,k92])) (
 j74 [(iv (AA (nx x66 0))),(iv (AA (nx x66 1))),(nx x66 2)] [(nxc k67 0),(nxc k67 1),k83,(nxc k67 3)])) (
 r15 [(iv (AA (nx x66 0))),(iv (AA (nx x66 1)))] [(nxc k67 0),(nxc k67 2),(nxc k67 3)])) [(iv (AA m63)),(iv ((AA (nx x13 1))+((AA l62)*1))),(.int .i64 0)] [(nxc k14 0),(nxc d65 0),(nxc k14 1),(nxc k14 2)]) (
 K [] [(nxc k14 1),(nxc k14 2)])) [(iv (cnt 1 [T.c a0])),(iv 0)] [[T.c a0],(nxc d2 0),k12]))))
theorem FA.cl2 {w0:World} {a0:Value} {c0 c1 c2 c3 c4 c5:List T} {K:J2} (h:FA.txt ⟨Try.prog,w0⟩ a0 c0 c1 c2 c3 c4 c5 K):Eng.cl2 ⟨Try.prog,w0⟩ 195 FA.sg [a0] [c0,c1,c2,c3,c4,c5] K:=
 AE (C:=⟨Try.prog,w0⟩) (f:=195) (fn:=Try.f195) [(225,FG.sg),(226,G9.sg),(227,DX.sg)] [(13,[0,1,0,0,12,28,0,64,0,0,768,1792,4032,8128,16320,32767,65535]),(14,[0,1,0,0,12,28,63,127,255]),(15,[0,1,0,0,12,28,63,127])] [(258425,⟨[.p (.j 0) 0, .p (.j 1) 0, .p (.j 2) 0, .s (.j 3) 0 1, .t (.j 4) 1, .v],[],[.bx [.t (.f 0) 8, .t (.f 1) 2, .t (.f 2) 1, .t (.f 3) 1], .bx [.z, .z], .bx [.t (.j 5) 1, .t (.j 6) 1], .ls, .ls, .ls, .ls]⟩),(64606,⟨[.p (.j 0) 0, .p (.j 1) 0, .p (.j 2) 0, .s (.j 3) 0 1, .t (.j 4) 1, .v],[],[.bx [.t (.f 0) 8, .t (.f 1) 2, .t (.f 2) 1, .t (.f 3) 1], .bx [.z, .z], .bx [.t (.j 5) 1, .t (.j 6) 1], .ls, .ls, .ls, .ls]⟩),(252,⟨[.p (.j 0) 0, .p (.j 1) 0, .p (.j 2) 0, .s (.j 3) 0 1],[],[.bx [.t (.f 0) 8, .t (.f 1) 2, .t (.f 2) 1, .t (.f 3) 1], .bx [.z, .z], .bx [.t (.j 4) 1, .t (.j 5) 1], .ls, .ls, .ls]⟩)] Try.func195 (by kernel_rfl) (by kernel_rfl) (by kernel_rfl) h
def F9.sg:Sg:=⟨[(1,[.t 8 0, .t 2 0, .t 1 0, .t 1 0]),(1,[.t 1 2, .t 1 2]),(0,[.v])],[(1,[.t 1, .t 1])],[]⟩
def F9.txt (C:Ctx) (a0:Value) (c0 c1 c2 c3 c4 c5:List T) (K:J2):Prop:=
 ixW (cnt 1 c5) a0 fun t14_1=>
 stc c5 [] ((AA t14_1)*1) (.int .i64 0) fun k2=>
 BD (fun r5 x3 k4=>
 prP (bnI .gtr (iv (AA (nx x3 0))) (.int .i64 0)) fun t19_47=>
 AU t19_47 (
 prP (bnI .sub (iv (AA (nx x3 0))) (.int .i64 1)) fun t23_48=>
 ixW (AA (nx x3 0)) t23_48 fun t24_49=>
 ldc (nxc k4 0) [] ((AA (nx x3 1))+((AA t24_49)*1)) fun t25_50=>
 prP (bnI .sub (iv (AA (nx x3 0))) (.int .i64 1)) fun t29_51=>
 scW (AA (nx x3 0)) none (some t29_51) fun l52 m53=>
 cl2 C 227 DX.sg [t25_50] [c0,c1,c2,c3] fun v54 d55=>
 BD (fun r58 x56 k57=>
 prP (bnI .lss (nx x56 2) (iv (cnt 1 (nxc k57 1)))) fun t37_60=>
 AU t37_60 (
 BW (fun x62 k63=>
 prP (bnI .add (nx x62 2) (.int .i64 1)) fun t39_85=>
 r58 [(iv (AA (nx x62 0))),(iv (AA (nx x62 1))),t39_85] [(nxc k63 0),(nxc k63 1),(nxc k63 2),(nxc k63 3)]) fun j64=>
 ixW (cnt 1 (nxc k57 1)) (nx x56 2) fun t44_65=>
 ldc (nxc k57 1) [] ((AA t44_65)*1) fun t45_66=>
 ixW (cnt 1 (nxc k57 1)) (nx x56 2) fun t50_67=>
 ldc (nxc k57 1) [] ((AA t50_67)*1) fun t51_68=>
 ixW (cnt 1 (nxc k57 2)) t51_68 fun t52_69=>
 ldc (nxc k57 2) [] ((AA t52_69)*1) fun t53_70=>
 prP (bnI .add t53_70 (.int .i64 1)) fun t54_71=>
 ixW (cnt 1 (nxc k57 2)) t45_66 fun t55_72=>
 stc (nxc k57 2) [] ((AA t55_72)*1) t54_71 fun k73=>
 ixW (cnt 1 (nxc k57 1)) (nx x56 2) fun t60_74=>
 ldc (nxc k57 1) [] ((AA t60_74)*1) fun t61_75=>
 ixW (cnt 1 (nxc k57 3)) t61_75 fun t62_76=>
 ldc (nxc k57 3) [] ((AA t62_76)*1) fun t63_77=>
 prP (bnI .neq t63_77 (.int .i64 0)) fun t64_78=>
 AU t64_78 (
 ixW (cnt 1 (nxc k57 1)) (nx x56 2) fun t69_79=>
 ldc (nxc k57 1) [] ((AA t69_79)*1) fun t70_80=>
 ixW (cnt 1 (nxc k57 3)) t70_80 fun t71_81=>
 stc (nxc k57 3) [] ((AA t71_81)*1) (.int .i64 0) fun k82=>
 ixW (cnt 1 (nxc k57 1)) (nx x56 2) fun t75_83=>
 ldc (nxc k57 1) [] ((AA t75_83)*1) fun t76_84=>
 apW [T.c t76_84] true (AA (nx x56 0)) (cnt 1 [T.c t76_84]) 8 (
 j64 [(iv (cnt 1 ((IT (nxc k57 0) [] (AA (nx x56 1)) ((AA (nx x56 0))*1))++[T.c t76_84]))),(iv 0),(nx x56 2)] [((IT (nxc k57 0) [] (AA (nx x56 1)) ((AA (nx x56 0))*1))++[T.c t76_84]),(nxc k57 1),k73,k82])) (
 j64 [(iv (AA (nx x56 0))),(iv (AA (nx x56 1))),(nx x56 2)] [(nxc k57 0),(nxc k57 1),k73,(nxc k57 3)])) (
 r5 [(iv (AA (nx x56 0))),(iv (AA (nx x56 1)))] [(nxc k57 0),(nxc k57 2),(nxc k57 3)])) [(iv (AA m53)),(iv ((AA (nx x3 1))+((AA l52)*1))),(.int .i64 0)] [(nxc k4 0),(nxc d55 0),(nxc k4 1),(nxc k4 2)]) (
 K [] [(nxc k4 1),(nxc k4 2)])) [(iv (cnt 1 [T.c a0])),(iv 0)] [[T.c a0],c4,k2]
theorem F9.cl2 {w0:World} {a0:Value} {c0 c1 c2 c3 c4 c5:List T} {K:J2} (h:F9.txt ⟨Try.prog,w0⟩ a0 c0 c1 c2 c3 c4 c5 K):Eng.cl2 ⟨Try.prog,w0⟩ 228 F9.sg [a0] [c0,c1,c2,c3,c4,c5] K:=
 AE (C:=⟨Try.prog,w0⟩) (f:=228) (fn:=Try.f228) [(227,DX.sg)] [(10,[0,1,0,0,12,28,0,64,0,0,768,1792,4032,8128,16320,32767,65535]),(11,[0,1,0,0,12,28,63,127,255]),(12,[0,1,0,0,12,28,63,127])] [(61817,⟨[.p (.j 0) 0, .p (.j 1) 0, .p (.j 2) 0, .s (.j 3) 0 1, .t (.j 4) 1, .v],[],[.bx [.t (.f 0) 8, .t (.f 1) 2, .t (.f 2) 1, .t (.f 3) 1], .bx [.t (.j 5) 1, .t (.j 6) 1], .bx [.z, .z], .ls, .ls, .ls, .ls]⟩),(15454,⟨[.p (.j 0) 0, .p (.j 1) 0, .p (.j 2) 0, .s (.j 3) 0 1, .t (.j 4) 1, .v],[],[.bx [.t (.f 0) 8, .t (.f 1) 2, .t (.f 2) 1, .t (.f 3) 1], .bx [.t (.j 5) 1, .t (.j 6) 1], .bx [.z, .z], .ls, .ls, .ls, .ls]⟩),(60,⟨[.p (.j 0) 0, .p (.j 1) 0, .p (.j 2) 0, .s (.j 3) 0 1],[],[.bx [.t (.f 0) 8, .t (.f 1) 2, .t (.f 2) 1, .t (.f 3) 1], .bx [.t (.j 4) 1, .t (.j 5) 1], .bx [.z, .z], .ls, .ls, .ls]⟩)] Try.func228 (by kernel_rfl) (by kernel_rfl) (by kernel_rfl) h
def EY.sg:Sg:=⟨[(1,[.t 8 0, .t 2 0, .t 1 0, .t 1 0]),(1,[.t 1 0, .t 1 0]),(0,[.v])],[(1,[.t 1, .t 1])],[]⟩
def EY.txt (C:Ctx) (a0:Value) (c0 c1 c2 c3 c4 c5:List T) (K:J2):Prop:=
 cl2 C 225 FG.sg [] [c4,c5] fun v1 d2=>
 cl2 C 226 G9.sg [a0] [c0,c1,c2,c3,c4,c5] fun v3 d4=>
 prP (un .not (nx v3 0)) fun t16_6=>
 AU t16_6 (
 K [] [(nxc d2 0),(nxc d2 1)]) (
 BD (fun r9 x7 k8=>
 prP (bnI .gtr (iv (AA (nx x7 0))) (.int .i64 0)) fun t22_31=>
 AU t22_31 (
 prP (bnI .sub (iv (AA (nx x7 0))) (.int .i64 1)) fun t26_32=>
 ixW (AA (nx x7 0)) t26_32 fun t27_33=>
 ldc (nxc k8 0) [] ((AA (nx x7 1))+((AA t27_33)*1)) fun t28_34=>
 prP (bnI .sub (iv (AA (nx x7 0))) (.int .i64 1)) fun t32_35=>
 scW (AA (nx x7 0)) none (some t32_35) fun l36 m37=>
 ixW (cnt 1 (nxc k8 2)) t28_34 fun t37_38=>
 ldc (nxc k8 2) [] ((AA t37_38)*1) fun t38_39=>
 prP (bnI .neq t38_39 (.int .i64 1)) fun t39_40=>
 AU t39_40 (
 r9 [(iv (AA m37)),(iv ((AA (nx x7 1))+((AA l36)*1)))] [(nxc k8 0),(nxc k8 1),(nxc k8 2)]) (
 ixW (cnt 1 (nxc k8 1)) t28_34 fun t43_41=>
 ldc (nxc k8 1) [] ((AA t43_41)*1) fun t44_42=>
 prP (bnI .gtr t44_42 (.int .i64 0)) fun t45_43=>
 AU t45_43 (
 cl2 C 228 F9.sg [t28_34] [c0,c1,c2,c3,(nxc k8 1),(nxc k8 2)] fun v44 d45=>
 r9 [(iv (AA m37)),(iv ((AA (nx x7 1))+((AA l36)*1)))] [(nxc k8 0),(nxc d45 0),(nxc d45 1)]) (
 ixW (cnt 1 (nxc k8 2)) t28_34 fun t53_46=>
 stc (nxc k8 2) [] ((AA t53_46)*1) (.int .i64 2) fun k47=>
 cl2 C 227 DX.sg [t28_34] [c0,c1,c2,c3] fun v48 d49=>
 apW (nxc d49 0) true (AA m37) (cnt 1 (nxc d49 0)) 8 (
 r9 [(iv (cnt 1 ((IT (nxc k8 0) [] ((AA (nx x7 1))+((AA l36)*1)) ((AA m37)*1))++(nxc d49 0)))),(iv 0)] [((IT (nxc k8 0) [] ((AA (nx x7 1))+((AA l36)*1)) ((AA m37)*1))++(nxc d49 0)),(nxc k8 1),k47])))) (
 K [] [(nxc k8 1),(nxc k8 2)])) [(iv (cnt 1 [T.c a0])),(iv 0)] [[T.c a0],(nxc d2 0),(nxc d2 1)])
theorem EY.cl2 {w0:World} {a0:Value} {c0 c1 c2 c3 c4 c5:List T} {K:J2} (h:EY.txt ⟨Try.prog,w0⟩ a0 c0 c1 c2 c3 c4 c5 K):Eng.cl2 ⟨Try.prog,w0⟩ 196 EY.sg [a0] [c0,c1,c2,c3,c4,c5] K:=
 AE (C:=⟨Try.prog,w0⟩) (f:=196) (fn:=Try.f196) [(225,FG.sg),(226,G9.sg),(228,F9.sg),(227,DX.sg)] [] [(124,⟨[.p (.j 0) 0, .p (.j 1) 0, .p (.j 2) 0, .s (.j 3) 0 1],[],[.bx [.t (.f 0) 8, .t (.f 1) 2, .t (.f 2) 1, .t (.f 3) 1], .bx [.z, .z], .bx [.t (.j 4) 1, .t (.j 5) 1], .ls, .ls, .ls]⟩)] Try.func196 (by kernel_rfl) (by kernel_rfl) (by kernel_rfl) h
def GV.sg:Sg:=⟨[(1,[.t 1 0, .t 1 0])],[(0,[.t 1])],[]⟩
def GV.txt (C:Ctx) (c0 c1:List T) (K:J2):Prop:=
 BD (fun r3 x1 k2=>
 prP (bnI .lss (nx x1 0) (iv (cnt 1 c1))) fun t10_5=>
 AU t10_5 (
 BW (fun x7 k8=>
 prP (bnI .add (nx x7 0) (.int .i64 1)) fun t12_13=>
 r3 [t12_13] [(nxc k8 0)]) fun j9=>
 ixW (cnt 1 c1) (nx x1 0) fun t16_10=>
 ldc c1 [] ((AA t16_10)*1) fun t17_11=>
 prP (bnI .eql t17_11 (.int .i64 2)) fun t18_12=>
 AU t18_12 (
 apW [T.c (nx x1 0)] true (cnt 1 (nxc k2 0)) (cnt 1 [T.c (nx x1 0)]) 8 (
 j9 [(nx x1 0)] [((nxc k2 0)++[T.c (nx x1 0)])])) (
 j9 [(nx x1 0)] [(nxc k2 0)])) (
 K [] [(nxc k2 0)])) [(.int .i64 0)] [[]]
theorem GV.cl2 {w0:World} {c0 c1:List T} {K:J2} (h:GV.txt ⟨Try.prog,w0⟩ c0 c1 K):Eng.cl2 ⟨Try.prog,w0⟩ 197 GV.sg [] [c0,c1] K:=
 AE (C:=⟨Try.prog,w0⟩) (f:=197) (fn:=Try.f197) [] [] [(233,⟨[.p (.j 0) 0, .t (.j 1) 1, .v],[],[.bx [.t (.f 0) 1, .t (.f 1) 1], .ls]⟩),(58,⟨[.p (.j 0) 0, .t (.j 1) 1, .v],[],[.bx [.t (.f 0) 1, .t (.f 1) 1], .ls]⟩)] Try.func197 (by kernel_rfl) (by kernel_rfl) (by kernel_rfl) h
end Go.Proofs.Ytnhicpkhkaihoaa.P
