/- A part of the proof. -/
import Derived.Test.YtklmcfpgdfibnaaChecked
import Derived.Test.YtklmcfpgdfibnaaRiPZ5
import Derived.KernelRfl
namespace Go.Proofs.Ytklmcfpgdfibnaa.P
open Go Go.Proofs.Ytklmcfpgdfibnaa Go.Proofs.Ytklmcfpgdfibnaa.Eng
set_option linter.unusedVariables false
set_option maxRecDepth 100000
def DC.sg:Sg:=⟨[(1,[.t 8 0, .t 2 0, .t 1 0, .t 1 0])],[(0,[.t 1])],[]⟩
def DC.txt (C:Ctx) (c0 c1 c2 c3:List T) (K:J2):Prop:=
 cl2 C 27 DM.sg [] [c0,c1,c2,c3] fun v1 d2=>
 cl2 C 65 GR.sg [] [c0,c1,c2,c3] fun v3 d4=>
 AZ (fun r7 x5 k6=>
 prP (bnI .lss (nx x5 1) (nx x5 0)) fun t13_25=>
 AW t13_25 (
 BJ (fun x27 k28=>
 prP (bnI .add (nx x27 1) (.int .i64 1)) fun t26_39=>
 r7 [(nx x27 0),t26_39] [(nxc k28 0),(nxc k28 1),(nxc k28 2)]) fun j29=>
 ixW (cnt 1 (nxc k6 2)) (nx x5 1) fun t14_30=>
 ldg (nxc k6 2) [] ((AD t14_30)*1) [.l 1] fun ts31=>
 ixW (cnt 1 (HX (nxc k6 2) [((AD t14_30)*1)])) (.int .i64 0) fun t19_32=>
 ldc (nxc k6 2) [((AD t14_30)*1)] ((AD t19_32)*1) fun t20_33=>
 cl2 C 91 B8.sg [t20_33] [(nxc k6 0)] fun v34 d35=>
 AW (nx v34 0) (
 mvW (nxc k6 2) [] ((AD t14_30)*1) 1 fun d37 k38=>
 apW [T.l 1 d37] false (cnt 1 (nxc k6 1)) (cnt 1 [T.l 1 d37]) 24 (
 j29 [(nx x5 0),(nx x5 1)] [(nxc k6 0),((nxc k6 1)++[T.l 1 d37]),k38])) (
 j29 [(nx x5 0),(nx x5 1)] [(nxc k6 0),(nxc k6 1),(nxc k6 2)])) (
 K [] [(nxc k6 1)])) [(iv (cnt 1 (nxc d4 0))),(.int .i64 0)] [(nxc d2 0),[],(nxc d4 0)]
theorem DC.cl2 {w0:World} {c0 c1 c2 c3:List T} {K:J2} (h:DC.txt ⟨Try.prog,w0⟩ c0 c1 c2 c3 K):Eng.cl2 ⟨Try.prog,w0⟩ 21 DC.sg [] [c0,c1,c2,c3] K:=
 AV (C:=⟨Try.prog,w0⟩) (f:=21) (fn:=Try.f21) [(27,DM.sg),(65,GR.sg),(91,B8.sg)] [] [(979,⟨[.t (.j 0) 1, .t (.j 1) 1, .t (.j 2) 1, .v, .v],[],[.ls, .ls, .ls]⟩),(122,⟨[.t (.j 0) 1, .t (.j 1) 1, .t (.j 2) 1, .v, .v],[],[.ls, .ls, .ls]⟩)] Try.func21 (by kernel_rfl) (by kernel_rfl) (by kernel_rfl) h
def E9.sg:Sg:=⟨[(1,[.t 8 0, .t 2 0, .t 1 0, .t 1 0]),(0,[.v])],[(0,[.v])],[]⟩
def E9.txt (C:Ctx) (a0:Value) (c0 c1 c2 c3:List T) (K:J2):Prop:=
 cl2 C 81 BD.sg [a0] [c0,c1,c2,c3] fun v1 d2=>
 prP (bnI .lss (nx v1 0) (.int .i64 0)) fun t10_4=>
 AW t10_4 (
 K [(.int .i64 0)] []) (
 ixW (cnt 8 c0) (nx v1 0) fun t14_5=>
 ldc c0 [] (((AD t14_5)*8)+2) fun t16_6=>
 K [t16_6] [])
theorem E9.cl2 {w0:World} {a0:Value} {c0 c1 c2 c3:List T} {K:J2} (h:E9.txt ⟨Try.prog,w0⟩ a0 c0 c1 c2 c3 K):Eng.cl2 ⟨Try.prog,w0⟩ 90 E9.sg [a0] [c0,c1,c2,c3] K:=
 AV (C:=⟨Try.prog,w0⟩) (f:=90) (fn:=Try.f90) [(81,BD.sg)] [] [] Try.func90 (by kernel_rfl) (by kernel_rfl) (by kernel_rfl) h
def FU.sg:Sg:=⟨[(1,[.t 8 0, .t 2 0, .t 1 0, .t 1 0])],[(0,[.t 3])],[]⟩
def FU.txt (C:Ctx) (c0 c1 c2 c3:List T) (K:J2):Prop:=
 cl2 C 27 DM.sg [] [c0,c1,c2,c3] fun v1 d2=>
 AZ (fun r5 x3 k4=>
 prP (bnI .lss (nx x3 1) (nx x3 0)) fun t11_22=>
 AW t11_22 (
 ixW (cnt 1 (nxc k4 1)) (nx x3 1) fun t12_23=>
 ldc (nxc k4 1) [] ((AD t12_23)*1) fun t13_24=>
 BJ (fun x26 k27=>
 cl2 C 90 E9.sg [(nx x26 0)] [c0,c1,c2,c3] fun v32 d33=>
 apW [T.c (nx x26 0),T.c (nx x26 1),T.c (nx v32 0)] true (cnt 3 (nxc k27 0)) (cnt 3 [T.c (nx x26 0),T.c (nx x26 1),T.c (nx v32 0)]) 24 (
 prP (bnI .add (nx x26 3) (.int .i64 1)) fun t27_35=>
 r5 [(nx x26 2),t27_35] [((nxc k27 0)++[T.c (nx x26 0),T.c (nx x26 1),T.c (nx v32 0)]),(nxc k27 1)])) fun j28=>
 cl2 C 64 DT.sg [t13_24,t13_24] [c0,c1,c2,c3] fun v29 d30=>
 AW (nx v29 0) (
 j28 [t13_24,(.int .i64 1),(nx x3 0),(nx x3 1)] [(nxc k4 0),(nxc k4 1)]) (
 j28 [t13_24,(.int .i64 2),(nx x3 0),(nx x3 1)] [(nxc k4 0),(nxc k4 1)])) (
 K [] [(nxc k4 0)])) [(iv (cnt 1 (nxc d2 0))),(.int .i64 0)] [[],(nxc d2 0)]
theorem FU.cl2 {w0:World} {c0 c1 c2 c3:List T} {K:J2} (h:FU.txt ⟨Try.prog,w0⟩ c0 c1 c2 c3 K):Eng.cl2 ⟨Try.prog,w0⟩ 20 FU.sg [] [c0,c1,c2,c3] K:=
 AV (C:=⟨Try.prog,w0⟩) (f:=20) (fn:=Try.f20) [(27,DM.sg),(64,DT.sg),(90,E9.sg)] [] [(7475,⟨[.p (.j 0) 0, .t (.j 1) 3, .v, .v, .t (.j 2) 1, .v, .v],[],[.bx [.t (.f 0) 8, .t (.f 1) 2, .t (.f 2) 1, .t (.f 3) 1], .ls, .ls]⟩),(58,⟨[.p (.j 0) 0, .t (.j 1) 3, .t (.j 2) 1, .v, .v],[],[.bx [.t (.f 0) 8, .t (.f 1) 2, .t (.f 2) 1, .t (.f 3) 1], .ls, .ls]⟩)] Try.func20 (by kernel_rfl) (by kernel_rfl) (by kernel_rfl) h
def EA.sg:Sg:=⟨[(0,[.v])],[(0,[.v])],[]⟩
def EA.txt (C:Ctx) (a0:Value) (K:J2):Prop:=
 prP (bnI .eql a0 (.int .i64 1)) fun t5_1=>
 AW t5_1 (
 K [(.string {data:= #[114,105,110,103]})] []) (
 prP (bnI .eql a0 (.int .i64 2)) fun t7_2=>
 AW t7_2 (
 K [(.string {data:= #[104,117,110,103]})] []) (
 K [(.string {data:= #[]})] []))
theorem EA.cl2 {w0:World} {a0:Value} {K:J2} (h:EA.txt ⟨Try.prog,w0⟩ a0 K):Eng.cl2 ⟨Try.prog,w0⟩ 41 EA.sg [a0] [] K:=
 AV (C:=⟨Try.prog,w0⟩) (f:=41) (fn:=Try.f41) [] [] [] Try.func41 (by kernel_rfl) (by kernel_rfl) (by kernel_rfl) h
def FN.sg:Sg:=⟨[(0,[.t 1 0])],[(0,[.v])],[]⟩
def FN.txt (C:Ctx) (c0:List T) (K:J2):Prop:=
 cl2 C 17 IK.sg [] [c0] fun v1 d2=>
 AW (nx v1 0) (
 K [(.bool true)] []) (
 cl2 C 38 IQ.sg [(.int .i64 0)] [c0] fun v4 d5=>
 prP (bnI .rem (nx v4 0) (.int .i64 5)) fun t20_7=>
 prP (bnI .add (.int .i64 1) t20_7) fun t21_8=>
 AZ (fun r11 x9 k10=>
 prP (bnI .leq (nx x9 1) (nx x9 0)) fun t25_13=>
 AW t25_13 (
 apW [T.c (.int .i64 1),T.c (.int .i64 0),T.c (.int .i64 0),T.c (.int .i64 0),T.c (.string {data:= #[97]})] true (cnt 5 (nxc k10 0)) (cnt 5 [T.c (.int .i64 1),T.c (.int .i64 0),T.c (.int .i64 0),T.c (.int .i64 0),T.c (.string {data:= #[97]})]) 48 (
 prP (bnI .add (nx x9 1) (.int .i64 1)) fun t27_14=>
 r11 [(nx x9 0),t27_14] [((nxc k10 0)++[T.c (.int .i64 1),T.c (.int .i64 0),T.c (.int .i64 0),T.c (.int .i64 0),T.c (.string {data:= #[97]})])])) (
 AZ (fun r17 x15 k16=>
 prP (bnI .lss (nx x15 1) (nx x15 0)) fun t34_19=>
 AW t34_19 (
 prP (bnI .add (.int .i64 8) (nx x15 1)) fun t39_20=>
 prP (bnI .add (nx x15 1) (.int .i64 1)) fun t42_21=>
 cl2 C 38 IQ.sg [t42_21] [c0] fun v22 d23=>
 prP (bnI .rem (nx v22 0) (.int .i64 3)) fun t44_25=>
 prP (bnI .add (nx x15 1) (.int .i64 1)) fun t46_26=>
 prP (bnI .rem t46_26 (nx x15 0)) fun t48_27=>
 prP (bnI .add (.int .i64 8) t48_27) fun t49_28=>
 apW [T.c (.int .i64 4),T.c t39_20,T.c t44_25,T.c t49_28,T.c (.string {data:= #[]})] true (cnt 5 (nxc k16 0)) (cnt 5 [T.c (.int .i64 4),T.c t39_20,T.c t44_25,T.c t49_28,T.c (.string {data:= #[]})]) 48 (
 prP (bnI .add (nx x15 1) (.int .i64 1)) fun t36_29=>
 r17 [(nx x15 0),t36_29] [((nxc k16 0)++[T.c (.int .i64 4),T.c t39_20,T.c t44_25,T.c t49_28,T.c (.string {data:= #[]})])])) (
 cl2 C 38 IQ.sg [(.int .i64 1)] [c0] fun v30 d31=>
 prP (bnI .add (nx v30 0) (.int .i64 1)) fun t56_33=>
 prP (bnI .rem t56_33 (.int .i64 3)) fun t57_34=>
 prP (bnI .add (.int .i64 8) (nx x15 0)) fun t59_35=>
 apW [T.c (.int .i64 4),T.c (.int .i64 8),T.c t57_34,T.c t59_35,T.c (.string {data:= #[]})] true (cnt 5 (nxc k16 0)) (cnt 5 [T.c (.int .i64 4),T.c (.int .i64 8),T.c t57_34,T.c t59_35,T.c (.string {data:= #[]})]) 48 (
 AZ (fun r38 x36 k37=>
 prP (bnI .leq (nx x36 1) (nx x36 0)) fun t65_40=>
 AW t65_40 (
 prP (bnI .add (.int .i64 8) (nx x36 1)) fun t70_41=>
 apW [T.c (.int .i64 3),T.c t70_41,T.c (.int .i64 0),T.c (.int .i64 0),T.c (.string {data:= #[]})] true (cnt 5 (nxc k37 0)) (cnt 5 [T.c (.int .i64 3),T.c t70_41,T.c (.int .i64 0),T.c (.int .i64 0),T.c (.string {data:= #[]})]) 48 (
 prP (bnI .add (nx x36 1) (.int .i64 1)) fun t67_42=>
 r38 [(nx x36 0),t67_42] [((nxc k37 0)++[T.c (.int .i64 3),T.c t70_41,T.c (.int .i64 0),T.c (.int .i64 0),T.c (.string {data:= #[]})])])) (
 cl2 C 39 HQ.sg [] [(nxc k37 0)] fun v43 d44=>
 cl2 C 21 DC.sg [] [(nxc d44 0),(nxc d44 1),(nxc d44 2),(nxc d44 3)] fun v45 d46=>
 prP (bnI .neq (iv (cnt 3 (nxc d44 4))) (iv (cnt 5 (nxc k37 0)))) fun t85_47=>
 gE t85_47 (
 gC t85_47 false (cl2 C 40 CY.sg [] [(nxc d44 0),(nxc d44 1),(nxc d44 2),(nxc d44 3)]) fun v48 d49=>
 gE t85_47 (
 gE t85_47 (
 gP t85_47 false (prP (bnI .add (nx x36 0) (.int .i64 1))) fun t91_50=>
 gP t85_47 false (prP (bnI .neq (iv (cnt 1 (nxc d49 0))) t91_50)) fun t92_51=>
 prP (pk t85_47 (.bool true) t92_51) fun t93_52=>
 gE t93_52 (
 gE t93_52 (
 gP t93_52 false (prP (bnI .neq (iv (cnt 1 (nxc d46 0))) (.int .i64 1))) fun t97_53=>
 prP (pk t93_52 (.bool true) t97_53) fun t98_54=>
 gE t98_54 (
 gP t98_54 false (ixW (cnt 1 (nxc d46 0)) (.int .i64 0)) fun t101_55=>
 gE t98_54 (
 gP t98_54 false (ldl (nxc d46 0) [] ((AD t101_55)*1) 1) fun t103_56=>
 gE t98_54 (
 gE t98_54 (
 gP t98_54 false (prP (bnI .neq (iv (cnt 1 (HX (nxc d46 0) [((AD t101_55)*1)]))) (nx x36 0))) fun t106_57=>
 prP (pk t98_54 (.bool true) t106_57) fun t107_58=>
 gE t107_58 (
 gC t107_58 false (cl2 C 20 FU.sg [] [(nxc d44 0),(nxc d44 1),(nxc d44 2),(nxc d44 3)]) fun v59 d60=>
 gE t107_58 (
 gE t107_58 (
 gP t107_58 false (prP (bnI .add (nx x36 0) (.int .i64 1))) fun t113_61=>
 gP t107_58 false (prP (bnI .neq (iv (cnt 3 (nxc d60 0))) t113_61)) fun t114_62=>
 prP (pk t107_58 (.bool true) t114_62) fun t115_63=>
 gE t115_63 (
 gP t115_63 false ((fun K=>cl2 C 37 FM.sg [] [(nxc d44 0),(nxc d44 1),(nxc d44 2),(nxc d44 3)] fun v64 d65=>K (nx v64 0))) fun t118_66=>
 gE t115_63 (
 gP t115_63 false (prP (bnI .add (nx x36 0) (.int .i64 1))) fun t120_67=>
 gP t115_63 false (prP (bnI .neq t118_66 t120_67)) fun t121_68=>
 prP (pk t115_63 (.bool true) t121_68) fun t122_69=>
 AW t122_69 (
 K [(.bool false)] []) (
 cl2 C 20 FU.sg [] [(nxc d44 0),(nxc d44 1),(nxc d44 2),(nxc d44 3)] fun v70 d71=>
 AZ (fun r74 x72 k73=>
 prP (bnI .leq (nx x72 1) (nx x72 0)) fun t127_76=>
 AW t127_76 (
 BJ (fun x78 k79=>
 ixW (cnt 3 (nxc k79 0)) (nx x78 1) fun t135_82=>
 ldc (nxc k79 0) [] ((AD t135_82)*3) fun t137_83=>
 prP (bnI .add (.int .i64 8) (nx x78 1)) fun t139_84=>
 prP (bnI .neq t137_83 t139_84) fun t140_85=>
 gE t140_85 (
 gE t140_85 (
 gP t140_85 false (ixW (cnt 3 (nxc k79 0)) (nx x78 1)) fun t144_86=>
 gE t140_85 (
 gP t140_85 false (ldc (nxc k79 0) [] (((AD t144_86)*3)+1)) fun t146_87=>
 gE t140_85 (
 gP t140_85 false (prP (bnI .neq t146_87 (nx x78 2))) fun t148_88=>
 prP (pk t140_85 (.bool true) t148_88) fun t149_89=>
 gE t149_89 (
 gP t149_89 false ((fun K=>cl2 C 41 EA.sg [(nx x78 2)] [] fun v90 d91=>K (nx v90 0))) fun t152_92=>
 gP t149_89 false (prP (bnS .eql t152_92 (.string {data:= #[]}))) fun t153_93=>
 prP (pk t149_89 (.bool true) t153_93) fun t154_94=>
 AW t154_94 (
 K [(.bool false)] []) (
 prP (bnI .add (nx x78 1) (.int .i64 1)) fun t129_95=>
 r74 [(nx x78 0),t129_95] [(nxc k79 0),(nxc k79 1),(nxc k79 2),(nxc k79 3),(nxc k79 4)]))))))) fun j80=>
 prP (bnI .eql (nx x72 1) (nx x72 0)) fun t132_81=>
 AW t132_81 (
 j80 [(nx x72 0),(nx x72 1),(.int .i64 2)] [(nxc k73 0),(nxc k73 1),(nxc k73 2),(nxc k73 3),(nxc k73 4)]) (
 j80 [(nx x72 0),(nx x72 1),(.int .i64 1)] [(nxc k73 0),(nxc k73 1),(nxc k73 2),(nxc k73 3),(nxc k73 4)])) (
 cl2 C 42 GJ.sg [(.int .i64 10),(.int .i64 0),(.int .i64 0),(.int .i64 0),(.string {data:= #[]})] [(nxc k73 1),(nxc k73 2),(nxc k73 3),(nxc k73 4)] fun v96 d97=>
 cl2 C 40 CY.sg [] [(nxc d97 0),(nxc d97 1),(nxc d97 2),(nxc d97 3)] fun v98 d99=>
 prP (bnI .eql (iv (cnt 1 (nxc d99 0))) (.int .i64 0)) fun t164_100=>
 gE t164_100 (
 gE t164_100 (
 gE t164_100 (
 gE t164_100 (
 gP t164_100 true (prP (bnI .add (nx x72 0) (.int .i64 1))) fun t170_101=>
 gP t164_100 true (prP (bnI .eql (iv (cnt 1 (nxc d97 4))) t170_101)) fun t171_102=>
 prP (pk t164_100 t171_102 (.bool false)) fun t172_103=>
 gE t172_103 (
 gC t172_103 true (cl2 C 21 DC.sg [] [(nxc d97 0),(nxc d97 1),(nxc d97 2),(nxc d97 3)]) fun v104 d105=>
 gE t172_103 (
 gP t172_103 true (prP (bnI .eql (iv (cnt 1 (nxc d105 0))) (.int .i64 0))) fun t177_106=>
 prP (pk t172_103 t177_106 (.bool false)) fun t178_107=>
 K [t178_107] [])))))))) [(nx x36 0),(.int .i64 0)] [(nxc d71 0),(nxc d44 0),(nxc d44 1),(nxc d44 2),(nxc d44 3)]))))))))))))))))) [(nx x15 0),(.int .i64 0)] [((nxc k16 0)++[T.c (.int .i64 4),T.c (.int .i64 8),T.c t57_34,T.c t59_35,T.c (.string {data:= #[]})])]))) [(nx x9 0),(.int .i64 0)] [(nxc k10 0)])) [t21_8,(.int .i64 0)] [[]])
theorem FN.cl2 {w0:World} {c0:List T} {K:J2} (h:FN.txt ⟨Try.prog,w0⟩ c0 K):Eng.cl2 ⟨Try.prog,w0⟩ 5 FN.sg [] [c0] K:=
 AV (C:=⟨Try.prog,w0⟩) (f:=5) (fn:=Try.f5) [(17,IK.sg),(38,IQ.sg),(39,HQ.sg),(21,DC.sg),(40,CY.sg),(20,FU.sg),(37,FM.sg),(41,EA.sg),(42,GJ.sg)] [(12,[0,0,2,0,0,16,56,120,0,256,0,1792,3840,8190,16382,32767,65535])] [(2096969,⟨[.v, .p (.j 0) 0, .t (.j 1) 3, .v, .v],[],[.bx [.t (.j 2) 8, .t (.j 3) 2, .t (.j 4) 1, .t (.j 5) 1], .ls, .ls, .ls, .ls, .ls]⟩),(65530,⟨[.v, .p (.j 0) 0, .t (.j 1) 3, .v],[],[.bx [.t (.j 2) 8, .t (.j 3) 2, .t (.j 4) 1, .t (.j 5) 1], .ls, .ls, .ls, .ls, .ls]⟩),(2042,⟨[.v, .t (.j 0) 5, .v],[],[.ls]⟩),(506,⟨[.t (.f 0) 1, .v, .t (.j 0) 5, .v],[],[.ls]⟩),(250,⟨[.t (.f 0) 1, .v, .t (.j 0) 5, .v],[],[.ls]⟩)] Try.func5 (by kernel_rfl) (by kernel_rfl) (by kernel_rfl) h
end Go.Proofs.Ytklmcfpgdfibnaa.P
