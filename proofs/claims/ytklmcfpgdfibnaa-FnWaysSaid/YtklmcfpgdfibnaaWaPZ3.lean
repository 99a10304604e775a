/- A part of the proof. -/
import Derived.Test.YtklmcfpgdfibnaaChecked
import Derived.Test.YtklmcfpgdfibnaaWaPZ2
import Derived.KernelRfl
namespace Go.Proofs.Ytklmcfpgdfibnaa.P
open Go Go.Proofs.Ytklmcfpgdfibnaa Go.Proofs.Ytklmcfpgdfibnaa.Eng
set_option linter.unusedVariables false
set_option maxRecDepth 100000
def HH.sg:Sg:=⟨[(0,[.t 5 0])],[(1,[.t 8, .t 2, .t 1, .t 1]),(0,[.t 3])],[]⟩
def HH.txt (C:Ctx) (c0:List T) (K:J2):Prop:=
 cl2 C 74 DQ.sg [] [] fun v1 d2=>
 BE (fun r5 x3 k4=>
 prP (bnI .lss (nx x3 0) (iv (cnt 5 c0))) fun t14_7=>
 gE t14_7 (
 gP t14_7 true (prP (bnI .lss (nx x3 0) (.int .i64 400))) fun t17_8=>
 prP (pk t14_7 t17_8 (.bool false)) fun t18_9=>
 AX t18_9 (
 ixW (cnt 5 c0) (nx x3 0) fun t25_10=>
 ldg c0 [] ((AD t25_10)*5) [.c, .c, .c, .c, .c] fun ts11=>
 cl2 C 76 FF.sg [(tv (nxT ts11 0)),(tv (nxT ts11 1)),(tv (nxT ts11 2)),(tv (nxT ts11 3)),(tv (nxT ts11 4))] [(nxc k4 1),(nxc k4 2),(nxc k4 3),(nxc k4 4)] fun v12 d13=>
 apW [T.c (nx v12 0),T.c (nx v12 1),T.l 1 (nxc d13 4)] false (cnt 3 (nxc k4 0)) (cnt 3 [T.c (nx v12 0),T.c (nx v12 1),T.l 1 (nxc d13 4)]) 40 (
 prP (bnI .add (nx x3 0) (.int .i64 1)) fun t20_14=>
 r5 [t20_14] [((nxc k4 0)++[T.c (nx v12 0),T.c (nx v12 1),T.l 1 (nxc d13 4)]),(nxc d13 0),(nxc d13 1),(nxc d13 2),(nxc d13 3)])) (
 K [] [(nxc k4 1),(nxc k4 2),(nxc k4 3),(nxc k4 4),(nxc k4 0)]))) [(.int .i64 0)] [[],(nxc d2 0),(nxc d2 1),(nxc d2 2),(nxc d2 3)]
theorem HH.cl2 {w0:World} {c0:List T} {K:J2} (h:HH.txt ⟨Try.prog,w0⟩ c0 K):Eng.cl2 ⟨Try.prog,w0⟩ 44 HH.sg [] [c0] K:=
 AY (C:=⟨Try.prog,w0⟩) (f:=44) (fn:=Try.f44) [(74,DQ.sg),(76,FF.sg)] [(6,[0,0,0,6,14,31,63,127,127,0,0,1791,4095])] [(122,⟨[.t (.f 0) 5, .p (.j 0) 0, .p (.j 1) 0, .t (.j 2) 3, .v],[],[.bx [.z, .z, .z, .z], .bx [.t (.j 3) 8, .t (.j 4) 2, .t (.j 5) 1, .t (.j 6) 1], .ls, .ls, .ls, .ls, .ls]⟩)] Try.func44 (by kernel_rfl) (by kernel_rfl) (by kernel_rfl) h
def GJ.sg:Sg:=⟨[(2,[.t 1 0, .v, .v])],[(1,[.t 8, .t 2, .t 1, .t 1])],[[.a 0, .v, .v]]⟩
def GJ.txt (C:Ctx) (a0 a1:Value) (c0:List T) (K:J2):Prop:=
 cl2 C 108 GM.sg [a0,a1,(.int .i64 30)] [c0] fun v1 d2=>
 cl2 C 44 HH.sg [] [(nxc d2 0)] fun v3 d4=>
 K [(nx v1 0),(nx v1 1)] [(nxc d4 0),(nxc d4 1),(nxc d4 2),(nxc d4 3)]
theorem GJ.cl2 {w0:World} {a0 a1:Value} {c0:List T} {K:J2} (h:GJ.txt ⟨Try.prog,w0⟩ a0 a1 c0 K):Eng.cl2 ⟨Try.prog,w0⟩ 94 GJ.sg [a0,a1] [c0] K:=
 AY (C:=⟨Try.prog,w0⟩) (f:=94) (fn:=Try.f94) [(108,GM.sg),(44,HH.sg)] [] [] Try.func94 (by kernel_rfl) (by kernel_rfl) (by kernel_rfl) h
def GQ.sg:Sg:=⟨[(2,[.t 1 0, .v, .v])],[(1,[.t 8, .t 2, .t 1, .t 1])],[[.a 0, .v, .v]]⟩
def GQ.txt (C:Ctx) (a0 a1:Value) (c0:List T) (K:J2):Prop:=
 cl2 C 94 GJ.sg [a0,a1] [c0] fun v1 d2=>
 cl2 C 112 BU.sg [(nx v1 0),(nx v1 1),(.int .i64 8)] [c0] fun v3 d4=>
 cl2 C 112 BU.sg [(nx v3 1),(nx v3 2),(.int .i64 20)] [c0] fun v5 d6=>
 prP (bnI .eql (nx v5 0) (.int .i64 0)) fun t12_7=>
 AX t12_7 (
 ixW (cnt 8 (nxc d2 0)) (nx v3 0) fun t19_8=>
 ldc (nxc d2 0) [] (((AD t19_8)*8)+5) fun t21_9=>
 prP (bnI .add t21_9 (.int .i64 1)) fun t22_10=>
 ixW (cnt 8 (nxc d2 0)) (nx v3 0) fun t23_11=>
 stc (nxc d2 0) [] (((AD t23_11)*8)+5) t22_10 fun k12=>
 K [(nx v5 1),(nx v5 2)] [k12,(nxc d2 1),(nxc d2 2),(nxc d2 3)]) (
 prP (bnI .eql (nx v5 0) (.int .i64 1)) fun t26_13=>
 AX t26_13 (
 ixW (cnt 8 (nxc d2 0)) (nx v3 0) fun t30_14=>
 ldl (nxc d2 0) [] (((AD t30_14)*8)+6) 1 fun t32_15=>
 cl2 C 112 BU.sg [(nx v5 1),(nx v5 2),(.int .i64 40)] [c0] fun v16 d17=>
 ixW (cnt 1 (FJ (nxc d2 0) [(((AD t30_14)*8)+6)])) (.int .i64 0) fun t35_18=>
 stc (nxc d2 0) [(((AD t30_14)*8)+6)] ((AD t35_18)*1) (nx v16 0) fun k19=>
 K [(nx v16 1),(nx v16 2)] [k19,(nxc d2 1),(nxc d2 2),(nxc d2 3)]) (
 prP (bnI .eql (nx v5 0) (.int .i64 2)) fun t37_20=>
 AX t37_20 (
 ixW (cnt 8 (nxc d2 0)) (nx v3 0) fun t44_21=>
 ldc (nxc d2 0) [] (((AD t44_21)*8)+1) fun t46_22=>
 cl2 C 61 CU.sg [(nx v3 0),t46_22] [] fun v23 d24=>
 apW [T.c (nx v23 0)] true (cnt 1 (nxc d2 2)) (cnt 1 [T.c (nx v23 0)]) 8 (
 K [(nx v5 1),(nx v5 2)] [(nxc d2 0),(nxc d2 1),((nxc d2 2)++[T.c (nx v23 0)]),(nxc d2 3)])) (
 prP (bnI .eql (nx v5 0) (.int .i64 3)) fun t52_26=>
 AX t52_26 (
 cl2 C 95 DT.sg [(nx v5 1),(nx v5 2),(.int .i64 2)] [c0] fun v27 d28=>
 cl2 C 140 BZ.sg [(nx v27 1),(nx v27 2)] [c0,[T.c (.int .i64 0),T.c (.int .i64 9),T.c (.int .i64 (-1)),T.c (.int .i64 7)]] fun v29 d30=>
 ixW (cnt 2 (nxc d2 1)) (.int .i64 0) fun t61_31=>
 stg (nxc d2 1) [] ((AD t61_31)*2) [T.c (nx v27 0),T.c (nx v29 0)] fun k32=>
 K [(nx v29 1),(nx v29 2)] [(nxc d2 0),k32,(nxc d2 2),(nxc d2 3)]) (
 prP (bnI .eql (nx v5 0) (.int .i64 4)) fun t63_33=>
 AX t63_33 (
 cl2 C 139 DG.sg [(nx v5 1),(nx v5 2)] [c0,[T.c (.string {data:= #[]}),T.c (.string {data:= #[97]}),T.c (.string {data:= #[116,111,111,108,111,110,103,97,115,105,116,101]})]] fun v34 d35=>
 apW [T.c (nx v34 0)] true (cnt 1 (nxc d2 3)) (cnt 1 [T.c (nx v34 0)]) 16 (
 K [(nx v34 1),(nx v34 2)] [(nxc d2 0),(nxc d2 1),(nxc d2 2),((nxc d2 3)++[T.c (nx v34 0)])])) (
 prP (bnI .eql (nx v5 0) (.int .i64 5)) fun t73_36=>
 AX t73_36 (
 scW (cnt 8 (nxc d2 0)) none (some (nx v3 0)) fun l37 m38=>
 K [(nx v5 1),(nx v5 2)] [(GB (nxc d2 0) [] ((AD l37)*8) ((AD m38)*8)),(nxc d2 1),(nxc d2 2),(nxc d2 3)]) (
 prP (bnI .eql (nx v5 0) (.int .i64 6)) fun t80_39=>
 AX t80_39 (
 cl2 C 140 BZ.sg [(nx v5 1),(nx v5 2)] [c0,[T.c (.int .i64 0),T.c (.int .i64 999),T.c (.int .i64 1000)]] fun v40 d41=>
 ixW (cnt 8 (nxc d2 0)) (nx v3 0) fun t87_42=>
 stc (nxc d2 0) [] (((AD t87_42)*8)+1) (nx v40 0) fun k43=>
 K [(nx v40 1),(nx v40 2)] [k43,(nxc d2 1),(nxc d2 2),(nxc d2 3)]) (
 K [(nx v5 1),(nx v5 2)] [(nxc d2 0),(nxc d2 1),(nxc d2 2),(nxc d2 3)])))))))
theorem GQ.cl2 {w0:World} {a0 a1:Value} {c0:List T} {K:J2} (h:GQ.txt ⟨Try.prog,w0⟩ a0 a1 c0 K):Eng.cl2 ⟨Try.prog,w0⟩ 96 GQ.sg [a0,a1] [c0] K:=
 AY (C:=⟨Try.prog,w0⟩) (f:=96) (fn:=Try.f96) [(94,GJ.sg),(112,BU.sg),(61,CU.sg),(95,DT.sg),(140,BZ.sg),(139,DG.sg)] [(5,[0,1,0,0,8,0,56,120,248,504,1023,2047,4095]),(7,[0,1,0,7,15,31,0,64,255,511]),(9,[0,1,0,0,8,0,56,120,248,508,1020,2047,4095,8191]),(11,[0,1,0,4,0,0,60,124,255,511]),(13,[0,1,0,0,12,28,63,127,255]),(17,[0,1,0,0,0,24,63,127,255])] [] Try.func96 (by kernel_rfl) (by kernel_rfl) (by kernel_rfl) h
def CF.sg:Sg:=⟨[(1,[.t 8 0, .t 2 0, .t 1 0, .t 1 0])],[(0,[.t 1])],[]⟩
def CF.txt (C:Ctx) (c0 c1 c2 c3:List T) (K:J2):Prop:=
 BE (fun r3 x1 k2=>
 prP (bnI .lss (nx x1 0) (iv (cnt 8 c0))) fun t10_5=>
 gE t10_5 (
 gP t10_5 true (prP (bnI .lss (nx x1 0) (.int .i64 8))) fun t13_6=>
 prP (pk t10_5 t13_6 (.bool false)) fun t14_7=>
 AX t14_7 (
 BK (fun x9 k10=>
 prP (bnI .add (nx x9 0) (.int .i64 1)) fun t16_26=>
 r3 [t16_26] [(nxc k10 0)]) fun j11=>
 ixW (cnt 8 c0) (nx x1 0) fun t20_12=>
 ldc c0 [] ((AD t20_12)*8) fun t22_13=>
 gE t22_13 (
 gE t22_13 (
 gE t22_13 (
 gP t22_13 true (ixW (cnt 8 c0) (nx x1 0)) fun t27_14=>
 gE t22_13 (
 gP t22_13 true (ldc c0 [] (((AD t27_14)*8)+3)) fun t29_15=>
 gE t22_13 (
 gE t22_13 (
 gE t22_13 (
 gP t22_13 true (ixW (cnt 8 c0) (nx x1 0)) fun t33_16=>
 gE t22_13 (
 gP t22_13 true (ldc c0 [] (((AD t33_16)*8)+4)) fun t35_17=>
 gP t22_13 true (prP (bnI .add t29_15 t35_17)) fun t36_18=>
 gP t22_13 true (prP (bnI .gtr t36_18 (.int .i64 0))) fun t37_19=>
 prP (pk t22_13 t37_19 (.bool false)) fun t38_20=>
 AX t38_20 (
 ixW (cnt 8 c0) (nx x1 0) fun t44_21=>
 ldc c0 [] (((AD t44_21)*8)+1) fun t46_22=>
 cl2 C 61 CU.sg [(nx x1 0),t46_22] [] fun v23 d24=>
 apW [T.c (nx v23 0)] true (cnt 1 (nxc k2 0)) (cnt 1 [T.c (nx v23 0)]) 8 (
 j11 [(nx x1 0)] [((nxc k2 0)++[T.c (nx v23 0)])])) (
 j11 [(nx x1 0)] [(nxc k2 0)])))))))))) (
 K [] [(nxc k2 0)]))) [(.int .i64 0)] [[]]
theorem CF.cl2 {w0:World} {c0 c1 c2 c3:List T} {K:J2} (h:CF.txt ⟨Try.prog,w0⟩ c0 c1 c2 c3 K):Eng.cl2 ⟨Try.prog,w0⟩ 33 CF.sg [] [c0,c1,c2,c3] K:=
 AY (C:=⟨Try.prog,w0⟩) (f:=33) (fn:=Try.f33) [(61,CU.sg)] [(5,[0,1,0,7,15,31,63,127,255,127,1023,2047,4095,127,8319,127,57471,123007,254079,524287,1048575,2097151])] [(233,⟨[.p (.j 0) 0, .t (.j 1) 1, .v],[],[.bx [.t (.f 0) 8, .t (.f 1) 2, .t (.f 2) 1, .t (.f 3) 1], .ls]⟩),(58,⟨[.p (.j 0) 0, .t (.j 1) 1, .v],[],[.bx [.t (.f 0) 8, .t (.f 1) 2, .t (.f 2) 1, .t (.f 3) 1], .ls]⟩)] Try.func33 (by kernel_rfl) (by kernel_rfl) (by kernel_rfl) h
def D6.sg:Sg:=⟨[(1,[.t 8 0, .t 2 0, .t 1 0, .t 1 0]),(0,[.t 1 0]),(0,[.v])],[(0,[.t 1])],[]⟩
def D6.txt (C:Ctx) (a0:Value) (c0 c1 c2 c3 c4:List T) (K:J2):Prop:=
 BE (fun r3 x1 k2=>
 prP (bnI .lss (nx x1 1) (iv (cnt 1 c4))) fun t16_5=>
 AX t16_5 (
 BK (fun x7 k8=>
 prP (bnI .add (nx x7 1) (.int .i64 1)) fun t18_29=>
 r3 [(nx x7 0),t18_29] [(nxc k8 0)]) fun j9=>
 ixW (cnt 1 c4) (nx x1 1) fun t22_10=>
 ldc c4 [] ((AD t22_10)*1) fun t23_11=>
 cl2 C 24 BD.sg [t23_11] [c0,c1,c2,c3] fun v12 d13=>
 prP (bnI .geq (nx v12 0) (.int .i64 0)) fun t25_15=>
 gE t25_15 (
 gE t25_15 (
 gE t25_15 (
 gP t25_15 true (ixW (cnt 1 c4) (nx x1 1)) fun t30_16=>
 gP t25_15 true (ldc c4 [] ((AD t30_16)*1)) fun t31_17=>
 gP t25_15 true ((fun K=>cl2 C 89 CA.sg [t31_17] [(nxc k2 0)] fun v18 d19=>K (nx v18 0))) fun t32_20=>
 gP t25_15 true (prP (un .not t32_20)) fun t33_21=>
 prP (pk t25_15 t33_21 (.bool false)) fun t34_22=>
 gE t34_22 (
 gE t34_22 (
 gP t34_22 true (ixW (cnt 1 c4) (nx x1 1)) fun t38_23=>
 gP t34_22 true (ldc c4 [] ((AD t38_23)*1)) fun t39_24=>
 gE t34_22 (
 gP t34_22 true (prP (bnI .neq t39_24 (nx x1 0))) fun t41_25=>
 prP (pk t34_22 t41_25 (.bool false)) fun t42_26=>
 AX t42_26 (
 ixW (cnt 1 c4) (nx x1 1) fun t46_27=>
 ldc c4 [] ((AD t46_27)*1) fun t47_28=>
 apW [T.c t47_28] true (cnt 1 (nxc k2 0)) (cnt 1 [T.c t47_28]) 8 (
 j9 [(nx x1 0),(nx x1 1)] [((nxc k2 0)++[T.c t47_28])])) (
 j9 [(nx x1 0),(nx x1 1)] [(nxc k2 0)])))))))) (
 BE (fun r32 x30 k31=>
 prP (bnI .lss (nx x30 1) (iv (cnt 1 (nxc k31 0)))) fun t53_34=>
 AX t53_34 (
 ixW (cnt 1 (nxc k31 0)) (nx x30 1) fun t61_35=>
 ldc (nxc k31 0) [] ((AD t61_35)*1) fun t62_36=>
 cl2 C 24 BD.sg [t62_36] [c0,c1,c2,c3] fun v37 d38=>
 ixW (cnt 8 c0) (nx v37 0) fun t64_40=>
 ldl c0 [] (((AD t64_40)*8)+6) 1 fun t66_41=>
 BE (fun r44 x42 k43=>
 prP (bnI .lss (nx x42 3) (iv (cnt 1 (FJ c0 [(AD (nx x42 2))])))) fun t70_46=>
 AX t70_46 (
 BK (fun x48 k49=>
 prP (bnI .add (nx x48 3) (.int .i64 1)) fun t72_70=>
 r44 [(nx x48 0),(nx x48 1),(iv (AD (nx x48 2))),t72_70] [(nxc k49 0)]) fun j50=>
 ixW (cnt 1 (FJ c0 [(AD (nx x42 2))])) (nx x42 3) fun t76_51=>
 ldc c0 [(AD (nx x42 2))] ((AD t76_51)*1) fun t77_52=>
 cl2 C 24 BD.sg [t77_52] [c0,c1,c2,c3] fun v53 d54=>
 prP (bnI .geq (nx v53 0) (.int .i64 0)) fun t79_56=>
 gE t79_56 (
 gE t79_56 (
 gE t79_56 (
 gP t79_56 true (ixW (cnt 1 (FJ c0 [(AD (nx x42 2))])) (nx x42 3)) fun t84_57=>
 gP t79_56 true (ldc c0 [(AD (nx x42 2))] ((AD t84_57)*1)) fun t85_58=>
 gP t79_56 true ((fun K=>cl2 C 89 CA.sg [t85_58] [(nxc k43 0)] fun v59 d60=>K (nx v59 0))) fun t86_61=>
 gP t79_56 true (prP (un .not t86_61)) fun t87_62=>
 prP (pk t79_56 t87_62 (.bool false)) fun t88_63=>
 gE t88_63 (
 gE t88_63 (
 gP t88_63 true (ixW (cnt 1 (FJ c0 [(AD (nx x42 2))])) (nx x42 3)) fun t92_64=>
 gP t88_63 true (ldc c0 [(AD (nx x42 2))] ((AD t92_64)*1)) fun t93_65=>
 gE t88_63 (
 gP t88_63 true (prP (bnI .neq t93_65 (nx x42 0))) fun t95_66=>
 prP (pk t88_63 t95_66 (.bool false)) fun t96_67=>
 AX t96_67 (
 ixW (cnt 1 (FJ c0 [(AD (nx x42 2))])) (nx x42 3) fun t100_68=>
 ldc c0 [(AD (nx x42 2))] ((AD t100_68)*1) fun t101_69=>
 apW [T.c t101_69] true (cnt 1 (nxc k43 0)) (cnt 1 [T.c t101_69]) 8 (
 j50 [(nx x42 0),(nx x42 1),(iv (AD (nx x42 2))),(nx x42 3)] [((nxc k43 0)++[T.c t101_69])])) (
 j50 [(nx x42 0),(nx x42 1),(iv (AD (nx x42 2))),(nx x42 3)] [(nxc k43 0)])))))))) (
 prP (bnI .add (nx x42 1) (.int .i64 1)) fun t55_71=>
 r32 [(nx x42 0),t55_71] [(nxc k43 0)])) [(nx x30 0),(nx x30 1),(iv (((AD t64_40)*8)+6)),(.int .i64 0)] [(nxc k31 0)]) (
 K [] [(nxc k31 0)])) [(nx x1 0),(.int .i64 0)] [(nxc k2 0)])) [a0,(.int .i64 0)] [[]]
theorem D6.cl2 {w0:World} {a0:Value} {c0 c1 c2 c3 c4:List T} {K:J2} (h:D6.txt ⟨Try.prog,w0⟩ a0 c0 c1 c2 c3 c4 K):Eng.cl2 ⟨Try.prog,w0⟩ 93 D6.sg [a0] [c0,c1,c2,c3,c4] K:=
 AY (C:=⟨Try.prog,w0⟩) (f:=93) (fn:=Try.f93) [(24,BD.sg),(89,CA.sg)] [(5,[0,0,0,6,14,31,63,127,255,255,255,1791,3839,8191,16383,32767,65535,131071,131071,524287,1048575,131071,4194303,8388607]),(10,[0,1,0,0,0,24,56,124,255,511,1023,2047]),(14,[0,0,0,6,14,31,63,127,255,255,255,1791,3839,8191,16383,32767,65535,131071,131071,524287,1048575,131071,4194303,8388607])] [(233,⟨[.t (.f 4) 1, .v, .p (.j 0) 0, .t (.j 1) 1, .v],[],[.bx [.t (.f 0) 8, .t (.f 1) 2, .t (.f 2) 1, .t (.f 3) 1], .ls]⟩),(62617,⟨[.v, .p (.j 0) 0, .t (.j 1) 1, .v, .n (.f 0) 1 1, .v],[],[.bx [.t (.f 0) 8, .t (.f 1) 2, .t (.f 2) 1, .t (.f 3) 1], .ls]⟩),(15654,⟨[.v, .p (.j 0) 0, .t (.j 1) 1, .v, .n (.f 0) 1 1, .v],[],[.bx [.t (.f 0) 8, .t (.f 1) 2, .t (.f 2) 1, .t (.f 3) 1], .ls]⟩),(122,⟨[.v, .p (.j 0) 0, .t (.j 1) 1, .v],[],[.bx [.t (.f 0) 8, .t (.f 1) 2, .t (.f 2) 1, .t (.f 3) 1], .ls]⟩),(58,⟨[.t (.f 4) 1, .v, .p (.j 0) 0, .t (.j 1) 1, .v],[],[.bx [.t (.f 0) 8, .t (.f 1) 2, .t (.f 2) 1, .t (.f 3) 1], .ls]⟩)] Try.func93 (by kernel_rfl) (by kernel_rfl) (by kernel_rfl) h
def EO.sg:Sg:=⟨[(1,[.t 8 0, .t 2 0, .t 1 0, .t 1 0]),(0,[.t 1 0])],[(0,[.t 1])],[]⟩
def EO.txt (C:Ctx) (c0 c1 c2 c3 c4:List T) (K:J2):Prop:=
 cl2 C 30 CM.sg [] [c0,c1,c2,c3] fun v1 d2=>
 BE (fun r5 x3 k4=>
 prP (bnI .lss (nx x3 0) (iv (cnt 1 (nxc k4 1)))) fun t14_7=>
 AX t14_7 (
 BK (fun x9 k10=>
 prP (bnI .add (nx x9 0) (.int .i64 1)) fun t16_19=>
 r5 [t16_19] [(nxc k10 0),(nxc k10 1)]) fun j11=>
 ixW (cnt 1 (nxc k4 1)) (nx x3 0) fun t20_12=>
 ldc (nxc k4 1) [] ((AD t20_12)*1) fun t21_13=>
 cl2 C 89 CA.sg [t21_13] [c4] fun v14 d15=>
 AX (nx v14 0) (
 ixW (cnt 1 (nxc k4 1)) (nx x3 0) fun t26_17=>
 ldc (nxc k4 1) [] ((AD t26_17)*1) fun t27_18=>
 apW [T.c t27_18] true (cnt 1 (nxc k4 0)) (cnt 1 [T.c t27_18]) 8 (
 j11 [(nx x3 0)] [((nxc k4 0)++[T.c t27_18]),(nxc k4 1)])) (
 j11 [(nx x3 0)] [(nxc k4 0),(nxc k4 1)])) (
 K [] [(nxc k4 0)])) [(.int .i64 0)] [[],(nxc d2 0)]
theorem EO.cl2 {w0:World} {c0 c1 c2 c3 c4:List T} {K:J2} (h:EO.txt ⟨Try.prog,w0⟩ c0 c1 c2 c3 c4 K):Eng.cl2 ⟨Try.prog,w0⟩ 101 EO.sg [] [c0,c1,c2,c3,c4] K:=
 AY (C:=⟨Try.prog,w0⟩) (f:=101) (fn:=Try.f101) [(30,CM.sg),(89,CA.sg)] [] [(489,⟨[.t (.f 4) 1, .t (.j 0) 1, .t (.j 1) 1, .v],[],[.ls, .ls]⟩),(122,⟨[.t (.f 4) 1, .t (.j 0) 1, .t (.j 1) 1, .v],[],[.ls, .ls]⟩)] Try.func101 (by kernel_rfl) (by kernel_rfl) (by kernel_rfl) h
def DO.sg:Sg:=⟨[(1,[.t 8 0, .t 2 0, .t 1 0, .t 1 0]),(0,[.t 1 0])],[(0,[.t 1])],[]⟩
def DO.txt (C:Ctx) (c0 c1 c2 c3 c4:List T) (K:J2):Prop:=
 prP (bnI .neq (iv (cnt 8 c0)) (.int .i64 8)) fun t8_1=>
 AX t8_1 (
 K [] [[]]) (
 cl2 C 93 D6.sg [(.int .i64 (-1))] [c0,c1,c2,c3,c4] fun v2 d3=>
 cl2 C 101 EO.sg [] [c0,c1,c2,c3,(nxc d3 0)] fun v4 d5=>
 K [] [(nxc d5 0)])
theorem DO.cl2 {w0:World} {c0 c1 c2 c3 c4:List T} {K:J2} (h:DO.txt ⟨Try.prog,w0⟩ c0 c1 c2 c3 c4 K):Eng.cl2 ⟨Try.prog,w0⟩ 32 DO.sg [] [c0,c1,c2,c3,c4] K:=
 AY (C:=⟨Try.prog,w0⟩) (f:=32) (fn:=Try.f32) [(93,D6.sg),(101,EO.sg)] [(3,[0,0,0,6,15,31])] [] Try.func32 (by kernel_rfl) (by kernel_rfl) (by kernel_rfl) h
def FO.sg:Sg:=⟨[(1,[.t 8 0, .t 2 0, .t 1 0, .t 1 0])],[(0,[.t 1])],[]⟩
def FO.txt (C:Ctx) (c0 c1 c2 c3:List T) (K:J2):Prop:=
 prP (bnI .neq (iv (cnt 8 c0)) (.int .i64 8)) fun t11_1=>
 AX t11_1 (
 K [] [[]]) (
 cl2 C 33 CF.sg [] [c0,c1,c2,c3] fun v2 d3=>
 cl2 C 32 DO.sg [] [c0,c1,c2,c3,(nxc d3 0)] fun v4 d5=>
 cl2 C 30 CM.sg [] [c0,c1,c2,c3] fun v6 d7=>
 BE (fun r10 x8 k9=>
 prP (bnI .lss (nx x8 0) (iv (cnt 1 (nxc k9 2)))) fun t22_12=>
 AX t22_12 (
 BK (fun x14 k15=>
 prP (bnI .add (nx x14 0) (.int .i64 1)) fun t24_25=>
 r10 [t24_25] [(nxc k15 0),(nxc k15 1),(nxc k15 2)]) fun j16=>
 ixW (cnt 1 (nxc k9 2)) (nx x8 0) fun t28_17=>
 ldc (nxc k9 2) [] ((AD t28_17)*1) fun t29_18=>
 cl2 C 89 CA.sg [t29_18] [(nxc k9 1)] fun v19 d20=>
 prP (un .not (nx v19 0)) fun t31_22=>
 AX t31_22 (
 ixW (cnt 1 (nxc k9 2)) (nx x8 0) fun t35_23=>
 ldc (nxc k9 2) [] ((AD t35_23)*1) fun t36_24=>
 apW [T.c t36_24] true (cnt 1 (nxc k9 0)) (cnt 1 [T.c t36_24]) 8 (
 j16 [(nx x8 0)] [((nxc k9 0)++[T.c t36_24]),(nxc k9 1),(nxc k9 2)])) (
 j16 [(nx x8 0)] [(nxc k9 0),(nxc k9 1),(nxc k9 2)])) (
 K [] [(nxc k9 0)])) [(.int .i64 0)] [[],(nxc d5 0),(nxc d7 0)])
theorem FO.cl2 {w0:World} {c0 c1 c2 c3:List T} {K:J2} (h:FO.txt ⟨Try.prog,w0⟩ c0 c1 c2 c3 K):Eng.cl2 ⟨Try.prog,w0⟩ 22 FO.sg [] [c0,c1,c2,c3] K:=
 AY (C:=⟨Try.prog,w0⟩) (f:=22) (fn:=Try.f22) [(33,CF.sg),(32,DO.sg),(30,CM.sg),(89,CA.sg)] [(4,[0,0,2,7,15])] [(2025,⟨[.t (.j 0) 1, .t (.j 1) 1, .t (.j 2) 1, .v],[],[.ls, .ls, .ls]⟩),(506,⟨[.t (.j 0) 1, .t (.j 1) 1, .t (.j 2) 1, .v],[],[.ls, .ls, .ls]⟩)] Try.func22 (by kernel_rfl) (by kernel_rfl) (by kernel_rfl) h
def GV.sg:Sg:=⟨[(0,[.t 1 0]),(0,[.v])],[(0,[.v])],[]⟩
def GV.txt (C:Ctx) (a0:Value) (c0:List T) (K:J2):Prop:=
 BE (fun r3 x1 k2=>
 prP (bnI .lss (nx x1 1) (iv (cnt 1 c0))) fun t9_5=>
 AX t9_5 (
 ixW (cnt 1 c0) (nx x1 1) fun t14_6=>
 ldc c0 [] ((AD t14_6)*1) fun t15_7=>
 prP (bnI .eql t15_7 (nx x1 0)) fun t17_8=>
 AX t17_8 (
 K [(.bool true)] []) (
 prP (bnI .add (nx x1 1) (.int .i64 1)) fun t11_9=>
 r3 [(nx x1 0),t11_9] [])) (
 K [(.bool false)] [])) [a0,(.int .i64 0)] []
theorem GV.cl2 {w0:World} {a0:Value} {c0:List T} {K:J2} (h:GV.txt ⟨Try.prog,w0⟩ a0 c0 K):Eng.cl2 ⟨Try.prog,w0⟩ 25 GV.sg [a0] [c0] K:=
 AY (C:=⟨Try.prog,w0⟩) (f:=25) (fn:=Try.f25) [] [] [(26,⟨[.t (.f 0) 1, .v, .v],[],[]⟩)] Try.func25 (by kernel_rfl) (by kernel_rfl) (by kernel_rfl) h
def DM.sg:Sg:=⟨[(1,[.t 8 0, .t 2 0, .t 1 0, .t 1 0])],[(0,[.t 1])],[]⟩
def DM.txt (C:Ctx) (c0 c1 c2 c3:List T) (K:J2):Prop:=
 BE (fun r3 x1 k2=>
 prP (bnI .lss (nx x1 1) (nx x1 0)) fun t10_22=>
 AX t10_22 (
 BK (fun x24 k25=>
 prP (bnI .add (nx x24 1) (.int .i64 1)) fun t35_37=>
 r3 [(nx x24 0),t35_37] [(nxc k25 0)]) fun j26=>
 ixW (cnt 8 c0) (nx x1 1) fun t12_27=>
 ldg c0 [] ((AD t12_27)*8) [.c, .c, .c, .c, .c, .c, .l 1, .c] fun ts28=>
 prP (bnI .lss (nx x1 1) (.int .i64 8)) fun t15_29=>
 gE t15_29 (
 gE t15_29 (
 prP (pk t15_29 (tv (nxT ts28 0)) (.bool false)) fun t19_30=>
 gE t19_30 (
 gE t19_30 (
 gE t19_30 (
 gE t19_30 (
 gP t19_30 true (prP (bnI .add (tv (nxT ts28 3)) (tv (nxT ts28 4)))) fun t25_31=>
 gP t19_30 true (prP (bnI .gtr t25_31 (.int .i64 0))) fun t26_32=>
 prP (pk t19_30 t26_32 (.bool false)) fun t27_33=>
 AX t27_33 (
 cl2 C 98 F8.sg [(nx x1 1),(tv (nxT ts28 1))] [] fun v34 d35=>
 apW [T.c (nx v34 0)] true (cnt 1 (nxc k2 0)) (cnt 1 [T.c (nx v34 0)]) 8 (
 j26 [(nx x1 0),(nx x1 1)] [((nxc k2 0)++[T.c (nx v34 0)])])) (
 j26 [(nx x1 0),(nx x1 1)] [(nxc k2 0)])))))))) (
 K [] [(nxc k2 0)])) [(iv (cnt 8 c0)),(.int .i64 0)] [[]]
theorem DM.cl2 {w0:World} {c0 c1 c2 c3:List T} {K:J2} (h:DM.txt ⟨Try.prog,w0⟩ c0 c1 c2 c3 K):Eng.cl2 ⟨Try.prog,w0⟩ 35 DM.sg [] [c0,c1,c2,c3] K:=
 AY (C:=⟨Try.prog,w0⟩) (f:=35) (fn:=Try.f35) [(98,F8.sg)] [] [(467,⟨[.t (.j 0) 1, .t (.f 0) 8, .v, .v],[],[.ls]⟩),(58,⟨[.t (.j 0) 1, .t (.f 0) 8, .v, .v],[],[.ls]⟩)] Try.func35 (by kernel_rfl) (by kernel_rfl) (by kernel_rfl) h
def C1.sg:Sg:=⟨[(2,[.t 1 2, .v, .v, .v, .v, .v, .v, .v, .v, .v, .v, .v, .v, .v, .v, .v, .v]),(0,[.v]),(0,[.v])],[],[[.t 1, .v, .v, .v, .v, .v, .v, .v, .v, .v, .v, .v, .v, .v, .v, .v, .v]]⟩
def C1.txt (C:Ctx) (a0 a1 a2 a3 a4 a5 a6 a7 a8 a9 a10 a11 a12 a13 a14 a15 a16 a17:Value) (c0:List T) (K:J2):Prop:=
 prP (bnI .lss a16 (.int .i64 0)) fun t7_1=>
 gE t7_1 (
 gE t7_1 (
 gE t7_1 (
 gE t7_1 (
 gP t7_1 false (ixW 8 a16) fun t13_2=>
 gP t7_1 false (prP (arG [a8,a9,a10,a11,a12,a13,a14,a15] t13_2)) fun t14_3=>
 prP (pk t7_1 (.bool true) t14_3) fun t15_4=>
 AX t15_4 (
 K [a0,a1,a2,a3,a4,a5,a6,a7,a8,a9,a10,a11,a12,a13,a14,a15] [c0]) (
 ixW 8 a16 fun t20_5=>
 ixW 8 a16 fun t26_6=>
 apW [T.c a16] true (cnt 1 c0) (cnt 1 [T.c a16]) 8 (
 K [(arP t26_6 0 a17 a0),(arP t26_6 1 a17 a1),(arP t26_6 2 a17 a2),(arP t26_6 3 a17 a3),(arP t26_6 4 a17 a4),(arP t26_6 5 a17 a5),(arP t26_6 6 a17 a6),(arP t26_6 7 a17 a7),(arP t20_5 0 (.bool true) a8),(arP t20_5 1 (.bool true) a9),(arP t20_5 2 (.bool true) a10),(arP t20_5 3 (.bool true) a11),(arP t20_5 4 (.bool true) a12),(arP t20_5 5 (.bool true) a13),(arP t20_5 6 (.bool true) a14),(arP t20_5 7 (.bool true) a15)] [(c0++[T.c a16])]))))))
theorem C1.cl2 {w0:World} {a0 a1 a2 a3 a4 a5 a6 a7 a8 a9 a10 a11 a12 a13 a14 a15 a16 a17:Value} {c0:List T} {K:J2} (h:C1.txt ⟨Try.prog,w0⟩ a0 a1 a2 a3 a4 a5 a6 a7 a8 a9 a10 a11 a12 a13 a14 a15 a16 a17 c0 K):Eng.cl2 ⟨Try.prog,w0⟩ 143 C1.sg [a0,a1,a2,a3,a4,a5,a6,a7,a8,a9,a10,a11,a12,a13,a14,a15,a16,a17] [c0] K:=
 AY (C:=⟨Try.prog,w0⟩) (f:=143) (fn:=Try.f143) [] [] [] Try.func143 (by kernel_rfl) (by kernel_rfl) (by kernel_rfl) h
def FT.sg:Sg:=⟨[(1,[.t 8 0, .t 2 0, .t 1 0, .t 1 0]),(0,[.t 1 0]),(0,[.v])],[(2,[.t 1, .v, .v, .v, .v, .v, .v, .v, .v, .v, .v, .v, .v, .v, .v, .v, .v])],[]⟩
def FT.txt (C:Ctx) (a0:Value) (c0 c1 c2 c3 c4:List T) (K:J2):Prop:=
 BK (fun x2 k3=>
 BE (fun r9 x7 k8=>
 prP (bnI .lss (nx x7 1) (nx x7 0)) fun t25_26=>
 AX t25_26 (
 ixW (cnt 1 c4) (nx x7 1) fun t26_27=>
 ldc c4 [] ((AD t26_27)*1) fun t27_28=>
 cl2 C 81 DK.sg [t27_28] [c0,c1,c2,c3] fun v29 d30=>
 cl2 C 143 C1.sg [(nx x7 2),(nx x7 3),(nx x7 4),(nx x7 5),(nx x7 6),(nx x7 7),(nx x7 8),(nx x7 9),(nx x7 10),(nx x7 11),(nx x7 12),(nx x7 13),(nx x7 14),(nx x7 15),(nx x7 16),(nx x7 17),(nx v29 0),(.int .i64 (-1))] [(nxc k8 0)] fun v32 d33=>
 prP (bnI .add (nx x7 1) (.int .i64 1)) fun t33_34=>
 r9 [(nx x7 0),t33_34,(nx v32 0),(nx v32 1),(nx v32 2),(nx v32 3),(nx v32 4),(nx v32 5),(nx v32 6),(nx v32 7),(nx v32 8),(nx v32 9),(nx v32 10),(nx v32 11),(nx v32 12),(nx v32 13),(nx v32 14),(nx v32 15)] [(nxc d33 0)]) (
 BE (fun r37 x35 k36=>
 prP (bnI .lss (nx x35 0) (iv (cnt 1 (nxc k36 0)))) fun t40_39=>
 AX t40_39 (
 ixW (cnt 1 (nxc k36 0)) (nx x35 0) fun t49_40=>
 ldc (nxc k36 0) [] ((AD t49_40)*1) fun t50_41=>
 cl2 C 118 EP.sg [t50_41] [c0,c1,c2,c3] fun v42 d43=>
 BE (fun r46 x44 k45=>
 prP (bnI .lss (nx x44 2) (nx x44 1)) fun t54_48=>
 AX t54_48 (
 ixW (cnt 1 (nxc k45 0)) (nx x44 2) fun t55_49=>
 ldc (nxc k45 0) [] ((AD t55_49)*1) fun t56_50=>
 ixW (cnt 1 (nxc k45 1)) (nx x44 0) fun t64_51=>
 ldc (nxc k45 1) [] ((AD t64_51)*1) fun t65_52=>
 cl2 C 143 C1.sg [(nx x44 3),(nx x44 4),(nx x44 5),(nx x44 6),(nx x44 7),(nx x44 8),(nx x44 9),(nx x44 10),(nx x44 11),(nx x44 12),(nx x44 13),(nx x44 14),(nx x44 15),(nx x44 16),(nx x44 17),(nx x44 18),t56_50,t65_52] [(nxc k45 1)] fun v53 d54=>
 prP (bnI .add (nx x44 2) (.int .i64 1)) fun t67_55=>
 r46 [(nx x44 0),(nx x44 1),t67_55,(nx v53 0),(nx v53 1),(nx v53 2),(nx v53 3),(nx v53 4),(nx v53 5),(nx v53 6),(nx v53 7),(nx v53 8),(nx v53 9),(nx v53 10),(nx v53 11),(nx v53 12),(nx v53 13),(nx v53 14),(nx v53 15)] [(nxc k45 0),(nxc d54 0)]) (
 prP (bnI .add (nx x44 0) (.int .i64 1)) fun t42_56=>
 r37 [t42_56,(nx x44 3),(nx x44 4),(nx x44 5),(nx x44 6),(nx x44 7),(nx x44 8),(nx x44 9),(nx x44 10),(nx x44 11),(nx x44 12),(nx x44 13),(nx x44 14),(nx x44 15),(nx x44 16),(nx x44 17),(nx x44 18)] [(nxc k45 1)])) [(nx x35 0),(iv (cnt 1 (nxc d43 0))),(.int .i64 0),(nx x35 1),(nx x35 2),(nx x35 3),(nx x35 4),(nx x35 5),(nx x35 6),(nx x35 7),(nx x35 8),(nx x35 9),(nx x35 10),(nx x35 11),(nx x35 12),(nx x35 13),(nx x35 14),(nx x35 15),(nx x35 16)] [(nxc d43 0),(nxc k36 0)]) (
 K [(nx x35 1),(nx x35 2),(nx x35 3),(nx x35 4),(nx x35 5),(nx x35 6),(nx x35 7),(nx x35 8),(nx x35 9),(nx x35 10),(nx x35 11),(nx x35 12),(nx x35 13),(nx x35 14),(nx x35 15),(nx x35 16)] [(nxc k36 0)])) [(.int .i64 0),(nx x7 2),(nx x7 3),(nx x7 4),(nx x7 5),(nx x7 6),(nx x7 7),(nx x7 8),(nx x7 9),(nx x7 10),(nx x7 11),(nx x7 12),(nx x7 13),(nx x7 14),(nx x7 15),(nx x7 16),(nx x7 17)] [(nxc k8 0)])) [(iv (cnt 1 c4)),(.int .i64 0),(nx x2 0),(nx x2 1),(nx x2 2),(nx x2 3),(nx x2 4),(nx x2 5),(nx x2 6),(nx x2 7),(nx x2 8),(nx x2 9),(nx x2 10),(nx x2 11),(nx x2 12),(nx x2 13),(nx x2 14),(nx x2 15)] [[]]) fun j4=>
 prP (bnI .geq a0 (.int .i64 0)) fun t16_5=>
 AX t16_5 (
 ixW 8 a0 fun t21_6=>
 j4 [(.int .i64 0),(.int .i64 0),(.int .i64 0),(.int .i64 0),(.int .i64 0),(.int .i64 0),(.int .i64 0),(.int .i64 0),(arP t21_6 0 (.bool true) (.bool false)),(arP t21_6 1 (.bool true) (.bool false)),(arP t21_6 2 (.bool true) (.bool false)),(arP t21_6 3 (.bool true) (.bool false)),(arP t21_6 4 (.bool true) (.bool false)),(arP t21_6 5 (.bool true) (.bool false)),(arP t21_6 6 (.bool true) (.bool false)),(arP t21_6 7 (.bool true) (.bool false))] []) (
 j4 [(.int .i64 0),(.int .i64 0),(.int .i64 0),(.int .i64 0),(.int .i64 0),(.int .i64 0),(.int .i64 0),(.int .i64 0),(.bool false),(.bool false),(.bool false),(.bool false),(.bool false),(.bool false),(.bool false),(.bool false)] [])
theorem FT.cl2 {w0:World} {a0:Value} {c0 c1 c2 c3 c4:List T} {K:J2} (h:FT.txt ⟨Try.prog,w0⟩ a0 c0 c1 c2 c3 c4 K):Eng.cl2 ⟨Try.prog,w0⟩ 102 FT.sg [a0] [c0,c1,c2,c3,c4] K:=
 AY (C:=⟨Try.prog,w0⟩) (f:=102) (fn:=Try.f102) [(81,DK.sg),(143,C1.sg),(118,EP.sg)] [(12,[0,0,2,6,14,0,62,126,255,511,0])] [(7,⟨[.t (.f 4) 1, .p (.j 0) 0, .p (.j 1) 0],[],[.bx [.t (.f 0) 8, .t (.f 1) 2, .t (.f 2) 1, .t (.f 3) 1], .bx [.z, .v, .v, .v, .v, .v, .v, .v, .v, .v, .v, .v, .v, .v, .v, .v, .v]]⟩),(250,⟨[.p (.j 0) 0, .p (.j 1) 0, .v],[],[.bx [.t (.f 0) 8, .t (.f 1) 2, .t (.f 2) 1, .t (.f 3) 1], .bx [.t (.j 2) 1, .v, .v, .v, .v, .v, .v, .v, .v, .v, .v, .v, .v, .v, .v, .v, .v], .ls]⟩),(16018,⟨[.p (.j 0) 0, .p (.j 1) 0, .v, .t (.j 2) 1, .v, .v],[],[.bx [.t (.f 0) 8, .t (.f 1) 2, .t (.f 2) 1, .t (.f 3) 1], .bx [.t (.j 3) 1, .v, .v, .v, .v, .v, .v, .v, .v, .v, .v, .v, .v, .v, .v, .v, .v], .ls, .ls]⟩),(122,⟨[.p (.j 0) 0, .p (.j 1) 0, .t (.f 4) 1, .v, .v],[],[.bx [.t (.f 0) 8, .t (.f 1) 2, .t (.f 2) 1, .t (.f 3) 1], .bx [.t (.j 2) 1, .v, .v, .v, .v, .v, .v, .v, .v, .v, .v, .v, .v, .v, .v, .v, .v], .ls]⟩)] Try.func102 (by kernel_rfl) (by kernel_rfl) (by kernel_rfl) h
end Go.Proofs.Ytklmcfpgdfibnaa.P
