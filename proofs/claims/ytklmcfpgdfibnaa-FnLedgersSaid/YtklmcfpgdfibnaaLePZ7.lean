/- A part of the proof. -/
import Derived.Test.YtklmcfpgdfibnaaChecked
import Derived.Test.YtklmcfpgdfibnaaLePZ6
import Derived.KernelRfl
namespace Go.Proofs.Ytklmcfpgdfibnaa.P
open Go Go.Proofs.Ytklmcfpgdfibnaa Go.Proofs.Ytklmcfpgdfibnaa.Eng
set_option linter.unusedVariables false
set_option maxRecDepth 100000
def EA.sg:Sg:=⟨[(1,[.v, .v, .v, .v, .v, .v, .v])],[(0,[.v])],[]⟩
def EA.txt (C:Ctx) (a0 a1 a2 a3 a4 a5 a6:Value) (K:J2):Prop:=
 prP (bnI .sub a4 a5) fun t7_1=>
 K [t7_1] []
theorem EA.cl2 {w0:World} {a0 a1 a2 a3 a4 a5 a6:Value} {K:J2} (h:EA.txt ⟨Try.prog,w0⟩ a0 a1 a2 a3 a4 a5 a6 K):Eng.cl2 ⟨Try.prog,w0⟩ 47 EA.sg [a0,a1,a2,a3,a4,a5,a6] [] K:=
 AZ (C:=⟨Try.prog,w0⟩) (f:=47) (fn:=Try.f47) [] [] [] Try.func47 (by kernel_rfl) (by kernel_rfl) (by kernel_rfl) h
def FO.sg:Sg:=⟨[(1,[.v, .v, .v, .v, .v, .v, .v])],[(0,[.v])],[]⟩
def FO.txt (C:Ctx) (a0 a1 a2 a3 a4 a5 a6:Value) (K:J2):Prop:=
 prP (bnI .sub a1 a6) fun t7_1=>
 K [t7_1] []
theorem FO.cl2 {w0:World} {a0 a1 a2 a3 a4 a5 a6:Value} {K:J2} (h:FO.txt ⟨Try.prog,w0⟩ a0 a1 a2 a3 a4 a5 a6 K):Eng.cl2 ⟨Try.prog,w0⟩ 48 FO.sg [a0,a1,a2,a3,a4,a5,a6] [] K:=
 AZ (C:=⟨Try.prog,w0⟩) (f:=48) (fn:=Try.f48) [] [] [] Try.func48 (by kernel_rfl) (by kernel_rfl) (by kernel_rfl) h
def D9.sg:Sg:=⟨[(0,[.t 5 0]),(0,[.t 3 0]),(0,[.v]),(0,[.v])],[(0,[.v]),(0,[.v])],[]⟩
def D9.txt (C:Ctx) (a0 a1:Value) (c0 c1:List T) (K:J2):Prop:=
 A6 (fun r3 x1 k2=>
 prP (bnI .lss (nx x1 4) (nx x1 0)) fun t15_5=>
 gE t15_5 (
 gE t15_5 (
 gE t15_5 (
 gP t15_5 true (prP (bnI .lss (nx x1 4) (iv (cnt 3 c1)))) fun t20_6=>
 prP (pk t15_5 t20_6 (.bool false)) fun t21_7=>
 AJ t21_7 (
 BF (fun x9 k10=>
 prP (bnI .add (nx x9 4) (.int .i64 1)) fun t23_25=>
 r3 [(nx x9 0),(nx x9 1),(nx x9 2),(nx x9 3),t23_25] []) fun j11=>
 ixW (cnt 5 c0) (nx x1 4) fun t26_12=>
 ldc c0 [] ((AB t26_12)*5) fun t28_13=>
 prP (bnI .eql t28_13 (.int .i64 1)) fun t29_14=>
 gE t29_14 (
 gE t29_14 (
 gP t29_14 true (ixW (cnt 3 c1) (nx x1 4)) fun t33_15=>
 gE t29_14 (
 gP t29_14 true (ldc c1 [] ((AB t33_15)*3)) fun t35_16=>
 gP t29_14 true (prP (bnI .eql t35_16 (.int .i64 0))) fun t36_17=>
 prP (pk t29_14 t36_17 (.bool false)) fun t37_18=>
 gE t37_18 (
 gE t37_18 (
 gP t37_18 true (ixW (cnt 3 c1) (nx x1 4)) fun t41_19=>
 gE t37_18 (
 gP t37_18 true (ldc c1 [] (((AB t41_19)*3)+1)) fun t43_20=>
 gE t37_18 (
 gP t37_18 true (prP (bnI .eql t43_20 (nx x1 1))) fun t45_21=>
 prP (pk t37_18 t45_21 (.bool false)) fun t46_22=>
 AJ t46_22 (
 ixW (cnt 5 c0) (nx x1 4) fun t49_23=>
 ldc c0 [] (((AB t49_23)*5)+4) fun t51_24=>
 j11 [(nx x1 0),(nx x1 1),t51_24,(.bool true),(nx x1 4)] []) (
 j11 [(nx x1 0),(nx x1 1),(nx x1 2),(nx x1 3),(nx x1 4)] []))))))))) (
 K [(nx x1 2),(nx x1 3)] []))))) [a0,a1,(.string {data:= #[]}),(.bool false),(.int .i64 0)] []
theorem D9.cl2 {w0:World} {a0 a1:Value} {c0 c1:List T} {K:J2} (h:D9.txt ⟨Try.prog,w0⟩ a0 a1 c0 c1 K):Eng.cl2 ⟨Try.prog,w0⟩ 110 D9.sg [a0,a1] [c0,c1] K:=
 AZ (C:=⟨Try.prog,w0⟩) (f:=110) (fn:=Try.f110) [] [] [(489,⟨[.t (.f 0) 5, .t (.f 1) 3, .v, .v, .v, .v, .v],[],[]⟩),(122,⟨[.t (.f 0) 5, .t (.f 1) 3, .v, .v, .v, .v, .v],[],[]⟩)] Try.func110 (by kernel_rfl) (by kernel_rfl) (by kernel_rfl) h
def DK.sg:Sg:=⟨[(0,[.t 7 0]),(0,[.v])],[(0,[.v])],[]⟩
def DK.txt (C:Ctx) (a0:Value) (c0:List T) (K:J2):Prop:=
 A6 (fun r3 x1 k2=>
 prP (bnI .lss (nx x1 1) (iv (cnt 7 c0))) fun t9_5=>
 AJ t9_5 (
 ixW (cnt 7 c0) (nx x1 1) fun t14_6=>
 ldc c0 [] ((AB t14_6)*7) fun t16_7=>
 prP (bnS .eql t16_7 (nx x1 0)) fun t18_8=>
 AJ t18_8 (
 K [(nx x1 1)] []) (
 prP (bnI .add (nx x1 1) (.int .i64 1)) fun t11_9=>
 r3 [(nx x1 0),t11_9] [])) (
 K [(iv (cnt 7 c0))] [])) [a0,(.int .i64 0)] []
theorem DK.cl2 {w0:World} {a0:Value} {c0:List T} {K:J2} (h:DK.txt ⟨Try.prog,w0⟩ a0 c0 K):Eng.cl2 ⟨Try.prog,w0⟩ 111 DK.sg [a0] [c0] K:=
 AZ (C:=⟨Try.prog,w0⟩) (f:=111) (fn:=Try.f111) [] [] [(26,⟨[.t (.f 0) 7, .v, .v],[],[]⟩)] Try.func111 (by kernel_rfl) (by kernel_rfl) (by kernel_rfl) h
def FN.sg:Sg:=⟨[(0,[.t 5 0]),(0,[.t 3 0])],[(0,[.t 7])],[]⟩
def FN.txt (C:Ctx) (c0 c1:List T) (K:J2):Prop:=
 A6 (fun r3 x1 k2=>
 prP (bnI .lss (nx x1 0) (iv (cnt 5 c0))) fun t18_5=>
 gE t18_5 (
 gE t18_5 (
 gE t18_5 (
 gP t18_5 true (prP (bnI .lss (nx x1 0) (iv (cnt 3 c1)))) fun t23_6=>
 prP (pk t18_5 t23_6 (.bool false)) fun t24_7=>
 AJ t24_7 (
 BF (fun x9 k10=>
 prP (bnI .add (nx x9 0) (.int .i64 1)) fun t26_101=>
 r3 [t26_101] [(nxc k10 0)]) fun j11=>
 ixW (cnt 3 c1) (nx x1 0) fun t29_12=>
 ldc c1 [] ((AB t29_12)*3) fun t31_13=>
 prP (bnI .neq t31_13 (.int .i64 0)) fun t32_14=>
 AJ t32_14 (
 j11 [(nx x1 0)] [(nxc k2 0)]) (
 ixW (cnt 5 c0) (nx x1 0) fun t39_15=>
 ldc c0 [] (((AB t39_15)*5)+1) fun t41_16=>
 cl2 C 110 D9.sg [(nx x1 0),t41_16] [c0,c1] fun v17 d18=>
 BF (fun x20 k21=>
 cl2 C 111 DK.sg [(nx x20 1)] [(nxc k21 0)] fun v32 d33=>
 BF (fun x36 k37=>
 A6 (fun r75 x73 k74=>
 ixW (cnt 3 c1) (nx x73 0) fun t145_77=>
 ldl c1 [] (((AB t145_77)*3)+2) 1 fun t147_78=>
 prP (bnI .lss (nx x73 1) (iv (cnt 1 (HF c1 [(((AB t145_77)*3)+2)])))) fun t149_79=>
 AJ t149_79 (
 BF (fun x81 k82=>
 prP (bnI .add (nx x81 1) (.int .i64 1)) fun t151_100=>
 r75 [(nx x81 0),t151_100] [(nxc k82 0)]) fun j83=>
 ixW (cnt 3 c1) (nx x73 0) fun t158_84=>
 ldl c1 [] (((AB t158_84)*3)+2) 1 fun t160_85=>
 ixW (cnt 1 (HF c1 [(((AB t158_84)*3)+2)])) (nx x73 1) fun t162_86=>
 ldc c1 [(((AB t158_84)*3)+2)] ((AB t162_86)*1) fun t163_87=>
 cl2 C 110 D9.sg [(nx x73 0),t163_87] [c0,c1] fun v88 d89=>
 cl2 C 111 DK.sg [(nx v88 0)] [(nxc k74 0)] fun v90 d91=>
 gE (nx v88 1) (
 gE (nx v88 1) (
 gE (nx v88 1) (
 gP (nx v88 1) true (prP (bnI .lss (nx v90 0) (iv (cnt 7 (nxc k74 0))))) fun t175_93=>
 prP (pk (nx v88 1) t175_93 (.bool false)) fun t176_94=>
 AJ t176_94 (
 ixW (cnt 7 (nxc k74 0)) (nx v90 0) fun t181_95=>
 ldc (nxc k74 0) [] (((AB t181_95)*7)+6) fun t183_96=>
 prP (bnI .add t183_96 (.int .i64 1)) fun t184_97=>
 ixW (cnt 7 (nxc k74 0)) (nx v90 0) fun t185_98=>
 stc (nxc k74 0) [] (((AB t185_98)*7)+6) t184_97 fun k99=>
 j83 [(nx x73 0),(nx x73 1)] [k99]) (
 j83 [(nx x73 0),(nx x73 1)] [(nxc k74 0)]))))) (
 j11 [(nx x73 0)] [(nxc k74 0)])) [(nx x36 0),(.int .i64 0)] [(nxc k37 0)]) fun j38=>
 gE (nx x20 2) (
 gE (nx x20 2) (
 gE (nx x20 2) (
 gP (nx x20 2) true (prP (bnI .lss (nx v32 0) (iv (cnt 7 (nxc k21 0))))) fun t75_39=>
 prP (pk (nx x20 2) t75_39 (.bool false)) fun t76_40=>
 AJ t76_40 (
 ixW (cnt 5 c0) (nx x20 0) fun t79_41=>
 ldc c0 [] ((AB t79_41)*5) fun t81_42=>
 prP (bnI .eql t81_42 (.int .i64 1)) fun t83_43=>
 AJ t83_43 (
 ixW (cnt 7 (nxc k21 0)) (nx v32 0) fun t88_44=>
 ldc (nxc k21 0) [] (((AB t88_44)*7)+1) fun t90_45=>
 prP (bnI .add t90_45 (.int .i64 1)) fun t91_46=>
 ixW (cnt 7 (nxc k21 0)) (nx v32 0) fun t92_47=>
 stc (nxc k21 0) [] (((AB t92_47)*7)+1) t91_46 fun k48=>
 j38 [(nx x20 0)] [k48]) (
 prP (bnI .eql t81_42 (.int .i64 2)) fun t95_49=>
 AJ t95_49 (
 ixW (cnt 7 (nxc k21 0)) (nx v32 0) fun t100_50=>
 ldc (nxc k21 0) [] (((AB t100_50)*7)+2) fun t102_51=>
 prP (bnI .add t102_51 (.int .i64 1)) fun t103_52=>
 ixW (cnt 7 (nxc k21 0)) (nx v32 0) fun t104_53=>
 stc (nxc k21 0) [] (((AB t104_53)*7)+2) t103_52 fun k54=>
 j38 [(nx x20 0)] [k54]) (
 prP (bnI .eql t81_42 (.int .i64 3)) fun t107_55=>
 AJ t107_55 (
 ixW (cnt 7 (nxc k21 0)) (nx v32 0) fun t112_56=>
 ldc (nxc k21 0) [] (((AB t112_56)*7)+3) fun t114_57=>
 prP (bnI .add t114_57 (.int .i64 1)) fun t115_58=>
 ixW (cnt 7 (nxc k21 0)) (nx v32 0) fun t116_59=>
 stc (nxc k21 0) [] (((AB t116_59)*7)+3) t115_58 fun k60=>
 j38 [(nx x20 0)] [k60]) (
 prP (bnI .eql t81_42 (.int .i64 5)) fun t119_61=>
 AJ t119_61 (
 ixW (cnt 7 (nxc k21 0)) (nx v32 0) fun t124_62=>
 ldc (nxc k21 0) [] (((AB t124_62)*7)+4) fun t126_63=>
 prP (bnI .add t126_63 (.int .i64 1)) fun t127_64=>
 ixW (cnt 7 (nxc k21 0)) (nx v32 0) fun t128_65=>
 stc (nxc k21 0) [] (((AB t128_65)*7)+4) t127_64 fun k66=>
 j38 [(nx x20 0)] [k66]) (
 prP (bnI .eql t81_42 (.int .i64 6)) fun t131_67=>
 AJ t131_67 (
 ixW (cnt 7 (nxc k21 0)) (nx v32 0) fun t136_68=>
 ldc (nxc k21 0) [] (((AB t136_68)*7)+5) fun t138_69=>
 prP (bnI .add t138_69 (.int .i64 1)) fun t139_70=>
 ixW (cnt 7 (nxc k21 0)) (nx v32 0) fun t140_71=>
 stc (nxc k21 0) [] (((AB t140_71)*7)+5) t139_70 fun k72=>
 j38 [(nx x20 0)] [k72]) (
 j38 [(nx x20 0)] [(nxc k21 0)])))))) (
 j38 [(nx x20 0)] [(nxc k21 0)]))))) fun j22=>
 ixW (cnt 5 c0) (nx x1 0) fun t47_23=>
 ldc c0 [] ((AB t47_23)*5) fun t49_24=>
 prP (bnI .eql t49_24 (.int .i64 1)) fun t50_25=>
 AJ t50_25 (
 ixW (cnt 5 c0) (nx x1 0) fun t53_26=>
 ldc c0 [] (((AB t53_26)*5)+4) fun t55_27=>
 cl2 C 111 DK.sg [t55_27] [(nxc k2 0)] fun v28 d29=>
 prP (bnI .eql (nx v28 0) (iv (cnt 7 (nxc k2 0)))) fun t61_31=>
 AJ t61_31 (
 apW [T.c t55_27,T.c (.int .i64 0),T.c (.int .i64 0),T.c (.int .i64 0),T.c (.int .i64 0),T.c (.int .i64 0),T.c (.int .i64 0)] true (cnt 7 (nxc k2 0)) (cnt 7 [T.c t55_27,T.c (.int .i64 0),T.c (.int .i64 0),T.c (.int .i64 0),T.c (.int .i64 0),T.c (.int .i64 0),T.c (.int .i64 0)]) 64 (
 j22 [(nx x1 0),t55_27,(.bool true)] [((nxc k2 0)++[T.c t55_27,T.c (.int .i64 0),T.c (.int .i64 0),T.c (.int .i64 0),T.c (.int .i64 0),T.c (.int .i64 0),T.c (.int .i64 0)])])) (
 j22 [(nx x1 0),t55_27,(.bool true)] [(nxc k2 0)])) (
 j22 [(nx x1 0),(nx v17 0),(nx v17 1)] [(nxc k2 0)]))) (
 K [] [(nxc k2 0)]))))) [(.int .i64 0)] [[]]
theorem FN.cl2 {w0:World} {c0 c1:List T} {K:J2} (h:FN.txt ⟨Try.prog,w0⟩ c0 c1 K):Eng.cl2 ⟨Try.prog,w0⟩ 50 FN.sg [] [c0,c1] K:=
 AZ (C:=⟨Try.prog,w0⟩) (f:=50) (fn:=Try.f50) [(110,D9.sg),(111,DK.sg)] [] [(3731,⟨[.t (.f 0) 5, .t (.f 1) 3, .t (.j 0) 7, .v, .v, .v],[],[.ls]⟩),(14927,⟨[.t (.f 0) 5, .t (.f 1) 3, .t (.j 0) 7, .v],[],[.ls]⟩),(477689,⟨[.t (.f 0) 5, .t (.f 1) 3, .t (.j 0) 7, .v, .v],[],[.ls]⟩),(119422,⟨[.t (.f 0) 5, .t (.f 1) 3, .t (.j 0) 7, .v, .v],[],[.ls]⟩),(233,⟨[.t (.f 0) 5, .t (.f 1) 3, .t (.j 0) 7, .v],[],[.ls]⟩),(58,⟨[.t (.f 0) 5, .t (.f 1) 3, .t (.j 0) 7, .v],[],[.ls]⟩)] Try.func50 (by kernel_rfl) (by kernel_rfl) (by kernel_rfl) h
def D7.sg:Sg:=⟨[(0,[.t 7 0]),(0,[.t 7 0])],[(0,[.v])],[]⟩
def D7.txt (C:Ctx) (c0 c1:List T) (K:J2):Prop:=
 prP (bnI .neq (iv (cnt 7 c0)) (iv (cnt 7 c1))) fun t10_1=>
 AJ t10_1 (
 K [(.bool false)] []) (
 A6 (fun r4 x2 k3=>
 prP (bnI .lss (nx x2 0) (iv (cnt 7 c0))) fun t14_6=>
 AJ t14_6 (
 ixW (cnt 7 c0) (nx x2 0) fun t19_7=>
 ldg c0 [] ((AB t19_7)*7) [.c, .c, .c, .c, .c, .c, .c] fun ts8=>
 ixW (cnt 7 c1) (nx x2 0) fun t23_9=>
 ldg c1 [] ((AB t23_9)*7) [.c, .c, .c, .c, .c, .c, .c] fun ts10=>
 prP (bnA C.P .neq 68 (.agg #[(tv (nxT ts8 0)),(tv (nxT ts8 1)),(tv (nxT ts8 2)),(tv (nxT ts8 3)),(tv (nxT ts8 4)),(tv (nxT ts8 5)),(tv (nxT ts8 6))]) (.agg #[(tv (nxT ts10 0)),(tv (nxT ts10 1)),(tv (nxT ts10 2)),(tv (nxT ts10 3)),(tv (nxT ts10 4)),(tv (nxT ts10 5)),(tv (nxT ts10 6))])) fun t25_11=>
 AJ t25_11 (
 K [(.bool false)] []) (
 prP (bnI .add (nx x2 0) (.int .i64 1)) fun t16_12=>
 r4 [t16_12] [])) (
 K [(.bool true)] [])) [(.int .i64 0)] [])
theorem D7.cl2 {w0:World} {c0 c1:List T} {K:J2} (h:D7.txt ⟨Try.prog,w0⟩ c0 c1 K):Eng.cl2 ⟨Try.prog,w0⟩ 49 D7.sg [] [c0,c1] K:=
 AZ (C:=⟨Try.prog,w0⟩) (f:=49) (fn:=Try.f49) [] [(6,[0,0,3,7,0,0,48,112,255])] [(58,⟨[.t (.f 0) 7, .t (.f 1) 7, .v],[],[]⟩)] Try.func49 (by kernel_rfl) (by kernel_rfl) (by kernel_rfl) h
def D5.sg:Sg:=⟨[(0,[.t 7 0]),(0,[.t 7 0])],[(0,[.v])],[]⟩
def D5.txt (C:Ctx) (c0 c1:List T) (K:J2):Prop:=
 prP (bnI .neq (iv (cnt 7 c0)) (iv (cnt 7 c1))) fun t10_1=>
 AJ t10_1 (
 K [(.bool false)] []) (
 A6 (fun r4 x2 k3=>
 prP (bnI .lss (nx x2 1) (nx x2 0)) fun t14_6=>
 AJ t14_6 (
 ixW (cnt 7 c0) (nx x2 1) fun t18_7=>
 ldg c0 [] ((AB t18_7)*7) [.c, .c, .c, .c, .c, .c, .c] fun ts8=>
 ixW (cnt 7 c1) (nx x2 1) fun t22_9=>
 ldg c1 [] ((AB t22_9)*7) [.c, .c, .c, .c, .c, .c, .c] fun ts10=>
 prP (bnA C.P .neq 68 (.agg #[(tv (nxT ts8 0)),(tv (nxT ts8 1)),(tv (nxT ts8 2)),(tv (nxT ts8 3)),(tv (nxT ts8 4)),(tv (nxT ts8 5)),(tv (nxT ts8 6))]) (.agg #[(tv (nxT ts10 0)),(tv (nxT ts10 1)),(tv (nxT ts10 2)),(tv (nxT ts10 3)),(tv (nxT ts10 4)),(tv (nxT ts10 5)),(tv (nxT ts10 6))])) fun t24_11=>
 AJ t24_11 (
 K [(.bool false)] []) (
 prP (bnI .add (nx x2 1) (.int .i64 1)) fun t25_12=>
 r4 [(nx x2 0),t25_12] [])) (
 K [(.bool true)] [])) [(iv (cnt 7 c0)),(.int .i64 0)] [])
theorem D5.cl2 {w0:World} {c0 c1:List T} {K:J2} (h:D5.txt ⟨Try.prog,w0⟩ c0 c1 K):Eng.cl2 ⟨Try.prog,w0⟩ 51 D5.sg [] [c0,c1] K:=
 AZ (C:=⟨Try.prog,w0⟩) (f:=51) (fn:=Try.f51) [] [(6,[0,0,3,7,0,0,48,112,255])] [(58,⟨[.t (.f 0) 7, .t (.f 1) 7, .v, .v],[],[]⟩)] Try.func51 (by kernel_rfl) (by kernel_rfl) (by kernel_rfl) h
def EG.sg:Sg:=⟨[(0,[.t 1 0])],[(0,[.v])],[]⟩
def EG.txt (C:Ctx) (c0:List T) (K:J2):Prop:=
 cl2 C 17 JA.sg [] [c0] fun v1 d2=>
 AJ (nx v1 0) (
 K [(.bool true)] []) (
 cl2 C 43 DZ.sg [] [c0] fun v4 d5=>
 cl2 C 44 HR.sg [] [(nxc d5 0)] fun v6 d7=>
 cl2 C 45 FM.sg [] [(nxc d5 0),(nxc d7 4)] fun v8 d9=>
 prP (bnI .neq (iv (cnt 7 (nxc d9 0))) (iv (cnt 1 (nxc d7 3)))) fun t29_10=>
 AJ t29_10 (
 K [(.bool false)] []) (
 A6 (fun r13 x11 k12=>
 prP (bnI .lss (nx x11 0) (iv (cnt 7 (nxc k12 2)))) fun t33_15=>
 AJ t33_15 (
 A6 (fun r18 x16 k17=>
 prP (bnI .lss (nx x16 4) (iv (cnt 8 (nxc k17 3)))) fun t40_20=>
 AJ t40_20 (
 BF (fun x22 k23=>
 prP (bnI .add (nx x22 4) (.int .i64 1)) fun t42_38=>
 r18 [(nx x22 0),(nx x22 1),(nx x22 2),(nx x22 3),t42_38] [(nxc k23 0),(nxc k23 1),(nxc k23 2),(nxc k23 3),(nxc k23 4),(nxc k23 5),(nxc k23 6)]) fun j24=>
 ixW (cnt 8 (nxc k17 3)) (nx x16 4) fun t46_25=>
 ldc (nxc k17 3) [] ((AB t46_25)*8) fun t48_26=>
 gE t48_26 (
 gE t48_26 (
 gE t48_26 (
 gP t48_26 true (ixW (cnt 8 (nxc k17 3)) (nx x16 4)) fun t53_27=>
 gE t48_26 (
 gP t48_26 true (ldc (nxc k17 3) [] (((AB t53_27)*8)+2)) fun t55_28=>
 gE t48_26 (
 gP t48_26 true (prP (bnI .eql t55_28 (nx x16 0))) fun t57_29=>
 prP (pk t48_26 t57_29 (.bool false)) fun t58_30=>
 AJ t58_30 (
 ixW (cnt 8 (nxc k17 3)) (nx x16 4) fun t63_31=>
 ldc (nxc k17 3) [] (((AB t63_31)*8)+3) fun t65_32=>
 prP (bnI .add (nx x16 1) t65_32) fun t66_33=>
 ixW (cnt 8 (nxc k17 3)) (nx x16 4) fun t71_34=>
 ldc (nxc k17 3) [] (((AB t71_34)*8)+4) fun t73_35=>
 prP (bnI .add (nx x16 2) t73_35) fun t74_36=>
 prP (bnI .add (nx x16 3) (.int .i64 1)) fun t76_37=>
 j24 [(nx x16 0),t66_33,t74_36,t76_37,(nx x16 4)] [(nxc k17 0),(nxc k17 1),(nxc k17 2),(nxc k17 3),(nxc k17 4),(nxc k17 5),(nxc k17 6)]) (
 j24 [(nx x16 0),(nx x16 1),(nx x16 2),(nx x16 3),(nx x16 4)] [(nxc k17 0),(nxc k17 1),(nxc k17 2),(nxc k17 3),(nxc k17 4),(nxc k17 5),(nxc k17 6)]))))))) (
 ixW (cnt 7 (nxc k17 2)) (nx x16 0) fun t79_39=>
 ldc (nxc k17 2) [] ((AB t79_39)*7) fun t81_40=>
 ixW (cnt 1 (nxc k17 6)) (nx x16 0) fun t85_41=>
 ldc (nxc k17 6) [] ((AB t85_41)*1) fun t86_42=>
 prP (bnS .neq t81_40 t86_42) fun t87_43=>
 gE t87_43 (
 gE t87_43 (
 gP t87_43 false (ixW (cnt 7 (nxc k17 2)) (nx x16 0)) fun t91_44=>
 gP t87_43 false (lda (nxc k17 2) [] ((AB t91_44)*7) [.c, .c, .c, .c, .c, .c, .c]) fun t92_45=>
 gP t87_43 false ((fun K=>cl2 C 46 FP.sg [(agN t92_45 0),(agN t92_45 1),(agN t92_45 2),(agN t92_45 3),(agN t92_45 4),(agN t92_45 5),(agN t92_45 6)] [] fun v46 d47=>K (nx v46 0))) fun t93_48=>
 gE t87_43 (
 gP t87_43 false (prP (bnI .neq t93_48 (nx x16 1))) fun t95_49=>
 prP (pk t87_43 (.bool true) t95_49) fun t96_50=>
 gE t96_50 (
 gE t96_50 (
 gP t96_50 false (ixW (cnt 7 (nxc k17 2)) (nx x16 0)) fun t100_51=>
 gP t96_50 false (lda (nxc k17 2) [] ((AB t100_51)*7) [.c, .c, .c, .c, .c, .c, .c]) fun t101_52=>
 gP t96_50 false ((fun K=>cl2 C 47 EA.sg [(agN t101_52 0),(agN t101_52 1),(agN t101_52 2),(agN t101_52 3),(agN t101_52 4),(agN t101_52 5),(agN t101_52 6)] [] fun v53 d54=>K (nx v53 0))) fun t102_55=>
 gE t96_50 (
 gP t96_50 false (prP (bnI .neq t102_55 (nx x16 2))) fun t104_56=>
 prP (pk t96_50 (.bool true) t104_56) fun t105_57=>
 gE t105_57 (
 gE t105_57 (
 gP t105_57 false (ixW (cnt 7 (nxc k17 2)) (nx x16 0)) fun t109_58=>
 gP t105_57 false (lda (nxc k17 2) [] ((AB t109_58)*7) [.c, .c, .c, .c, .c, .c, .c]) fun t110_59=>
 gP t105_57 false ((fun K=>cl2 C 48 FO.sg [(agN t110_59 0),(agN t110_59 1),(agN t110_59 2),(agN t110_59 3),(agN t110_59 4),(agN t110_59 5),(agN t110_59 6)] [] fun v60 d61=>K (nx v60 0))) fun t111_62=>
 gE t105_57 (
 gP t105_57 false (prP (bnI .neq t111_62 (nx x16 3))) fun t113_63=>
 prP (pk t105_57 (.bool true) t113_63) fun t114_64=>
 AJ t114_64 (
 K [(.bool false)] []) (
 prP (bnI .add (nx x16 0) (.int .i64 1)) fun t35_65=>
 r13 [t35_65] [(nxc k17 0),(nxc k17 1),(nxc k17 2),(nxc k17 3),(nxc k17 4),(nxc k17 5),(nxc k17 6)])))))))))))) [(nx x11 0),(.int .i64 0),(.int .i64 0),(.int .i64 0),(.int .i64 0)] [(nxc k12 0),(nxc k12 1),(nxc k12 2),(nxc k12 3),(nxc k12 4),(nxc k12 5),(nxc k12 6)]) (
 cl2 C 50 FN.sg [] [(nxc k12 0),(nxc k12 1)] fun v66 d67=>
 cl2 C 49 D7.sg [] [(nxc k12 2),(nxc d67 0)] fun v68 d69=>
 gE (nx v68 0) (
 gE (nx v68 0) (
 gP (nx v68 0) true ((fun K=>cl2 C 51 D5.sg [] [(nxc k12 2),(nxc k12 2)] fun v71 d72=>K (nx v71 0))) fun t123_73=>
 prP (pk (nx v68 0) t123_73 (.bool false)) fun t124_74=>
 K [t124_74] [])))) [(.int .i64 0)] [(nxc d5 0),(nxc d7 4),(nxc d9 0),(nxc d7 0),(nxc d7 1),(nxc d7 2),(nxc d7 3)]))
theorem EG.cl2 {w0:World} {c0:List T} {K:J2} (h:EG.txt ⟨Try.prog,w0⟩ c0 K):Eng.cl2 ⟨Try.prog,w0⟩ 6 EG.sg [] [c0] K:=
 AZ (C:=⟨Try.prog,w0⟩) (f:=6) (fn:=Try.f6) [(17,JA.sg),(43,DZ.sg),(44,HR.sg),(45,FM.sg),(46,FP.sg),(47,EA.sg),(48,FO.sg),(50,FN.sg),(49,D7.sg),(51,D5.sg)] [(21,[0,0,3,7,15,0,32,0,224,480,1023,2047,4095,4095,16383,32767,65535,4095,262143,524287,1048575,2097151,2097151,8388607,16777215,33554431,2097151,134217727,268435455,536870911,1073741823,1073741823,4294967295,8589934591,17179869183,1073741823,68719476735,137438953471])] [(4170985,⟨[.t (.j 0) 5, .p (.j 1) 0, .t (.j 2) 3, .t (.j 3) 7, .v, .v, .v, .v, .v],[],[.ls, .bx [.t (.j 4) 8, .t (.j 5) 2, .t (.j 6) 1, .t (.j 7) 1], .ls, .ls, .ls, .ls, .ls, .ls]⟩),(1042746,⟨[.t (.j 0) 5, .p (.j 1) 0, .t (.j 2) 3, .t (.j 3) 7, .v, .v, .v, .v, .v],[],[.ls, .bx [.t (.j 4) 8, .t (.j 5) 2, .t (.j 6) 1, .t (.j 7) 1], .ls, .ls, .ls, .ls, .ls, .ls]⟩),(1018,⟨[.t (.j 0) 5, .p (.j 1) 0, .t (.j 2) 3, .t (.j 3) 7, .v],[],[.ls, .bx [.t (.j 4) 8, .t (.j 5) 2, .t (.j 6) 1, .t (.j 7) 1], .ls, .ls, .ls, .ls, .ls, .ls]⟩)] Try.func6 (by kernel_rfl) (by kernel_rfl) (by kernel_rfl) h
end Go.Proofs.Ytklmcfpgdfibnaa.P
