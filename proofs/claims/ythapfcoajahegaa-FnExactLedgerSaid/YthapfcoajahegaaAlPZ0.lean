/- A part of the proof. -/
import Derived.Test.YthapfcoajahegaaChecked
import Derived.Test.YthapfcoajahegaaAlEngM5
import Derived.KernelRfl
namespace Go.Proofs.Ythapfcoajahegaa.P
open Go Go.Proofs.Ythapfcoajahegaa Go.Proofs.Ythapfcoajahegaa.Eng
set_option linter.unusedVariables false
set_option maxRecDepth 100000
def H2.sg:Sg:=⟨[(1,[.v, .v, .v, .v, .v]),(0,[.v])],[(0,[.v])],[]⟩
def H2.txt (C:Ctx) (a0 a1 a2 a3 a4 a5:Value) (K:J2):Prop:=
 prP (lnS a4) fun t8_1=>
 prP (bnI .sub a5 t8_1) fun t9_2=>
 prP (bnI .lss t9_2 (.int .i64 0)) fun t11_3=>
 AH t11_3 (
 K [(.int .i64 (-1))] []) (
 K [t9_2] [])
theorem H2.cl2 {w0:World} {a0 a1 a2 a3 a4 a5:Value} {K:J2} (h:H2.txt ⟨Try.prog,w0⟩ a0 a1 a2 a3 a4 a5 K):Eng.cl2 ⟨Try.prog,w0⟩ 17 H2.sg [a0,a1,a2,a3,a4,a5] [] K:=
 AL (C:=⟨Try.prog,w0⟩) (f:=17) (fn:=Try.f17) [] [] [] Try.func17 (by kernel_rfl) (by kernel_rfl) (by kernel_rfl) h
def G8.sg:Sg:=⟨[(0,[.t 5 0]),(0,[.v])],[(0,[.v])],[]⟩
def G8.txt (C:Ctx) (a0:Value) (c0:List T) (K:J2):Prop:=
 prP (bnI .sub a0 (iv (cnt 5 c0))) fun t9_1=>
 prP (bnI .lss t9_1 (.int .i64 0)) fun t11_2=>
 AH t11_2 (
 K [(.int .i64 (-1))] []) (
 AP (fun r5 x3 k4=>
 prP (bnI .lss (nx x3 1) (iv (cnt 5 c0))) fun t15_7=>
 AH t15_7 (
 ixW (cnt 5 c0) (nx x3 1) fun t20_8=>
 ldg c0 [] ((AB t20_8)*5) [.c, .c, .c, .c, .c] fun ts9=>
 cl2 C 17 H2.sg [(tv (nxT ts9 0)),(tv (nxT ts9 1)),(tv (nxT ts9 2)),(tv (nxT ts9 3)),(tv (nxT ts9 4)),(nx x3 0)] [] fun v10 d11=>
 prP (bnI .lss (nx v10 0) (.int .i64 0)) fun t25_13=>
 AH t25_13 (
 K [(.int .i64 (-1))] []) (
 prP (bnI .add (nx x3 1) (.int .i64 1)) fun t17_14=>
 r5 [(nx v10 0),t17_14] [])) (
 K [(nx x3 0)] [])) [t9_1,(.int .i64 0)] [])
theorem G8.cl2 {w0:World} {a0:Value} {c0:List T} {K:J2} (h:G8.txt ⟨Try.prog,w0⟩ a0 c0 K):Eng.cl2 ⟨Try.prog,w0⟩ 4 G8.sg [a0] [c0] K:=
 AL (C:=⟨Try.prog,w0⟩) (f:=4) (fn:=Try.f4) [(17,H2.sg)] [] [(122,⟨[.t (.f 0) 5, .v, .v],[],[]⟩)] Try.func4 (by kernel_rfl) (by kernel_rfl) (by kernel_rfl) h
def F5.sg:Sg:=⟨[(0,[.t 1 0]),(0,[.v])],[(0,[.v])],[]⟩
def F5.txt (C:Ctx) (a0:Value) (c0:List T) (K:J2):Prop:=
 prP (bnI .sub a0 (iv (cnt 1 c0))) fun t8_1=>
 prP (bnI .lss t8_1 (.int .i64 0)) fun t10_2=>
 AH t10_2 (
 K [(.int .i64 (-1))] []) (
 K [t8_1] [])
theorem F5.cl2 {w0:World} {a0:Value} {c0:List T} {K:J2} (h:F5.txt ⟨Try.prog,w0⟩ a0 c0 K):Eng.cl2 ⟨Try.prog,w0⟩ 29 F5.sg [a0] [c0] K:=
 AL (C:=⟨Try.prog,w0⟩) (f:=29) (fn:=Try.f29) [] [] [] Try.func29 (by kernel_rfl) (by kernel_rfl) (by kernel_rfl) h
def DY.sg:Sg:=⟨[(1,[.v, .v, .t 1 0]),(0,[.v])],[(0,[.v])],[]⟩
def DY.txt (C:Ctx) (a0 a1 a2:Value) (c0:List T) (K:J2):Prop:=
 cl2 C 29 F5.sg [a2] [c0] fun v1 d2=>
 prP (bnI .lss (nx v1 0) (.int .i64 0)) fun t10_4=>
 AH t10_4 (
 K [(.int .i64 (-1))] []) (
 K [(nx v1 0)] [])
theorem DY.cl2 {w0:World} {a0 a1 a2:Value} {c0:List T} {K:J2} (h:DY.txt ⟨Try.prog,w0⟩ a0 a1 a2 c0 K):Eng.cl2 ⟨Try.prog,w0⟩ 18 DY.sg [a0,a1,a2] [c0] K:=
 AL (C:=⟨Try.prog,w0⟩) (f:=18) (fn:=Try.f18) [(29,F5.sg)] [] [] Try.func18 (by kernel_rfl) (by kernel_rfl) (by kernel_rfl) h
def DB.sg:Sg:=⟨[(0,[.t 3 0]),(0,[.v])],[(0,[.v])],[]⟩
def DB.txt (C:Ctx) (a0:Value) (c0:List T) (K:J2):Prop:=
 prP (bnI .sub a0 (iv (cnt 3 c0))) fun t9_1=>
 prP (bnI .lss t9_1 (.int .i64 0)) fun t11_2=>
 AH t11_2 (
 K [(.int .i64 (-1))] []) (
 AP (fun r5 x3 k4=>
 prP (bnI .lss (nx x3 1) (iv (cnt 3 c0))) fun t15_7=>
 AH t15_7 (
 ixW (cnt 3 c0) (nx x3 1) fun t20_8=>
 ldg c0 [] ((AB t20_8)*3) [.c, .c, .l 1] fun ts9=>
 cl2 C 18 DY.sg [(tv (nxT ts9 0)),(tv (nxT ts9 1)),(nx x3 0)] [(LM c0 [(((AB t20_8)*3)+2)])] fun v10 d11=>
 prP (bnI .lss (nx v10 0) (.int .i64 0)) fun t25_13=>
 AH t25_13 (
 K [(.int .i64 (-1))] []) (
 prP (bnI .add (nx x3 1) (.int .i64 1)) fun t17_14=>
 r5 [(nx v10 0),t17_14] [])) (
 K [(nx x3 0)] [])) [t9_1,(.int .i64 0)] [])
theorem DB.cl2 {w0:World} {a0:Value} {c0:List T} {K:J2} (h:DB.txt ⟨Try.prog,w0⟩ a0 c0 K):Eng.cl2 ⟨Try.prog,w0⟩ 5 DB.sg [a0] [c0] K:=
 AL (C:=⟨Try.prog,w0⟩) (f:=5) (fn:=Try.f5) [(18,DY.sg)] [] [(122,⟨[.t (.f 0) 3, .v, .v],[],[]⟩)] Try.func5 (by kernel_rfl) (by kernel_rfl) (by kernel_rfl) h
def JA.sg:Sg:=⟨[(1,[.v, .v, .v, .v, .v])],[(1,[.v, .v, .v, .v, .v])],[]⟩
def JA.txt (C:Ctx) (a0 a1 a2 a3 a4:Value) (K:J2):Prop:=
 K [a0,a1,a2,a3,a4] []
theorem JA.cl2 {w0:World} {a0 a1 a2 a3 a4:Value} {K:J2} (h:JA.txt ⟨Try.prog,w0⟩ a0 a1 a2 a3 a4 K):Eng.cl2 ⟨Try.prog,w0⟩ 21 JA.sg [a0,a1,a2,a3,a4] [] K:=
 AL (C:=⟨Try.prog,w0⟩) (f:=21) (fn:=Try.f21) [] [] [] Try.func21 (by kernel_rfl) (by kernel_rfl) (by kernel_rfl) h
def EN.sg:Sg:=⟨[(0,[.t 5 0])],[(0,[.t 5])],[]⟩
def EN.txt (C:Ctx) (c0:List T) (K:J2):Prop:=
 mkW 48 (iv (cnt 5 c0)) (iv (cnt 5 c0)) fun n1=>
 AP (fun r4 x2 k3=>
 prP (bnI .lss (nx x2 0) (iv (cnt 5 c0))) fun t11_6=>
 AH t11_6 (
 ixW (cnt 5 c0) (nx x2 0) fun t18_7=>
 ldg c0 [] ((AB t18_7)*5) [.c, .c, .c, .c, .c] fun ts8=>
 cl2 C 21 JA.sg [(tv (nxT ts8 0)),(tv (nxT ts8 1)),(tv (nxT ts8 2)),(tv (nxT ts8 3)),(tv (nxT ts8 4))] [] fun v9 d10=>
 ixW (cnt 5 (nxc k3 0)) (nx x2 0) fun t21_11=>
 stg (nxc k3 0) [] ((AB t21_11)*5) [T.c (nx v9 0),T.c (nx v9 1),T.c (nx v9 2),T.c (nx v9 3),T.c (nx v9 4)] fun k12=>
 prP (bnI .add (nx x2 0) (.int .i64 1)) fun t13_13=>
 r4 [t13_13] [k12]) (
 K [] [(nxc k3 0)])) [(.int .i64 0)] [(RZ (AB n1) [T.c (.int .i64 0),T.c (.int .i64 0),T.c (.int .i64 0),T.c (.int .i64 0),T.c (.string {data:= #[]})])]
theorem EN.cl2 {w0:World} {c0:List T} {K:J2} (h:EN.txt ⟨Try.prog,w0⟩ c0 K):Eng.cl2 ⟨Try.prog,w0⟩ 7 EN.sg [] [c0] K:=
 AL (C:=⟨Try.prog,w0⟩) (f:=7) (fn:=Try.f7) [(21,JA.sg)] [] [(58,⟨[.t (.f 0) 5, .t (.j 0) 5, .v],[],[.ls]⟩)] Try.func7 (by kernel_rfl) (by kernel_rfl) (by kernel_rfl) h
def FA.sg:Sg:=⟨[(0,[.t 1 0])],[(0,[.t 1])],[]⟩
def FA.txt (C:Ctx) (c0:List T) (K:J2):Prop:=
 mkW 8 (iv (cnt 1 c0)) (iv (cnt 1 c0)) fun n1=>
 AP (fun r4 x2 k3=>
 prP (bnI .lss (nx x2 0) (iv (cnt 1 c0))) fun t11_6=>
 AH t11_6 (
 ixW (cnt 1 c0) (nx x2 0) fun t18_7=>
 ldc c0 [] ((AB t18_7)*1) fun t19_8=>
 ixW (cnt 1 (nxc k3 0)) (nx x2 0) fun t20_9=>
 stc (nxc k3 0) [] ((AB t20_9)*1) t19_8 fun k10=>
 prP (bnI .add (nx x2 0) (.int .i64 1)) fun t13_11=>
 r4 [t13_11] [k10]) (
 K [] [(nxc k3 0)])) [(.int .i64 0)] [(RZ (AB n1) [T.c (.int .i64 0)])]
theorem FA.cl2 {w0:World} {c0:List T} {K:J2} (h:FA.txt ⟨Try.prog,w0⟩ c0 K):Eng.cl2 ⟨Try.prog,w0⟩ 30 FA.sg [] [c0] K:=
 AL (C:=⟨Try.prog,w0⟩) (f:=30) (fn:=Try.f30) [] [] [(58,⟨[.t (.f 0) 1, .t (.j 0) 1, .v],[],[.ls]⟩)] Try.func30 (by kernel_rfl) (by kernel_rfl) (by kernel_rfl) h
def EZ.sg:Sg:=⟨[(1,[.v, .v, .t 1 0])],[(1,[.v, .v, .t 1])],[]⟩
def EZ.txt (C:Ctx) (a0 a1:Value) (c0:List T) (K:J2):Prop:=
 cl2 C 30 FA.sg [] [c0] fun v1 d2=>
 K [a0,a1] [(nxc d2 0)]
theorem EZ.cl2 {w0:World} {a0 a1:Value} {c0:List T} {K:J2} (h:EZ.txt ⟨Try.prog,w0⟩ a0 a1 c0 K):Eng.cl2 ⟨Try.prog,w0⟩ 22 EZ.sg [a0,a1] [c0] K:=
 AL (C:=⟨Try.prog,w0⟩) (f:=22) (fn:=Try.f22) [(30,FA.sg)] [] [] Try.func22 (by kernel_rfl) (by kernel_rfl) (by kernel_rfl) h
def BT.sg:Sg:=⟨[(0,[.t 3 0])],[(0,[.t 3])],[]⟩
def BT.txt (C:Ctx) (c0:List T) (K:J2):Prop:=
 mkW 40 (iv (cnt 3 c0)) (iv (cnt 3 c0)) fun n1=>
 AP (fun r4 x2 k3=>
 prP (bnI .lss (nx x2 0) (iv (cnt 3 c0))) fun t11_6=>
 AH t11_6 (
 ixW (cnt 3 c0) (nx x2 0) fun t18_7=>
 ldg c0 [] ((AB t18_7)*3) [.c, .c, .l 1] fun ts8=>
 cl2 C 22 EZ.sg [(tv (nxT ts8 0)),(tv (nxT ts8 1))] [(LM c0 [(((AB t18_7)*3)+2)])] fun v9 d10=>
 ixW (cnt 3 (nxc k3 0)) (nx x2 0) fun t21_11=>
 stg (nxc k3 0) [] ((AB t21_11)*3) [T.c (nx v9 0),T.c (nx v9 1),T.l 1 (nxc d10 0)] fun k12=>
 prP (bnI .add (nx x2 0) (.int .i64 1)) fun t13_13=>
 r4 [t13_13] [k12]) (
 K [] [(nxc k3 0)])) [(.int .i64 0)] [(RZ (AB n1) [T.c (.int .i64 0),T.c (.int .i64 0),T.l 1 []])]
theorem BT.cl2 {w0:World} {c0:List T} {K:J2} (h:BT.txt ⟨Try.prog,w0⟩ c0 K):Eng.cl2 ⟨Try.prog,w0⟩ 8 BT.sg [] [c0] K:=
 AL (C:=⟨Try.prog,w0⟩) (f:=8) (fn:=Try.f8) [(22,EZ.sg)] [] [(58,⟨[.t (.f 0) 3, .t (.j 0) 3, .v],[],[.ls]⟩)] Try.func8 (by kernel_rfl) (by kernel_rfl) (by kernel_rfl) h
def D5.sg:Sg:=⟨[(0,[.t 5 0]),(0,[.t 3 0]),(0,[.v]),(0,[.v])],[(0,[.v]),(0,[.v])],[]⟩
def D5.txt (C:Ctx) (a0 a1:Value) (c0 c1:List T) (K:J2):Prop:=
 AP (fun r3 x1 k2=>
 prP (bnI .lss (nx x1 4) (nx x1 0)) fun t15_5=>
 gE t15_5 (
 gE t15_5 (
 gE t15_5 (
 gP t15_5 true (prP (bnI .lss (nx x1 4) (iv (cnt 3 c1)))) fun t20_6=>
 prP (pk t15_5 t20_6 (.bool false)) fun t21_7=>
 AH t21_7 (
 AX (fun x9 k10=>
 prP (bnI .add (nx x9 4) (.int .i64 1)) fun t23_25=>
 r3 [(nx x9 0),(nx x9 1),(nx x9 2),(nx x9 3),t23_25] []) fun j11=>
 ixW (cnt 5 c0) (nx x1 4) fun t26_12=>
 ldc c0 [] ((AB t26_12)*5) fun t28_13=>
 prP (bnI .eql t28_13 (.int .i64 1)) fun t29_14=>
 gE t29_14 (
 gE t29_14 (
 gP t29_14 true (ixW (cnt 3 c1) (nx x1 4)) fun t33_15=>
 gE t29_14 (
 gP t29_14 true (ldc c1 [] ((AB t33_15)*3)) fun t35_16=>
 gP t29_14 true (prP (bnI .eql t35_16 (.int .i64 0))) fun t36_17=>
 prP (pk t29_14 t36_17 (.bool false)) fun t37_18=>
 gE t37_18 (
 gE t37_18 (
 gP t37_18 true (ixW (cnt 3 c1) (nx x1 4)) fun t41_19=>
 gE t37_18 (
 gP t37_18 true (ldc c1 [] (((AB t41_19)*3)+1)) fun t43_20=>
 gE t37_18 (
 gP t37_18 true (prP (bnI .eql t43_20 (nx x1 1))) fun t45_21=>
 prP (pk t37_18 t45_21 (.bool false)) fun t46_22=>
 AH t46_22 (
 ixW (cnt 5 c0) (nx x1 4) fun t49_23=>
 ldc c0 [] (((AB t49_23)*5)+4) fun t51_24=>
 j11 [(nx x1 0),(nx x1 1),t51_24,(.bool true),(nx x1 4)] []) (
 j11 [(nx x1 0),(nx x1 1),(nx x1 2),(nx x1 3),(nx x1 4)] []))))))))) (
 K [(nx x1 2),(nx x1 3)] []))))) [a0,a1,(.string {data:= #[]}),(.bool false),(.int .i64 0)] []
theorem D5.cl2 {w0:World} {a0 a1:Value} {c0 c1:List T} {K:J2} (h:D5.txt ⟨Try.prog,w0⟩ a0 a1 c0 c1 K):Eng.cl2 ⟨Try.prog,w0⟩ 19 D5.sg [a0,a1] [c0,c1] K:=
 AL (C:=⟨Try.prog,w0⟩) (f:=19) (fn:=Try.f19) [] [] [(489,⟨[.t (.f 0) 5, .t (.f 1) 3, .v, .v, .v, .v, .v],[],[]⟩),(122,⟨[.t (.f 0) 5, .t (.f 1) 3, .v, .v, .v, .v, .v],[],[]⟩)] Try.func19 (by kernel_rfl) (by kernel_rfl) (by kernel_rfl) h
def DD.sg:Sg:=⟨[(0,[.t 7 0]),(0,[.v])],[(0,[.v])],[]⟩
def DD.txt (C:Ctx) (a0:Value) (c0:List T) (K:J2):Prop:=
 AP (fun r3 x1 k2=>
 prP (bnI .lss (nx x1 1) (iv (cnt 7 c0))) fun t9_5=>
 AH t9_5 (
 ixW (cnt 7 c0) (nx x1 1) fun t14_6=>
 ldc c0 [] ((AB t14_6)*7) fun t16_7=>
 prP (bnS .eql t16_7 (nx x1 0)) fun t18_8=>
 AH t18_8 (
 K [(nx x1 1)] []) (
 prP (bnI .add (nx x1 1) (.int .i64 1)) fun t11_9=>
 r3 [(nx x1 0),t11_9] [])) (
 K [(iv (cnt 7 c0))] [])) [a0,(.int .i64 0)] []
theorem DD.cl2 {w0:World} {a0:Value} {c0:List T} {K:J2} (h:DD.txt ⟨Try.prog,w0⟩ a0 c0 K):Eng.cl2 ⟨Try.prog,w0⟩ 20 DD.sg [a0] [c0] K:=
 AL (C:=⟨Try.prog,w0⟩) (f:=20) (fn:=Try.f20) [] [] [(26,⟨[.t (.f 0) 7, .v, .v],[],[]⟩)] Try.func20 (by kernel_rfl) (by kernel_rfl) (by kernel_rfl) h
def FW.sg:Sg:=⟨[(0,[.t 5 0]),(0,[.t 3 0])],[(0,[.t 7])],[]⟩
def FW.txt (C:Ctx) (c0 c1:List T) (K:J2):Prop:=
 AP (fun r3 x1 k2=>
 prP (bnI .lss (nx x1 0) (iv (cnt 5 c0))) fun t18_5=>
 gE t18_5 (
 gE t18_5 (
 gE t18_5 (
 gP t18_5 true (prP (bnI .lss (nx x1 0) (iv (cnt 3 c1)))) fun t23_6=>
 prP (pk t18_5 t23_6 (.bool false)) fun t24_7=>
 AH t24_7 (
 AX (fun x9 k10=>
 prP (bnI .add (nx x9 0) (.int .i64 1)) fun t26_101=>
 r3 [t26_101] [(nxc k10 0)]) fun j11=>
 ixW (cnt 3 c1) (nx x1 0) fun t29_12=>
 ldc c1 [] ((AB t29_12)*3) fun t31_13=>
 prP (bnI .neq t31_13 (.int .i64 0)) fun t32_14=>
 AH t32_14 (
 j11 [(nx x1 0)] [(nxc k2 0)]) (
 ixW (cnt 5 c0) (nx x1 0) fun t39_15=>
 ldc c0 [] (((AB t39_15)*5)+1) fun t41_16=>
 cl2 C 19 D5.sg [(nx x1 0),t41_16] [c0,c1] fun v17 d18=>
 AX (fun x20 k21=>
 cl2 C 20 DD.sg [(nx x20 1)] [(nxc k21 0)] fun v32 d33=>
 AX (fun x36 k37=>
 AP (fun r75 x73 k74=>
 ixW (cnt 3 c1) (nx x73 0) fun t145_77=>
 ldl c1 [] (((AB t145_77)*3)+2) 1 fun t147_78=>
 prP (bnI .lss (nx x73 1) (iv (cnt 1 (LM c1 [(((AB t145_77)*3)+2)])))) fun t149_79=>
 AH t149_79 (
 AX (fun x81 k82=>
 prP (bnI .add (nx x81 1) (.int .i64 1)) fun t151_100=>
 r75 [(nx x81 0),t151_100] [(nxc k82 0)]) fun j83=>
 ixW (cnt 3 c1) (nx x73 0) fun t158_84=>
 ldl c1 [] (((AB t158_84)*3)+2) 1 fun t160_85=>
 ixW (cnt 1 (LM c1 [(((AB t158_84)*3)+2)])) (nx x73 1) fun t162_86=>
 ldc c1 [(((AB t158_84)*3)+2)] ((AB t162_86)*1) fun t163_87=>
 cl2 C 19 D5.sg [(nx x73 0),t163_87] [c0,c1] fun v88 d89=>
 cl2 C 20 DD.sg [(nx v88 0)] [(nxc k74 0)] fun v90 d91=>
 gE (nx v88 1) (
 gE (nx v88 1) (
 gE (nx v88 1) (
 gP (nx v88 1) true (prP (bnI .lss (nx v90 0) (iv (cnt 7 (nxc k74 0))))) fun t175_93=>
 prP (pk (nx v88 1) t175_93 (.bool false)) fun t176_94=>
 AH t176_94 (
 ixW (cnt 7 (nxc k74 0)) (nx v90 0) fun t181_95=>
 ldc (nxc k74 0) [] (((AB t181_95)*7)+6) fun t183_96=>
 prP (bnI .add t183_96 (.int .i64 1)) fun t184_97=>
 ixW (cnt 7 (nxc k74 0)) (nx v90 0) fun t185_98=>
 stc (nxc k74 0) [] (((AB t185_98)*7)+6) t184_97 fun k99=>
 j83 [(nx x73 0),(nx x73 1)] [k99]) (
 j83 [(nx x73 0),(nx x73 1)] [(nxc k74 0)]))))) (
 j11 [(nx x73 0)] [(nxc k74 0)])) [(nx x36 0),(.int .i64 0)] [(nxc k37 0)]) fun j38=>
 gE (nx x20 2) (
 gE (nx x20 2) (
 gE (nx x20 2) (
 gP (nx x20 2) true (prP (bnI .lss (nx v32 0) (iv (cnt 7 (nxc k21 0))))) fun t75_39=>
 prP (pk (nx x20 2) t75_39 (.bool false)) fun t76_40=>
 AH t76_40 (
 ixW (cnt 5 c0) (nx x20 0) fun t79_41=>
 ldc c0 [] ((AB t79_41)*5) fun t81_42=>
 prP (bnI .eql t81_42 (.int .i64 1)) fun t83_43=>
 AH t83_43 (
 ixW (cnt 7 (nxc k21 0)) (nx v32 0) fun t88_44=>
 ldc (nxc k21 0) [] (((AB t88_44)*7)+1) fun t90_45=>
 prP (bnI .add t90_45 (.int .i64 1)) fun t91_46=>
 ixW (cnt 7 (nxc k21 0)) (nx v32 0) fun t92_47=>
 stc (nxc k21 0) [] (((AB t92_47)*7)+1) t91_46 fun k48=>
 j38 [(nx x20 0)] [k48]) (
 prP (bnI .eql t81_42 (.int .i64 2)) fun t95_49=>
 AH t95_49 (
 ixW (cnt 7 (nxc k21 0)) (nx v32 0) fun t100_50=>
 ldc (nxc k21 0) [] (((AB t100_50)*7)+2) fun t102_51=>
 prP (bnI .add t102_51 (.int .i64 1)) fun t103_52=>
 ixW (cnt 7 (nxc k21 0)) (nx v32 0) fun t104_53=>
 stc (nxc k21 0) [] (((AB t104_53)*7)+2) t103_52 fun k54=>
 j38 [(nx x20 0)] [k54]) (
 prP (bnI .eql t81_42 (.int .i64 3)) fun t107_55=>
 AH t107_55 (
 ixW (cnt 7 (nxc k21 0)) (nx v32 0) fun t112_56=>
 ldc (nxc k21 0) [] (((AB t112_56)*7)+3) fun t114_57=>
 prP (bnI .add t114_57 (.int .i64 1)) fun t115_58=>
 ixW (cnt 7 (nxc k21 0)) (nx v32 0) fun t116_59=>
 stc (nxc k21 0) [] (((AB t116_59)*7)+3) t115_58 fun k60=>
 j38 [(nx x20 0)] [k60]) (
 prP (bnI .eql t81_42 (.int .i64 5)) fun t119_61=>
 AH t119_61 (
 ixW (cnt 7 (nxc k21 0)) (nx v32 0) fun t124_62=>
 ldc (nxc k21 0) [] (((AB t124_62)*7)+4) fun t126_63=>
 prP (bnI .add t126_63 (.int .i64 1)) fun t127_64=>
 ixW (cnt 7 (nxc k21 0)) (nx v32 0) fun t128_65=>
 stc (nxc k21 0) [] (((AB t128_65)*7)+4) t127_64 fun k66=>
 j38 [(nx x20 0)] [k66]) (
 prP (bnI .eql t81_42 (.int .i64 6)) fun t131_67=>
 AH t131_67 (
 ixW (cnt 7 (nxc k21 0)) (nx v32 0) fun t136_68=>
 ldc (nxc k21 0) [] (((AB t136_68)*7)+5) fun t138_69=>
 prP (bnI .add t138_69 (.int .i64 1)) fun t139_70=>
 ixW (cnt 7 (nxc k21 0)) (nx v32 0) fun t140_71=>
 stc (nxc k21 0) [] (((AB t140_71)*7)+5) t139_70 fun k72=>
 j38 [(nx x20 0)] [k72]) (
 j38 [(nx x20 0)] [(nxc k21 0)])))))) (
 j38 [(nx x20 0)] [(nxc k21 0)]))))) fun j22=>
 ixW (cnt 5 c0) (nx x1 0) fun t47_23=>
 ldc c0 [] ((AB t47_23)*5) fun t49_24=>
 prP (bnI .eql t49_24 (.int .i64 1)) fun t50_25=>
 AH t50_25 (
 ixW (cnt 5 c0) (nx x1 0) fun t53_26=>
 ldc c0 [] (((AB t53_26)*5)+4) fun t55_27=>
 cl2 C 20 DD.sg [t55_27] [(nxc k2 0)] fun v28 d29=>
 prP (bnI .eql (nx v28 0) (iv (cnt 7 (nxc k2 0)))) fun t61_31=>
 AH t61_31 (
 apW [T.c t55_27,T.c (.int .i64 0),T.c (.int .i64 0),T.c (.int .i64 0),T.c (.int .i64 0),T.c (.int .i64 0),T.c (.int .i64 0)] true (cnt 7 (nxc k2 0)) (cnt 7 [T.c t55_27,T.c (.int .i64 0),T.c (.int .i64 0),T.c (.int .i64 0),T.c (.int .i64 0),T.c (.int .i64 0),T.c (.int .i64 0)]) 64 (
 j22 [(nx x1 0),t55_27,(.bool true)] [((nxc k2 0)++[T.c t55_27,T.c (.int .i64 0),T.c (.int .i64 0),T.c (.int .i64 0),T.c (.int .i64 0),T.c (.int .i64 0),T.c (.int .i64 0)])])) (
 j22 [(nx x1 0),t55_27,(.bool true)] [(nxc k2 0)])) (
 j22 [(nx x1 0),(nx v17 0),(nx v17 1)] [(nxc k2 0)]))) (
 K [] [(nxc k2 0)]))))) [(.int .i64 0)] [[]]
theorem FW.cl2 {w0:World} {c0 c1:List T} {K:J2} (h:FW.txt ⟨Try.prog,w0⟩ c0 c1 K):Eng.cl2 ⟨Try.prog,w0⟩ 6 FW.sg [] [c0,c1] K:=
 AL (C:=⟨Try.prog,w0⟩) (f:=6) (fn:=Try.f6) [(19,D5.sg),(20,DD.sg)] [] [(3731,⟨[.t (.f 0) 5, .t (.f 1) 3, .t (.j 0) 7, .v, .v, .v],[],[.ls]⟩),(14927,⟨[.t (.f 0) 5, .t (.f 1) 3, .t (.j 0) 7, .v],[],[.ls]⟩),(477689,⟨[.t (.f 0) 5, .t (.f 1) 3, .t (.j 0) 7, .v, .v],[],[.ls]⟩),(119422,⟨[.t (.f 0) 5, .t (.f 1) 3, .t (.j 0) 7, .v, .v],[],[.ls]⟩),(233,⟨[.t (.f 0) 5, .t (.f 1) 3, .t (.j 0) 7, .v],[],[.ls]⟩),(58,⟨[.t (.f 0) 5, .t (.f 1) 3, .t (.j 0) 7, .v],[],[.ls]⟩)] Try.func6 (by kernel_rfl) (by kernel_rfl) (by kernel_rfl) h
def BI.sg:Sg:=⟨[(2,[.t 7 0, .t 2 0]),(0,[.v])],[(0,[.r 0])],[[.a 0, .a 1]]⟩
def BI.txt (C:Ctx) (a0:Value) (c0 c1:List T) (K:J2):Prop:=
 AP (fun r3 x1 k2=>
 prP (bnI .lss (nx x1 2) (nx x1 1)) fun t12_5=>
 AH t12_5 (
 ixW (cnt 7 c0) (nx x1 2) fun t19_6=>
 ldc c0 [] ((AB t19_6)*7) fun t21_7=>
 prP (bnS .eql t21_7 (nx x1 0)) fun t23_8=>
 AH t23_8 (
 ixW (cnt 7 c0) (nx x1 2) fun t29_9=>
 K [(iv ((AB t29_9)*7))] []) (
 prP (bnI .add (nx x1 2) (.int .i64 1)) fun t30_10=>
 r3 [(nx x1 0),(nx x1 1),t30_10] [])) (
 K [(.int .i64 (-1))] [])) [a0,(iv (cnt 7 c0)),(.int .i64 0)] []
theorem BI.cl2 {w0:World} {a0:Value} {c0 c1:List T} {K:J2} (h:BI.txt ⟨Try.prog,w0⟩ a0 c0 c1 K):Eng.cl2 ⟨Try.prog,w0⟩ 34 BI.sg [a0] [c0,c1] K:=
 AL (C:=⟨Try.prog,w0⟩) (f:=34) (fn:=Try.f34) [] [] [(26,⟨[.p (.j 0) 0, .v, .v, .v],[.p (.j 0) 0, .t (.f 0) 7, .t (.f 1) 2],[.bx [.t (.f 0) 7, .t (.f 1) 2]]⟩)] Try.func34 (by kernel_rfl) (by kernel_rfl) (by kernel_rfl) h
def CO.sg:Sg:=⟨[(2,[.t 7 0, .t 2 0]),(0,[.v])],[(0,[.r 0])],[[.a 0, .a 1]]⟩
def CO.txt (C:Ctx) (a0:Value) (c0 c1:List T) (K:J2):Prop:=
 prP (bnI .sub (iv (cnt 2 c1)) (.int .i64 1)) fun t11_1=>
 AP (fun r4 x2 k3=>
 prP (bnI .geq (nx x2 1) (.int .i64 0)) fun t13_6=>
 AH t13_6 (
 ixW (cnt 2 c1) (nx x2 1) fun t21_7=>
 ldc c1 [] ((AB t21_7)*2) fun t23_8=>
 prP (bnI .eql t23_8 (nx x2 0)) fun t25_9=>
 AH t25_9 (
 ixW (cnt 2 c1) (nx x2 1) fun t32_10=>
 ldc c1 [] (((AB t32_10)*2)+1) fun t34_11=>
 cl2 C 34 BI.sg [t34_11] [c0,c1] fun v12 d13=>
 K [(nx v12 0)] []) (
 prP (bnI .sub (nx x2 1) (.int .i64 1)) fun t15_14=>
 r4 [(nx x2 0),t15_14] [])) (
 K [(.int .i64 (-1))] [])) [a0,t11_1] []
theorem CO.cl2 {w0:World} {a0:Value} {c0 c1:List T} {K:J2} (h:CO.txt ⟨Try.prog,w0⟩ a0 c0 c1 K):Eng.cl2 ⟨Try.prog,w0⟩ 31 CO.sg [a0] [c0,c1] K:=
 AL (C:=⟨Try.prog,w0⟩) (f:=31) (fn:=Try.f31) [(34,BI.sg)] [] [(26,⟨[.p (.j 0) 0, .v, .v],[.p (.j 0) 0, .t (.f 0) 7, .t (.f 1) 2],[.bx [.t (.f 0) 7, .t (.f 1) 2]]⟩)] Try.func31 (by kernel_rfl) (by kernel_rfl) (by kernel_rfl) h
def CY.sg:Sg:=⟨[(2,[.t 7 2, .t 2 2]),(0,[.v]),(0,[.v])],[],[[.t 7, .t 2]]⟩
def CY.txt (C:Ctx) (a0 a1:Value) (c0 c1:List T) (K:J2):Prop:=
 apW [T.c a1,T.c a0] true (cnt 2 c1) (cnt 2 [T.c a1,T.c a0]) 24 (
 AX (fun x2 k3=>
 cl2 C 34 BI.sg [(nx x2 0)] [(nxc k3 0),(nxc k3 1)] fun v8 d9=>
 ofW (nx v8 0) fun t36_10=>
 ldc (nxc k3 0) [] ((AB t36_10)+1) fun t38_11=>
 prP (bnI .add t38_11 (.int .i64 1)) fun t39_12=>
 ofW (nx v8 0) fun t40_13=>
 stc (nxc k3 0) [] ((AB t40_13)+1) t39_12 fun k14=>
 K [] [k14,(nxc k3 1)]) fun j4=>
 cl2 C 34 BI.sg [a0] [c0,(c1++[T.c a1,T.c a0])] fun v5 d6=>
 prP (bnM .eql (nx v5 0)) fun t21_7=>
 AH t21_7 (
 apW [T.c a0,T.c (.int .i64 0),T.c (.int .i64 0),T.c (.int .i64 0),T.c (.int .i64 0),T.c (.int .i64 0),T.c (.int .i64 0)] true (cnt 7 c0) (cnt 7 [T.c a0,T.c (.int .i64 0),T.c (.int .i64 0),T.c (.int .i64 0),T.c (.int .i64 0),T.c (.int .i64 0),T.c (.int .i64 0)]) 64 (
 j4 [a0] [(c0++[T.c a0,T.c (.int .i64 0),T.c (.int .i64 0),T.c (.int .i64 0),T.c (.int .i64 0),T.c (.int .i64 0),T.c (.int .i64 0)]),(c1++[T.c a1,T.c a0])])) (
 j4 [a0] [c0,(c1++[T.c a1,T.c a0])]))
theorem CY.cl2 {w0:World} {a0 a1:Value} {c0 c1:List T} {K:J2} (h:CY.txt ⟨Try.prog,w0⟩ a0 a1 c0 c1 K):Eng.cl2 ⟨Try.prog,w0⟩ 32 CY.sg [a0,a1] [c0,c1] K:=
 AL (C:=⟨Try.prog,w0⟩) (f:=32) (fn:=Try.f32) [(34,BI.sg)] [] [(3,⟨[.p (.j 0) 0, .v],[.p (.j 0) 0],[.bx [.t (.j 1) 7, .t (.j 2) 2], .ls, .ls]⟩)] Try.func32 (by kernel_rfl) (by kernel_rfl) (by kernel_rfl) h
def CX.sg:Sg:=⟨[(2,[.t 7 2, .t 2 2]),(1,[.v, .v, .v, .v, .v]),(1,[.v, .v, .t 1 0])],[],[[.t 7, .t 2]]⟩
def CX.txt (C:Ctx) (a0 a1 a2 a3 a4 a5 a6:Value) (c0 c1 c2:List T) (K:J2):Prop:=
 AX (fun x2 k3=>
 AP (fun r34 x32 k33=>
 prP (bnI .lss (nx x32 1) (nx x32 0)) fun t58_36=>
 AH t58_36 (
 AX (fun x38 k39=>
 prP (bnI .add (nx x38 1) (.int .i64 1)) fun t73_51=>
 r34 [(nx x38 0),t73_51,(nx x38 2),(nx x38 3),(nx x38 4),(nx x38 5),(nx x38 6),(nx x38 7),(nx x38 8)] [(nxc k39 0),(nxc k39 1)]) fun j40=>
 ixW (cnt 1 c2) (nx x32 1) fun t59_41=>
 ldc c2 [] ((AB t59_41)*1) fun t60_42=>
 cl2 C 31 CO.sg [t60_42] [(nxc k33 0),(nxc k33 1)] fun v43 d44=>
 prP (bnM .neq (nx v43 0)) fun t65_45=>
 AH t65_45 (
 ofW (nx v43 0) fun t67_46=>
 ldc (nxc k33 0) [] ((AB t67_46)+6) fun t69_47=>
 prP (bnI .add t69_47 (.int .i64 1)) fun t70_48=>
 ofW (nx v43 0) fun t71_49=>
 stc (nxc k33 0) [] ((AB t71_49)+6) t70_48 fun k50=>
 j40 [(nx x32 0),(nx x32 1),(nx x32 2),(nx x32 3),(nx x32 4),(nx x32 5),(nx x32 6),(nx x32 7),(nx x32 8)] [k50,(nxc k33 1)]) (
 j40 [(nx x32 0),(nx x32 1),(nx x32 2),(nx x32 3),(nx x32 4),(nx x32 5),(nx x32 6),(nx x32 7),(nx x32 8)] [(nxc k33 0),(nxc k33 1)])) (
 prP (bnI .eql (nx x32 2) (.int .i64 1)) fun t76_52=>
 AH t76_52 (
 cl2 C 32 CY.sg [(nx x32 6),(nx x32 8)] [(nxc k33 0),(nxc k33 1)] fun v53 d54=>
 K [] [(nxc d54 0),(nxc d54 1)]) (
 K [] [(nxc k33 0),(nxc k33 1)]))) [(iv (cnt 1 c2)),(.int .i64 0),(nx x2 0),(nx x2 1),(nx x2 2),(nx x2 3),(nx x2 4),(nx x2 5),(nx x2 6)] [(nxc k3 0),(nxc k3 1)]) fun j4=>
 cl2 C 31 CO.sg [a1] [c0,c1] fun v5 d6=>
 prP (bnM .neq (nx v5 0)) fun t15_7=>
 AH t15_7 (
 prP (bnI .eql a0 (.int .i64 2)) fun t19_8=>
 AH t19_8 (
 ofW (nx v5 0) fun t21_9=>
 ldc c0 [] ((AB t21_9)+2) fun t23_10=>
 prP (bnI .add t23_10 (.int .i64 1)) fun t24_11=>
 ofW (nx v5 0) fun t25_12=>
 stc c0 [] ((AB t25_12)+2) t24_11 fun k13=>
 j4 [a0,a1,a2,a3,a4,a5,a6] [k13,c1]) (
 prP (bnI .eql a0 (.int .i64 3)) fun t28_14=>
 AH t28_14 (
 ofW (nx v5 0) fun t30_15=>
 ldc c0 [] ((AB t30_15)+3) fun t32_16=>
 prP (bnI .add t32_16 (.int .i64 1)) fun t33_17=>
 ofW (nx v5 0) fun t34_18=>
 stc c0 [] ((AB t34_18)+3) t33_17 fun k19=>
 j4 [a0,a1,a2,a3,a4,a5,a6] [k19,c1]) (
 prP (bnI .eql a0 (.int .i64 5)) fun t37_20=>
 AH t37_20 (
 ofW (nx v5 0) fun t39_21=>
 ldc c0 [] ((AB t39_21)+4) fun t41_22=>
 prP (bnI .add t41_22 (.int .i64 1)) fun t42_23=>
 ofW (nx v5 0) fun t43_24=>
 stc c0 [] ((AB t43_24)+4) t42_23 fun k25=>
 j4 [a0,a1,a2,a3,a4,a5,a6] [k25,c1]) (
 prP (bnI .eql a0 (.int .i64 6)) fun t46_26=>
 AH t46_26 (
 ofW (nx v5 0) fun t48_27=>
 ldc c0 [] ((AB t48_27)+5) fun t50_28=>
 prP (bnI .add t50_28 (.int .i64 1)) fun t51_29=>
 ofW (nx v5 0) fun t52_30=>
 stc c0 [] ((AB t52_30)+5) t51_29 fun k31=>
 j4 [a0,a1,a2,a3,a4,a5,a6] [k31,c1]) (
 j4 [a0,a1,a2,a3,a4,a5,a6] [c0,c1]))))) (
 j4 [a0,a1,a2,a3,a4,a5,a6] [c0,c1])
theorem CX.cl2 {w0:World} {a0 a1 a2 a3 a4 a5 a6:Value} {c0 c1 c2:List T} {K:J2} (h:CX.txt ⟨Try.prog,w0⟩ a0 a1 a2 a3 a4 a5 a6 c0 c1 c2 K):Eng.cl2 ⟨Try.prog,w0⟩ 23 CX.sg [a0,a1,a2,a3,a4,a5,a6] [c0,c1,c2] K:=
 AL (C:=⟨Try.prog,w0⟩) (f:=23) (fn:=Try.f23) [(31,CO.sg),(32,CY.sg)] [] [(3,⟨[.p (.j 0) 0, .p (.j 1) 0, .p (.j 2) 0],[.p (.j 0) 0],[.bx [.t (.j 3) 7, .t (.j 4) 2], .bx [.v, .v, .v, .v, .v], .bx [.v, .v, .t (.f 0) 1], .ls, .ls]⟩),(467,⟨[.p (.j 0) 0, .p (.j 1) 0, .p (.j 2) 0, .t (.f 0) 1, .v, .v],[.p (.j 0) 0],[.bx [.t (.j 3) 7, .t (.j 4) 2], .bx [.v, .v, .v, .v, .v], .bx [.v, .v, .t (.f 0) 1], .ls, .ls]⟩),(58,⟨[.p (.j 0) 0, .p (.j 1) 0, .p (.j 2) 0, .t (.f 0) 1, .v, .v],[.p (.j 0) 0],[.bx [.t (.j 3) 7, .t (.j 4) 2], .bx [.v, .v, .v, .v, .v], .bx [.v, .v, .t (.f 0) 1], .ls, .ls]⟩)] Try.func23 (by kernel_rfl) (by kernel_rfl) (by kernel_rfl) h
def EI.sg:Sg:=⟨[(0,[.t 5 0]),(0,[.t 3 0])],[(0,[.t 7])],[]⟩
def EI.txt (C:Ctx) (c0 c1:List T) (K:J2):Prop:=
 AP (fun r3 x1 k2=>
 prP (bnI .lss (nx x1 0) (iv (cnt 5 c0))) fun t12_23=>
 gE t12_23 (
 gE t12_23 (
 gE t12_23 (
 gP t12_23 true (prP (bnI .lss (nx x1 0) (iv (cnt 3 c1)))) fun t17_24=>
 prP (pk t12_23 t17_24 (.bool false)) fun t18_25=>
 AH t18_25 (
 AX (fun x27 k28=>
 prP (bnI .add (nx x27 0) (.int .i64 1)) fun t20_39=>
 r3 [t20_39] [(nxc k28 0),(nxc k28 1)]) fun j29=>
 ixW (cnt 3 c1) (nx x1 0) fun t23_30=>
 ldc c1 [] ((AB t23_30)*3) fun t25_31=>
 prP (bnI .eql t25_31 (.int .i64 0)) fun t26_32=>
 AH t26_32 (
 ixW (cnt 5 c0) (nx x1 0) fun t30_33=>
 ldg c0 [] ((AB t30_33)*5) [.c, .c, .c, .c, .c] fun ts34=>
 ixW (cnt 3 c1) (nx x1 0) fun t34_35=>
 ldg c1 [] ((AB t34_35)*3) [.c, .c, .l 1] fun ts36=>
 cl2 C 23 CX.sg [(tv (nxT ts34 0)),(tv (nxT ts34 1)),(tv (nxT ts34 2)),(tv (nxT ts34 3)),(tv (nxT ts34 4)),(tv (nxT ts36 0)),(tv (nxT ts36 1))] [(nxc k2 0),(nxc k2 1),(LM c1 [(((AB t34_35)*3)+2)])] fun v37 d38=>
 j29 [(nx x1 0)] [(nxc d38 0),(nxc d38 1)]) (
 j29 [(nx x1 0)] [(nxc k2 0),(nxc k2 1)])) (
 K [] [(nxc k2 0)]))))) [(.int .i64 0)] [[],[]]
theorem EI.cl2 {w0:World} {c0 c1:List T} {K:J2} (h:EI.txt ⟨Try.prog,w0⟩ c0 c1 K):Eng.cl2 ⟨Try.prog,w0⟩ 9 EI.sg [] [c0,c1] K:=
 AL (C:=⟨Try.prog,w0⟩) (f:=9) (fn:=Try.f9) [(23,CX.sg)] [(6,[0,0,0,6,14,0,0,96,224,511])] [(233,⟨[.t (.f 0) 5, .t (.f 1) 3, .p (.j 0) 0, .v],[],[.bx [.t (.j 1) 7, .t (.j 2) 2], .ls, .ls]⟩),(58,⟨[.t (.f 0) 5, .t (.f 1) 3, .p (.j 0) 0, .v],[],[.bx [.t (.j 1) 7, .t (.j 2) 2], .ls, .ls]⟩)] Try.func9 (by kernel_rfl) (by kernel_rfl) (by kernel_rfl) h
def HG.sg:Sg:=⟨[(1,[.v, .v, .v, .v, .v, .v, .v]),(1,[.v, .v, .v, .v, .v, .v, .v])],[(0,[.v])],[]⟩
def HG.txt (C:Ctx) (a0 a1 a2 a3 a4 a5 a6 a7 a8 a9 a10 a11 a12 a13:Value) (K:J2):Prop:=
 prP (bnS .neq a0 a7) fun t9_1=>
 AH t9_1 (
 K [(.bool false)] []) (
 prP (bnI .neq a1 a8) fun t14_2=>
 AH t14_2 (
 K [(.bool false)] []) (
 prP (bnI .neq a2 a9) fun t19_3=>
 AH t19_3 (
 K [(.bool false)] []) (
 prP (bnI .neq a3 a10) fun t24_4=>
 AH t24_4 (
 K [(.bool false)] []) (
 prP (bnI .neq a4 a11) fun t29_5=>
 AH t29_5 (
 K [(.bool false)] []) (
 prP (bnI .neq a5 a12) fun t34_6=>
 AH t34_6 (
 K [(.bool false)] []) (
 prP (bnI .neq a6 a13) fun t39_7=>
 AH t39_7 (
 K [(.bool false)] []) (
 K [(.bool true)] [])))))))
theorem HG.cl2 {w0:World} {a0 a1 a2 a3 a4 a5 a6 a7 a8 a9 a10 a11 a12 a13:Value} {K:J2} (h:HG.txt ⟨Try.prog,w0⟩ a0 a1 a2 a3 a4 a5 a6 a7 a8 a9 a10 a11 a12 a13 K):Eng.cl2 ⟨Try.prog,w0⟩ 24 HG.sg [a0,a1,a2,a3,a4,a5,a6,a7,a8,a9,a10,a11,a12,a13] [] K:=
 AL (C:=⟨Try.prog,w0⟩) (f:=24) (fn:=Try.f24) [] [] [] Try.func24 (by kernel_rfl) (by kernel_rfl) (by kernel_rfl) h
def ED.sg:Sg:=⟨[(0,[.t 7 0]),(0,[.t 7 0])],[(0,[.v])],[]⟩
def ED.txt (C:Ctx) (c0 c1:List T) (K:J2):Prop:=
 prP (bnI .neq (iv (cnt 7 c0)) (iv (cnt 7 c1))) fun t10_1=>
 AH t10_1 (
 K [(.bool false)] []) (
 AP (fun r4 x2 k3=>
 prP (bnI .lss (nx x2 0) (iv (cnt 7 c0))) fun t14_6=>
 AH t14_6 (
 ixW (cnt 7 c0) (nx x2 0) fun t19_7=>
 ldg c0 [] ((AB t19_7)*7) [.c, .c, .c, .c, .c, .c, .c] fun ts8=>
 ixW (cnt 7 c1) (nx x2 0) fun t23_9=>
 ldg c1 [] ((AB t23_9)*7) [.c, .c, .c, .c, .c, .c, .c] fun ts10=>
 cl2 C 24 HG.sg [(tv (nxT ts8 0)),(tv (nxT ts8 1)),(tv (nxT ts8 2)),(tv (nxT ts8 3)),(tv (nxT ts8 4)),(tv (nxT ts8 5)),(tv (nxT ts8 6)),(tv (nxT ts10 0)),(tv (nxT ts10 1)),(tv (nxT ts10 2)),(tv (nxT ts10 3)),(tv (nxT ts10 4)),(tv (nxT ts10 5)),(tv (nxT ts10 6))] [] fun v11 d12=>
 prP (un .not (nx v11 0)) fun t26_14=>
 AH t26_14 (
 K [(.bool false)] []) (
 prP (bnI .add (nx x2 0) (.int .i64 1)) fun t16_15=>
 r4 [t16_15] [])) (
 K [(.bool true)] [])) [(.int .i64 0)] [])
theorem ED.cl2 {w0:World} {c0 c1:List T} {K:J2} (h:ED.txt ⟨Try.prog,w0⟩ c0 c1 K):Eng.cl2 ⟨Try.prog,w0⟩ 10 ED.sg [] [c0,c1] K:=
 AL (C:=⟨Try.prog,w0⟩) (f:=10) (fn:=Try.f10) [(24,HG.sg)] [(6,[0,0,3,7,0,0,48,112,255,511])] [(58,⟨[.t (.f 0) 7, .t (.f 1) 7, .v],[],[]⟩)] Try.func10 (by kernel_rfl) (by kernel_rfl) (by kernel_rfl) h
def H0.sg:Sg:=⟨[(1,[.v, .v, .v, .v, .v]),(1,[.v, .v, .v, .v, .v])],[(0,[.v])],[]⟩
def H0.txt (C:Ctx) (a0 a1 a2 a3 a4 a5 a6 a7 a8 a9:Value) (K:J2):Prop:=
 prP (bnI .neq a0 a5) fun t9_1=>
 AH t9_1 (
 K [(.bool false)] []) (
 prP (bnI .neq a1 a6) fun t14_2=>
 AH t14_2 (
 K [(.bool false)] []) (
 prP (bnI .neq a2 a7) fun t19_3=>
 AH t19_3 (
 K [(.bool false)] []) (
 prP (bnI .neq a3 a8) fun t24_4=>
 AH t24_4 (
 K [(.bool false)] []) (
 prP (bnS .neq a4 a9) fun t29_5=>
 AH t29_5 (
 K [(.bool false)] []) (
 K [(.bool true)] [])))))
theorem H0.cl2 {w0:World} {a0 a1 a2 a3 a4 a5 a6 a7 a8 a9:Value} {K:J2} (h:H0.txt ⟨Try.prog,w0⟩ a0 a1 a2 a3 a4 a5 a6 a7 a8 a9 K):Eng.cl2 ⟨Try.prog,w0⟩ 25 H0.sg [a0,a1,a2,a3,a4,a5,a6,a7,a8,a9] [] K:=
 AL (C:=⟨Try.prog,w0⟩) (f:=25) (fn:=Try.f25) [] [] [] Try.func25 (by kernel_rfl) (by kernel_rfl) (by kernel_rfl) h
def HA.sg:Sg:=⟨[(0,[.t 5 0]),(0,[.t 5 0])],[(0,[.v])],[]⟩
def HA.txt (C:Ctx) (c0 c1:List T) (K:J2):Prop:=
 prP (bnI .neq (iv (cnt 5 c0)) (iv (cnt 5 c1))) fun t10_1=>
 AH t10_1 (
 K [(.bool false)] []) (
 AP (fun r4 x2 k3=>
 prP (bnI .lss (nx x2 0) (iv (cnt 5 c0))) fun t14_6=>
 AH t14_6 (
 ixW (cnt 5 c0) (nx x2 0) fun t19_7=>
 ldg c0 [] ((AB t19_7)*5) [.c, .c, .c, .c, .c] fun ts8=>
 ixW (cnt 5 c1) (nx x2 0) fun t23_9=>
 ldg c1 [] ((AB t23_9)*5) [.c, .c, .c, .c, .c] fun ts10=>
 cl2 C 25 H0.sg [(tv (nxT ts8 0)),(tv (nxT ts8 1)),(tv (nxT ts8 2)),(tv (nxT ts8 3)),(tv (nxT ts8 4)),(tv (nxT ts10 0)),(tv (nxT ts10 1)),(tv (nxT ts10 2)),(tv (nxT ts10 3)),(tv (nxT ts10 4))] [] fun v11 d12=>
 prP (un .not (nx v11 0)) fun t26_14=>
 AH t26_14 (
 K [(.bool false)] []) (
 prP (bnI .add (nx x2 0) (.int .i64 1)) fun t16_15=>
 r4 [t16_15] [])) (
 K [(.bool true)] [])) [(.int .i64 0)] [])
theorem HA.cl2 {w0:World} {c0 c1:List T} {K:J2} (h:HA.txt ⟨Try.prog,w0⟩ c0 c1 K):Eng.cl2 ⟨Try.prog,w0⟩ 11 HA.sg [] [c0,c1] K:=
 AL (C:=⟨Try.prog,w0⟩) (f:=11) (fn:=Try.f11) [(25,H0.sg)] [(6,[0,0,3,7,0,0,48,112,255,511])] [(58,⟨[.t (.f 0) 5, .t (.f 1) 5, .v],[],[]⟩)] Try.func11 (by kernel_rfl) (by kernel_rfl) (by kernel_rfl) h
def E9.sg:Sg:=⟨[(0,[.t 1 0]),(0,[.t 1 0])],[(0,[.v])],[]⟩
def E9.txt (C:Ctx) (c0 c1:List T) (K:J2):Prop:=
 prP (bnI .neq (iv (cnt 1 c0)) (iv (cnt 1 c1))) fun t10_1=>
 AH t10_1 (
 K [(.bool false)] []) (
 AP (fun r4 x2 k3=>
 prP (bnI .lss (nx x2 0) (iv (cnt 1 c0))) fun t14_6=>
 AH t14_6 (
 ixW (cnt 1 c0) (nx x2 0) fun t19_7=>
 ldc c0 [] ((AB t19_7)*1) fun t20_8=>
 ixW (cnt 1 c1) (nx x2 0) fun t23_9=>
 ldc c1 [] ((AB t23_9)*1) fun t24_10=>
 prP (bnI .neq t20_8 t24_10) fun t25_11=>
 AH t25_11 (
 K [(.bool false)] []) (
 prP (bnI .add (nx x2 0) (.int .i64 1)) fun t16_12=>
 r4 [t16_12] [])) (
 K [(.bool true)] [])) [(.int .i64 0)] [])
theorem E9.cl2 {w0:World} {c0 c1:List T} {K:J2} (h:E9.txt ⟨Try.prog,w0⟩ c0 c1 K):Eng.cl2 ⟨Try.prog,w0⟩ 33 E9.sg [] [c0,c1] K:=
 AL (C:=⟨Try.prog,w0⟩) (f:=33) (fn:=Try.f33) [] [(6,[0,0,3,7,0,0,48,112,255])] [(58,⟨[.t (.f 0) 1, .t (.f 1) 1, .v],[],[]⟩)] Try.func33 (by kernel_rfl) (by kernel_rfl) (by kernel_rfl) h
def DW.sg:Sg:=⟨[(1,[.v, .v, .t 1 0]),(1,[.v, .v, .t 1 0])],[(0,[.v])],[]⟩
def DW.txt (C:Ctx) (a0 a1 a2 a3:Value) (c0 c1:List T) (K:J2):Prop:=
 prP (bnI .neq a0 a2) fun t9_1=>
 AH t9_1 (
 K [(.bool false)] []) (
 prP (bnI .neq a1 a3) fun t14_2=>
 AH t14_2 (
 K [(.bool false)] []) (
 cl2 C 33 E9.sg [] [c0,c1] fun v3 d4=>
 prP (un .not (nx v3 0)) fun t20_6=>
 AH t20_6 (
 K [(.bool false)] []) (
 K [(.bool true)] [])))
theorem DW.cl2 {w0:World} {a0 a1 a2 a3:Value} {c0 c1:List T} {K:J2} (h:DW.txt ⟨Try.prog,w0⟩ a0 a1 a2 a3 c0 c1 K):Eng.cl2 ⟨Try.prog,w0⟩ 26 DW.sg [a0,a1,a2,a3] [c0,c1] K:=
 AL (C:=⟨Try.prog,w0⟩) (f:=26) (fn:=Try.f26) [(33,E9.sg)] [] [] Try.func26 (by kernel_rfl) (by kernel_rfl) (by kernel_rfl) h
def DC.sg:Sg:=⟨[(0,[.t 3 0]),(0,[.t 3 0])],[(0,[.v])],[]⟩
def DC.txt (C:Ctx) (c0 c1:List T) (K:J2):Prop:=
 prP (bnI .neq (iv (cnt 3 c0)) (iv (cnt 3 c1))) fun t10_1=>
 AH t10_1 (
 K [(.bool false)] []) (
 AP (fun r4 x2 k3=>
 prP (bnI .lss (nx x2 0) (iv (cnt 3 c0))) fun t14_6=>
 AH t14_6 (
 ixW (cnt 3 c0) (nx x2 0) fun t19_7=>
 ldg c0 [] ((AB t19_7)*3) [.c, .c, .l 1] fun ts8=>
 ixW (cnt 3 c1) (nx x2 0) fun t23_9=>
 ldg c1 [] ((AB t23_9)*3) [.c, .c, .l 1] fun ts10=>
 cl2 C 26 DW.sg [(tv (nxT ts8 0)),(tv (nxT ts8 1)),(tv (nxT ts10 0)),(tv (nxT ts10 1))] [(LM c0 [(((AB t19_7)*3)+2)]),(LM c1 [(((AB t23_9)*3)+2)])] fun v11 d12=>
 prP (un .not (nx v11 0)) fun t26_14=>
 AH t26_14 (
 K [(.bool false)] []) (
 prP (bnI .add (nx x2 0) (.int .i64 1)) fun t16_15=>
 r4 [t16_15] [])) (
 K [(.bool true)] [])) [(.int .i64 0)] [])
theorem DC.cl2 {w0:World} {c0 c1:List T} {K:J2} (h:DC.txt ⟨Try.prog,w0⟩ c0 c1 K):Eng.cl2 ⟨Try.prog,w0⟩ 12 DC.sg [] [c0,c1] K:=
 AL (C:=⟨Try.prog,w0⟩) (f:=12) (fn:=Try.f12) [(26,DW.sg)] [(6,[0,0,3,7,0,0,48,112,255,511])] [(58,⟨[.t (.f 0) 3, .t (.f 1) 3, .v],[],[]⟩)] Try.func12 (by kernel_rfl) (by kernel_rfl) (by kernel_rfl) h
def BK.sg:Sg:=⟨[(0,[.v])],[(0,[.v])],[]⟩
def BK.txt (C:Ctx) (a0:Value) (K:J2):Prop:=
 prP (bnI .leq a0 (.int .i64 0)) fun t5_1=>
 AH t5_1 (
 K [(.string {data:= #[109,48]})] []) (
 AP (fun r4 x2 k3=>
 prP (bnI .gtr (nx x2 0) (.int .i64 0)) fun t7_6=>
 AH t7_6 (
 prP (bnI .rem (nx x2 0) (.int .i64 10)) fun t9_7=>
 prP (bnI .add (.int .i64 48) t9_7) fun t10_8=>
 prP (cvI .u8 t10_8) fun t11_9=>
 prP (b2T [T.c t11_9]) fun t13_10=>
 prP (bnS .add t13_10 (nx x2 1)) fun t15_11=>
 prP (bnI .quo (nx x2 0) (.int .i64 10)) fun t17_12=>
 r4 [t17_12,t15_11] []) (
 prP (bnS .add (.string {data:= #[109]}) (nx x2 1)) fun t19_13=>
 K [t19_13] [])) [a0,(.string {data:= #[]})] [])
theorem BK.cl2 {w0:World} {a0:Value} {K:J2} (h:BK.txt ⟨Try.prog,w0⟩ a0 K):Eng.cl2 ⟨Try.prog,w0⟩ 27 BK.sg [a0] [] K:=
 AL (C:=⟨Try.prog,w0⟩) (f:=27) (fn:=Try.f27) [] [] [(60,⟨[.v, .v],[],[]⟩)] Try.func27 (by kernel_rfl) (by kernel_rfl) (by kernel_rfl) h
def EW.sg:Sg:=⟨[(0,[.t 5 1]),(0,[.v])],[(0,[.v])],[]⟩
def EW.txt (C:Ctx) (a0:Value) (c0:List T) (K:J2):Prop:=
 AP (fun r3 x1 k2=>
 prP (bnI .lss (nx x1 1) (iv (cnt 5 (nxc k2 0)))) fun t9_5=>
 AH t9_5 (
 ixW (cnt 5 (nxc k2 0)) (nx x1 1) fun t15_6=>
 stc (nxc k2 0) [] ((AB t15_6)*5) (nx x1 0) fun k7=>
 prP (bnI .add (nx x1 0) (.int .i64 1)) fun t18_8=>
 ixW (cnt 5 k7) (nx x1 1) fun t22_9=>
 stc k7 [] (((AB t22_9)*5)+1) t18_8 fun k10=>
 prP (bnI .add t18_8 (.int .i64 1)) fun t25_11=>
 ixW (cnt 5 k10) (nx x1 1) fun t29_12=>
 stc k10 [] (((AB t29_12)*5)+2) t25_11 fun k13=>
 prP (bnI .add t25_11 (.int .i64 1)) fun t32_14=>
 ixW (cnt 5 k13) (nx x1 1) fun t36_15=>
 stc k13 [] (((AB t36_15)*5)+3) t32_14 fun k16=>
 prP (bnI .add t32_14 (.int .i64 1)) fun t39_17=>
 cl2 C 27 BK.sg [t39_17] [] fun v18 d19=>
 ixW (cnt 5 k16) (nx x1 1) fun t44_21=>
 stc k16 [] (((AB t44_21)*5)+4) (nx v18 0) fun k22=>
 prP (bnI .add t39_17 (.int .i64 1)) fun t47_23=>
 prP (bnI .add (nx x1 1) (.int .i64 1)) fun t11_24=>
 r3 [t47_23,t11_24] [k22]) (
 K [(nx x1 0)] [(nxc k2 0)])) [a0,(.int .i64 0)] [c0]
theorem EW.cl2 {w0:World} {a0:Value} {c0:List T} {K:J2} (h:EW.txt ⟨Try.prog,w0⟩ a0 c0 K):Eng.cl2 ⟨Try.prog,w0⟩ 13 EW.sg [a0] [c0] K:=
 AL (C:=⟨Try.prog,w0⟩) (f:=13) (fn:=Try.f13) [(27,BK.sg)] [] [(26,⟨[.t (.j 0) 5, .v, .v],[.t (.j 0) 5],[.ls]⟩)] Try.func13 (by kernel_rfl) (by kernel_rfl) (by kernel_rfl) h
def C8.sg:Sg:=⟨[(0,[.t 1 1]),(0,[.v])],[(0,[.v])],[]⟩
def C8.txt (C:Ctx) (a0:Value) (c0:List T) (K:J2):Prop:=
 AP (fun r3 x1 k2=>
 prP (bnI .lss (nx x1 1) (iv (cnt 1 (nxc k2 0)))) fun t9_5=>
 AH t9_5 (
 ixW (cnt 1 (nxc k2 0)) (nx x1 1) fun t15_6=>
 stc (nxc k2 0) [] ((AB t15_6)*1) (nx x1 0) fun k7=>
 prP (bnI .add (nx x1 0) (.int .i64 1)) fun t17_8=>
 prP (bnI .add (nx x1 1) (.int .i64 1)) fun t11_9=>
 r3 [t17_8,t11_9] [k7]) (
 K [(nx x1 0)] [(nxc k2 0)])) [a0,(.int .i64 0)] [c0]
theorem C8.cl2 {w0:World} {a0:Value} {c0:List T} {K:J2} (h:C8.txt ⟨Try.prog,w0⟩ a0 c0 K):Eng.cl2 ⟨Try.prog,w0⟩ 28 C8.sg [a0] [c0] K:=
 AL (C:=⟨Try.prog,w0⟩) (f:=28) (fn:=Try.f28) [] [] [(26,⟨[.t (.j 0) 1, .v, .v],[.t (.j 0) 1],[.ls]⟩)] Try.func28 (by kernel_rfl) (by kernel_rfl) (by kernel_rfl) h
def CF.sg:Sg:=⟨[(0,[.t 3 1]),(0,[.v])],[(0,[.v])],[]⟩
def CF.txt (C:Ctx) (a0:Value) (c0:List T) (K:J2):Prop:=
 AP (fun r3 x1 k2=>
 prP (bnI .lss (nx x1 1) (iv (cnt 3 (nxc k2 0)))) fun t9_5=>
 AH t9_5 (
 ixW (cnt 3 (nxc k2 0)) (nx x1 1) fun t15_6=>
 stc (nxc k2 0) [] ((AB t15_6)*3) (nx x1 0) fun k7=>
 prP (bnI .add (nx x1 0) (.int .i64 1)) fun t18_8=>
 ixW (cnt 3 k7) (nx x1 1) fun t22_9=>
 stc k7 [] (((AB t22_9)*3)+1) t18_8 fun k10=>
 prP (bnI .add t18_8 (.int .i64 1)) fun t25_11=>
 ixW (cnt 3 k10) (nx x1 1) fun t28_12=>
 ldl k10 [] (((AB t28_12)*3)+2) 1 fun t30_13=>
 cl2 C 28 C8.sg [t25_11] [(LM k10 [(((AB t28_12)*3)+2)])] fun v14 d15=>
 prP (bnI .add (nx x1 1) (.int .i64 1)) fun t11_16=>
 r3 [(nx v14 0),t11_16] [(GU k10 [(((AB t28_12)*3)+2)] (nxc d15 0))]) (
 K [(nx x1 0)] [(nxc k2 0)])) [a0,(.int .i64 0)] [c0]
theorem CF.cl2 {w0:World} {a0:Value} {c0:List T} {K:J2} (h:CF.txt ⟨Try.prog,w0⟩ a0 c0 K):Eng.cl2 ⟨Try.prog,w0⟩ 14 CF.sg [a0] [c0] K:=
 AL (C:=⟨Try.prog,w0⟩) (f:=14) (fn:=Try.f14) [(28,C8.sg)] [] [(26,⟨[.t (.j 0) 3, .v, .v],[.t (.j 0) 3],[.ls]⟩)] Try.func14 (by kernel_rfl) (by kernel_rfl) (by kernel_rfl) h
def D4.sg:Sg:=⟨[(0,[.t 7 1]),(0,[.v])],[(0,[.v])],[]⟩
def D4.txt (C:Ctx) (a0:Value) (c0:List T) (K:J2):Prop:=
 AP (fun r3 x1 k2=>
 prP (bnI .lss (nx x1 1) (iv (cnt 7 (nxc k2 0)))) fun t9_5=>
 AH t9_5 (
 cl2 C 27 BK.sg [(nx x1 0)] [] fun v6 d7=>
 ixW (cnt 7 (nxc k2 0)) (nx x1 1) fun t16_9=>
 stc (nxc k2 0) [] ((AB t16_9)*7) (nx v6 0) fun k10=>
 prP (bnI .add (nx x1 0) (.int .i64 1)) fun t19_11=>
 ixW (cnt 7 k10) (nx x1 1) fun t23_12=>
 stc k10 [] (((AB t23_12)*7)+1) t19_11 fun k13=>
 prP (bnI .add t19_11 (.int .i64 1)) fun t26_14=>
 ixW (cnt 7 k13) (nx x1 1) fun t30_15=>
 stc k13 [] (((AB t30_15)*7)+2) t26_14 fun k16=>
 prP (bnI .add t26_14 (.int .i64 1)) fun t33_17=>
 ixW (cnt 7 k16) (nx x1 1) fun t37_18=>
 stc k16 [] (((AB t37_18)*7)+3) t33_17 fun k19=>
 prP (bnI .add t33_17 (.int .i64 1)) fun t40_20=>
 ixW (cnt 7 k19) (nx x1 1) fun t44_21=>
 stc k19 [] (((AB t44_21)*7)+4) t40_20 fun k22=>
 prP (bnI .add t40_20 (.int .i64 1)) fun t47_23=>
 ixW (cnt 7 k22) (nx x1 1) fun t51_24=>
 stc k22 [] (((AB t51_24)*7)+5) t47_23 fun k25=>
 prP (bnI .add t47_23 (.int .i64 1)) fun t54_26=>
 ixW (cnt 7 k25) (nx x1 1) fun t58_27=>
 stc k25 [] (((AB t58_27)*7)+6) t54_26 fun k28=>
 prP (bnI .add t54_26 (.int .i64 1)) fun t61_29=>
 prP (bnI .add (nx x1 1) (.int .i64 1)) fun t11_30=>
 r3 [t61_29,t11_30] [k28]) (
 K [(nx x1 0)] [(nxc k2 0)])) [a0,(.int .i64 0)] [c0]
theorem D4.cl2 {w0:World} {a0:Value} {c0:List T} {K:J2} (h:D4.txt ⟨Try.prog,w0⟩ a0 c0 K):Eng.cl2 ⟨Try.prog,w0⟩ 15 D4.sg [a0] [c0] K:=
 AL (C:=⟨Try.prog,w0⟩) (f:=15) (fn:=Try.f15) [(27,BK.sg)] [] [(26,⟨[.t (.j 0) 7, .v, .v],[.t (.j 0) 7],[.ls]⟩)] Try.func15 (by kernel_rfl) (by kernel_rfl) (by kernel_rfl) h
def C7.sg:Sg:=⟨[(0,[.t 7 0]),(0,[.v])],[(0,[.v])],[]⟩
def C7.txt (C:Ctx) (a0:Value) (c0:List T) (K:J2):Prop:=
 AP (fun r3 x1 k2=>
 prP (bnI .lss (nx x1 1) (iv (cnt 7 c0))) fun t9_5=>
 AH t9_5 (
 ixW (cnt 7 c0) (nx x1 1) fun t14_6=>
 ldc c0 [] ((AB t14_6)*7) fun t16_7=>
 cl2 C 27 BK.sg [(nx x1 0)] [] fun v8 d9=>
 prP (bnS .neq t16_7 (nx v8 0)) fun t19_11=>
 AH t19_11 (
 K [(.int .i64 (-1))] []) (
 prP (bnI .add (nx x1 0) (.int .i64 1)) fun t21_12=>
 ixW (cnt 7 c0) (nx x1 1) fun t24_13=>
 ldc c0 [] (((AB t24_13)*7)+1) fun t26_14=>
 prP (bnI .neq t26_14 t21_12) fun t28_15=>
 AH t28_15 (
 K [(.int .i64 (-1))] []) (
 prP (bnI .add t21_12 (.int .i64 1)) fun t30_16=>
 ixW (cnt 7 c0) (nx x1 1) fun t33_17=>
 ldc c0 [] (((AB t33_17)*7)+2) fun t35_18=>
 prP (bnI .neq t35_18 t30_16) fun t37_19=>
 AH t37_19 (
 K [(.int .i64 (-1))] []) (
 prP (bnI .add t30_16 (.int .i64 1)) fun t39_20=>
 ixW (cnt 7 c0) (nx x1 1) fun t42_21=>
 ldc c0 [] (((AB t42_21)*7)+3) fun t44_22=>
 prP (bnI .neq t44_22 t39_20) fun t46_23=>
 AH t46_23 (
 K [(.int .i64 (-1))] []) (
 prP (bnI .add t39_20 (.int .i64 1)) fun t48_24=>
 ixW (cnt 7 c0) (nx x1 1) fun t51_25=>
 ldc c0 [] (((AB t51_25)*7)+4) fun t53_26=>
 prP (bnI .neq t53_26 t48_24) fun t55_27=>
 AH t55_27 (
 K [(.int .i64 (-1))] []) (
 prP (bnI .add t48_24 (.int .i64 1)) fun t57_28=>
 ixW (cnt 7 c0) (nx x1 1) fun t60_29=>
 ldc c0 [] (((AB t60_29)*7)+5) fun t62_30=>
 prP (bnI .neq t62_30 t57_28) fun t64_31=>
 AH t64_31 (
 K [(.int .i64 (-1))] []) (
 prP (bnI .add t57_28 (.int .i64 1)) fun t66_32=>
 ixW (cnt 7 c0) (nx x1 1) fun t69_33=>
 ldc c0 [] (((AB t69_33)*7)+6) fun t71_34=>
 prP (bnI .neq t71_34 t66_32) fun t73_35=>
 AH t73_35 (
 K [(.int .i64 (-1))] []) (
 prP (bnI .add t66_32 (.int .i64 1)) fun t75_36=>
 prP (bnI .add (nx x1 1) (.int .i64 1)) fun t11_37=>
 r3 [t75_36,t11_37] [])))))))) (
 K [(nx x1 0)] [])) [a0,(.int .i64 0)] []
theorem C7.cl2 {w0:World} {a0:Value} {c0:List T} {K:J2} (h:C7.txt ⟨Try.prog,w0⟩ a0 c0 K):Eng.cl2 ⟨Try.prog,w0⟩ 16 C7.sg [a0] [c0] K:=
 AL (C:=⟨Try.prog,w0⟩) (f:=16) (fn:=Try.f16) [(27,BK.sg)] [(4,[0,0,3,7,15,0,32,127])] [(26,⟨[.t (.f 0) 7, .v, .v],[],[]⟩)] Try.func16 (by kernel_rfl) (by kernel_rfl) (by kernel_rfl) h
def B8.sg:Sg:=⟨[(0,[.t 5 0]),(0,[.t 3 0])],[(0,[.v])],[]⟩
def B8.txt (C:Ctx) (c0 c1:List T) (K:J2):Prop:=
 cl2 C 4 G8.sg [(.int .i64 1048576)] [c0] fun v1 d2=>
 prP (bnI .lss (nx v1 0) (.int .i64 0)) fun t18_4=>
 AH t18_4 (
 K [(.bool true)] []) (
 cl2 C 5 DB.sg [(nx v1 0)] [c1] fun v5 d6=>
 prP (bnI .lss (nx v5 0) (.int .i64 0)) fun t23_8=>
 AH t23_8 (
 K [(.bool true)] []) (
 cl2 C 7 EN.sg [] [c0] fun v9 d10=>
 cl2 C 8 BT.sg [] [c1] fun v11 d12=>
 cl2 C 6 FW.sg [] [(nxc d10 0),(nxc d12 0)] fun v13 d14=>
 cl2 C 7 EN.sg [] [c0] fun v15 d16=>
 cl2 C 8 BT.sg [] [c1] fun v17 d18=>
 cl2 C 9 EI.sg [] [(nxc d16 0),(nxc d18 0)] fun v19 d20=>
 cl2 C 10 ED.sg [] [(nxc d20 0),(nxc d14 0)] fun v21 d22=>
 prP (un .not (nx v21 0)) fun t39_24=>
 AH t39_24 (
 K [(.bool false)] []) (
 cl2 C 7 EN.sg [] [c0] fun v25 d26=>
 cl2 C 11 HA.sg [] [(nxc d16 0),(nxc d26 0)] fun v27 d28=>
 prP (un .not (nx v27 0)) fun t44_30=>
 AH t44_30 (
 K [(.bool false)] []) (
 cl2 C 8 BT.sg [] [c1] fun v31 d32=>
 cl2 C 12 DC.sg [] [(nxc d18 0),(nxc d32 0)] fun v33 d34=>
 prP (un .not (nx v33 0)) fun t49_36=>
 AH t49_36 (
 K [(.bool false)] []) (
 cl2 C 13 EW.sg [(.int .i64 1)] [(nxc d16 0)] fun v37 d38=>
 cl2 C 14 CF.sg [(nx v37 0)] [(nxc d18 0)] fun v39 d40=>
 prP (bnI .lss (nx v39 0) (.int .i64 0)) fun t57_41=>
 gE t57_41 (
 gE t57_41 (
 gP t57_41 false ((fun K=>cl2 C 10 ED.sg [] [(nxc d20 0),(nxc d14 0)] fun v42 d43=>K (nx v42 0))) fun t61_44=>
 gP t57_41 false (prP (un .not t61_44)) fun t62_45=>
 prP (pk t57_41 (.bool true) t62_45) fun t63_46=>
 AH t63_46 (
 K [(.bool false)] []) (
 cl2 C 15 D4.sg [(.int .i64 1)] [(nxc d20 0)] fun v47 d48=>
 cl2 C 16 C7.sg [(.int .i64 1)] [(nxc d48 0)] fun v49 d50=>
 prP (bnI .lss (nx v49 0) (.int .i64 0)) fun t71_52=>
 AH t71_52 (
 K [(.bool false)] []) (
 prP (bnI .neq (nx v49 0) (nx v47 0)) fun t74_53=>
 AH t74_53 (
 K [(.bool false)] []) (
 cl2 C 7 EN.sg [] [c0] fun v54 d55=>
 cl2 C 8 BT.sg [] [c1] fun v56 d57=>
 cl2 C 9 EI.sg [] [(nxc d55 0),(nxc d57 0)] fun v58 d59=>
 cl2 C 10 ED.sg [] [(nxc d59 0),(nxc d14 0)] fun v60 d61=>
 prP (un .not (nx v60 0)) fun t83_63=>
 AH t83_63 (
 K [(.bool false)] []) (
 cl2 C 16 C7.sg [(.int .i64 1)] [(nxc d48 0)] fun v64 d65=>
 prP (bnI .lss (nx v64 0) (.int .i64 0)) fun t88_67=>
 AH t88_67 (
 K [(.bool false)] []) (
 prP (bnI .neq (nx v64 0) (nx v47 0)) fun t91_68=>
 AH t91_68 (
 K [(.bool false)] []) (
 K [(.bool true)] [])))))))))))))
theorem B8.cl2 {w0:World} {c0 c1:List T} {K:J2} (h:B8.txt ⟨Try.prog,w0⟩ c0 c1 K):Eng.cl2 ⟨Try.prog,w0⟩ 3 B8.sg [] [c0,c1] K:=
 AL (C:=⟨Try.prog,w0⟩) (f:=3) (fn:=Try.f3) [(4,G8.sg),(5,DB.sg),(7,EN.sg),(8,BT.sg),(6,FW.sg),(9,EI.sg),(10,ED.sg),(11,HA.sg),(12,DC.sg),(13,EW.sg),(14,CF.sg),(15,D4.sg),(16,C7.sg)] [] [] Try.func3 (by kernel_rfl) (by kernel_rfl) (by kernel_rfl) h
end Go.Proofs.Ythapfcoajahegaa.P
