/- A part of the proof. -/
import Derived.Test.YtklmcfpgdfibnaaChecked
import Derived.Test.YtklmcfpgdfibnaaTrPZ1
import Derived.KernelRfl
namespace Go.Proofs.Ytklmcfpgdfibnaa.P
open Go Go.Proofs.Ytklmcfpgdfibnaa Go.Proofs.Ytklmcfpgdfibnaa.Eng
set_option linter.unusedVariables false
set_option maxRecDepth 100000
def EB.sg:Sg:=⟨[(1,[.t 8 0, .t 2 0, .t 1 0, .t 1 0])],[(1,[.t 1, .t 1])],[]⟩
def EB.txt (C:Ctx) (c0 c1 c2 c3:List T) (K:J2):Prop:=
 BF (fun r3 x1 k2=>
 prP (bnI .lss (nx x1 1) (nx x1 0)) fun t10_15=>
 AX t10_15 (
 BS (fun x17 k18=>
 prP (bnI .add (nx x17 1) (.int .i64 1)) fun t28_23=>
 r3 [(nx x17 0),t28_23] [(nxc k18 0),(nxc k18 1)]) fun j19=>
 ixW (cnt 8 c0) (nx x1 1) fun t12_20=>
 ldg c0 [] ((AB t12_20)*8) [.c, .c, .c, .c, .c, .c, .l 1, .c] fun ts21=>
 prP (bnI .lss (nx x1 1) (.int .i64 8)) fun t15_22=>
 AX t15_22 (
 apW [T.c (tv (nxT ts21 5))] true (cnt 1 (nxc k2 0)) (cnt 1 [T.c (tv (nxT ts21 5))]) 8 (
 apW [T.c (.int .i64 0)] true (cnt 1 (nxc k2 1)) (cnt 1 [T.c (.int .i64 0)]) 8 (
 j19 [(nx x1 0),(nx x1 1)] [((nxc k2 0)++[T.c (tv (nxT ts21 5))]),((nxc k2 1)++[T.c (.int .i64 0)])]))) (
 j19 [(nx x1 0),(nx x1 1)] [(nxc k2 0),(nxc k2 1)])) (
 K [] [(nxc k2 0),(nxc k2 1)])) [(iv (cnt 8 c0)),(.int .i64 0)] [[],[]]
theorem EB.cl2 {w0:World} {c0 c1 c2 c3:List T} {K:J2} (h:EB.txt ⟨Try.prog,w0⟩ c0 c1 c2 c3 K):Eng.cl2 ⟨Try.prog,w0⟩ 56 EB.sg [] [c0,c1,c2,c3] K:=
 AV (C:=⟨Try.prog,w0⟩) (f:=56) (fn:=Try.f56) [] [] [(467,⟨[.p (.j 0) 0, .p (.j 1) 0, .t (.f 0) 8, .v, .v],[],[.bx [.z, .z], .bx [.t (.j 2) 1, .t (.j 3) 1], .ls, .ls]⟩),(58,⟨[.p (.j 0) 0, .p (.j 1) 0, .t (.f 0) 8, .v, .v],[],[.bx [.z, .z], .bx [.t (.j 2) 1, .t (.j 3) 1], .ls, .ls]⟩)] Try.func56 (by kernel_rfl) (by kernel_rfl) (by kernel_rfl) h
def CZ.sg:Sg:=⟨[(1,[.t 1 0, .t 1 0])],[(1,[.t 1, .t 1])],[]⟩
def CZ.txt (C:Ctx) (c0 c1:List T) (K:J2):Prop:=
 cl2 C 141 DM.sg [] [c0] fun v1 d2=>
 cl2 C 141 DM.sg [] [c1] fun v3 d4=>
 K [] [(nxc d2 0),(nxc d4 0)]
theorem CZ.cl2 {w0:World} {c0 c1:List T} {K:J2} (h:CZ.txt ⟨Try.prog,w0⟩ c0 c1 K):Eng.cl2 ⟨Try.prog,w0⟩ 114 CZ.sg [] [c0,c1] K:=
 AV (C:=⟨Try.prog,w0⟩) (f:=114) (fn:=Try.f114) [(141,DM.sg)] [(1,[0,1,3,0,8,31,63,127])] [] Try.func114 (by kernel_rfl) (by kernel_rfl) (by kernel_rfl) h
def EK.sg:Sg:=⟨[(1,[.t 8 0, .t 2 0, .t 1 0, .t 1 0]),(1,[.t 1 0, .t 1 0]),(0,[.v])],[(0,[.v])],[]⟩
def EK.txt (C:Ctx) (a0:Value) (c0 c1 c2 c3 c4 c5:List T) (K:J2):Prop:=
 prP (bnI .eql (iv (cnt 8 c0)) (.int .i64 8)) fun t10_1=>
 gE t10_1 (
 gE t10_1 (
 gE t10_1 (
 gP t10_1 true (prP (bnI .eql (iv (cnt 1 c4)) (.int .i64 8))) fun t15_2=>
 prP (pk t10_1 t15_2 (.bool false)) fun t16_3=>
 gE t16_3 (
 gE t16_3 (
 gE t16_3 (
 gP t16_3 true (prP (bnI .eql (iv (cnt 1 c5)) (.int .i64 8))) fun t21_4=>
 prP (pk t16_3 t21_4 (.bool false)) fun t22_5=>
 gE t22_5 (
 gP t22_5 true ((fun K=>cl2 C 131 KC.sg [a0,(.int .i64 0),(.int .i64 7)] [] fun v6 d7=>K (nx v6 0))) fun t25_8=>
 prP (pk t22_5 t25_8 (.bool false)) fun t26_9=>
 gE t26_9 (
 gE t26_9 (
 gE t26_9 (
 gP t26_9 true (ixW (cnt 8 c0) a0) fun t31_10=>
 gE t26_9 (
 gP t26_9 true (ldc c0 [] ((AB t31_10)*8)) fun t33_11=>
 prP (pk t26_9 t33_11 (.bool false)) fun t34_12=>
 K [t34_12] [])))))))))))
theorem EK.cl2 {w0:World} {a0:Value} {c0 c1 c2 c3 c4 c5:List T} {K:J2} (h:EK.txt ⟨Try.prog,w0⟩ a0 c0 c1 c2 c3 c4 c5 K):Eng.cl2 ⟨Try.prog,w0⟩ 115 EK.sg [a0] [c0,c1,c2,c3,c4,c5] K:=
 AV (C:=⟨Try.prog,w0⟩) (f:=115) (fn:=Try.f115) [(131,KC.sg)] [] [] Try.func115 (by kernel_rfl) (by kernel_rfl) (by kernel_rfl) h
def DR.sg:Sg:=⟨[(1,[.t 8 0, .t 2 0, .t 1 0, .t 1 0]),(0,[.v])],[(0,[.t 1])],[]⟩
def DR.txt (C:Ctx) (a0:Value) (c0 c1 c2 c3:List T) (K:J2):Prop:=
 ixW (cnt 8 c0) a0 fun t12_1=>
 ldl c0 [] (((AB t12_1)*8)+6) 1 fun t14_2=>
 BF (fun r5 x3 k4=>
 prP (bnI .lss (nx x3 2) (nx x3 1)) fun t17_20=>
 AX t17_20 (
 BS (fun x22 k23=>
 prP (bnI .add (nx x22 2) (.int .i64 1)) fun t29_31=>
 r5 [(iv (AB (nx x22 0))),(nx x22 1),t29_31] [(nxc k23 0)]) fun j24=>
 ixW (cnt 1 (F7 c0 [(AB (nx x3 0))])) (nx x3 2) fun t18_25=>
 ldc c0 [(AB (nx x3 0))] ((AB t18_25)*1) fun t19_26=>
 cl2 C 81 F5.sg [t19_26] [c0,c1,c2,c3] fun v27 d28=>
 prP (bnI .geq (nx v27 0) (.int .i64 0)) fun t24_30=>
 AX t24_30 (
 apW [T.c (nx v27 0)] true (cnt 1 (nxc k4 0)) (cnt 1 [T.c (nx v27 0)]) 8 (
 j24 [(iv (AB (nx x3 0))),(nx x3 1),(nx x3 2)] [((nxc k4 0)++[T.c (nx v27 0)])])) (
 j24 [(iv (AB (nx x3 0))),(nx x3 1),(nx x3 2)] [(nxc k4 0)])) (
 K [] [(nxc k4 0)])) [(iv (((AB t12_1)*8)+6)),(iv (cnt 1 (F7 c0 [(((AB t12_1)*8)+6)]))),(.int .i64 0)] [[]]
theorem DR.cl2 {w0:World} {a0:Value} {c0 c1 c2 c3:List T} {K:J2} (h:DR.txt ⟨Try.prog,w0⟩ a0 c0 c1 c2 c3 K):Eng.cl2 ⟨Try.prog,w0⟩ 118 DR.sg [a0] [c0,c1,c2,c3] K:=
 AV (C:=⟨Try.prog,w0⟩) (f:=118) (fn:=Try.f118) [(81,F5.sg)] [] [(467,⟨[.p (.j 0) 0, .t (.j 1) 1, .n (.f 0) 1 1, .v, .v],[],[.bx [.t (.f 0) 8, .t (.f 1) 2, .t (.f 2) 1, .t (.f 3) 1], .ls]⟩),(58,⟨[.p (.j 0) 0, .t (.j 1) 1, .n (.f 0) 1 1, .v, .v],[],[.bx [.t (.f 0) 8, .t (.f 1) 2, .t (.f 2) 1, .t (.f 3) 1], .ls]⟩)] Try.func118 (by kernel_rfl) (by kernel_rfl) (by kernel_rfl) h
def B1.sg:Sg:=⟨[(2,[.t 1 2, .t 1 2]),(1,[.t 8 0, .t 2 0, .t 1 0, .t 1 0]),(0,[.v]),(0,[.v]),(0,[.v])],[],[[.t 1, .t 1]]⟩
def B1.txt (C:Ctx) (a0 a1 a2:Value) (c0 c1 c2 c3 c4 c5:List T) (K:J2):Prop:=
 ixW (cnt 1 c1) a0 fun t17_1=>
 ldc c1 [] ((AB t17_1)*1) fun t18_2=>
 prP (bnI .eql t18_2 a1) fun t20_3=>
 AX t20_3 (
 K [] [c0,c1]) (
 ixW (cnt 1 c1) a0 fun t27_4=>
 stc c1 [] ((AB t27_4)*1) a1 fun k5=>
 cl2 C 118 DR.sg [a0] [c2,c3,c4,c5] fun v6 d7=>
 BF (fun r10 x8 k9=>
 prP (bnI .lss (nx x8 3) (nx x8 2)) fun t33_12=>
 AX t33_12 (
 ixW (cnt 1 (nxc k9 0)) (nx x8 3) fun t34_13=>
 ldc (nxc k9 0) [] ((AB t34_13)*1) fun t35_14=>
 ixW (cnt 1 (nxc k9 1)) t35_14 fun t41_15=>
 ldc (nxc k9 1) [] ((AB t41_15)*1) fun t42_16=>
 prP (bnI .add t42_16 (nx x8 1)) fun t44_17=>
 ixW (cnt 1 (nxc k9 1)) t35_14 fun t45_18=>
 stc (nxc k9 1) [] ((AB t45_18)*1) t44_17 fun k19=>
 cl2 C 116 B1.sg [t35_14,(nx x8 0),(nx x8 1)] [k19,(nxc k9 2),c2,c3,c4,c5] fun v20 d21=>
 prP (bnI .add (nx x8 3) (.int .i64 1)) fun t52_22=>
 r10 [(nx x8 0),(nx x8 1),(nx x8 2),t52_22] [(nxc k9 0),(nxc d21 0),(nxc d21 1)]) (
 K [] [(nxc k9 1),(nxc k9 2)])) [a1,a2,(iv (cnt 1 (nxc d7 0))),(.int .i64 0)] [(nxc d7 0),c0,k5])
theorem B1.cl2 {w0:World} {a0 a1 a2:Value} {c0 c1 c2 c3 c4 c5:List T} {K:J2} (h:B1.txt ⟨Try.prog,w0⟩ a0 a1 a2 c0 c1 c2 c3 c4 c5 K):Eng.cl2 ⟨Try.prog,w0⟩ 116 B1.sg [a0,a1,a2] [c0,c1,c2,c3,c4,c5] K:=
 AV (C:=⟨Try.prog,w0⟩) (f:=116) (fn:=Try.f116) [(118,DR.sg),(116,B1.sg)] [] [(62,⟨[.p (.j 0) 0, .v, .v, .p (.j 1) 0, .t (.j 2) 1, .v, .v],[.p (.j 0) 0],[.bx [.t (.j 3) 1, .t (.j 4) 1], .bx [.t (.f 0) 8, .t (.f 1) 2, .t (.f 2) 1, .t (.f 3) 1], .ls, .ls, .ls]⟩)] Try.func116 (by kernel_rfl) (by kernel_rfl) (by kernel_rfl) h
def EF.sg:Sg:=⟨[(1,[.t 8 0, .t 2 0, .t 1 0, .t 1 0]),(1,[.t 1 0, .t 1 0]),(0,[.v])],[(1,[.t 1, .t 1])],[]⟩
def EF.txt (C:Ctx) (a0:Value) (c0 c1 c2 c3 c4 c5:List T) (K:J2):Prop:=
 cl2 C 114 CZ.sg [] [c4,c5] fun v1 d2=>
 BS (fun x4 k5=>
 K [] [(nxc k5 0),(nxc k5 1)]) fun j6=>
 cl2 C 115 EK.sg [a0] [c0,c1,c2,c3,c4,c5] fun v7 d8=>
 AX (nx v7 0) (
 cl2 C 116 B1.sg [a0,(.int .i64 1),(.int .i64 (-1))] [(nxc d2 0),(nxc d2 1),c0,c1,c2,c3] fun v10 d11=>
 j6 [] [(nxc d11 0),(nxc d11 1)]) (
 j6 [] [(nxc d2 0),(nxc d2 1)])
theorem EF.cl2 {w0:World} {a0:Value} {c0 c1 c2 c3 c4 c5:List T} {K:J2} (h:EF.txt ⟨Try.prog,w0⟩ a0 c0 c1 c2 c3 c4 c5 K):Eng.cl2 ⟨Try.prog,w0⟩ 57 EF.sg [a0] [c0,c1,c2,c3,c4,c5] K:=
 AV (C:=⟨Try.prog,w0⟩) (f:=57) (fn:=Try.f57) [(114,CZ.sg),(115,EK.sg),(116,B1.sg)] [] [(7,⟨[.p (.j 0) 0, .p (.j 1) 0],[],[.bx [.z, .z], .bx [.t (.j 2) 1, .t (.j 3) 1], .ls, .ls]⟩)] Try.func57 (by kernel_rfl) (by kernel_rfl) (by kernel_rfl) h
def CA.sg:Sg:=⟨[(2,[.t 1 2, .t 1 2]),(1,[.t 8 0, .t 2 0, .t 1 0, .t 1 0]),(0,[.v])],[],[[.t 1, .t 1]]⟩
def CA.txt (C:Ctx) (a0:Value) (c0 c1 c2 c3 c4 c5:List T) (K:J2):Prop:=
 ixW (cnt 1 c1) a0 fun t13_1=>
 ldc c1 [] ((AB t13_1)*1) fun t14_2=>
 prP (bnI .neq t14_2 (.int .i64 1)) fun t15_3=>
 AX t15_3 (
 K [] [c0,c1]) (
 ixW (cnt 1 c0) a0 fun t21_4=>
 ldc c0 [] ((AB t21_4)*1) fun t22_5=>
 prP (bnI .gtr t22_5 (.int .i64 0)) fun t23_6=>
 AX t23_6 (
 cl2 C 116 B1.sg [a0,(.int .i64 0),(.int .i64 1)] [c0,c1,c2,c3,c4,c5] fun v7 d8=>
 K [] [(nxc d8 0),(nxc d8 1)]) (
 ixW (cnt 1 c1) a0 fun t33_9=>
 stc c1 [] ((AB t33_9)*1) (.int .i64 2) fun k10=>
 cl2 C 118 DR.sg [a0] [c2,c3,c4,c5] fun v11 d12=>
 BF (fun r15 x13 k14=>
 prP (bnI .lss (nx x13 1) (nx x13 0)) fun t39_17=>
 AX t39_17 (
 ixW (cnt 1 (nxc k14 0)) (nx x13 1) fun t40_18=>
 ldc (nxc k14 0) [] ((AB t40_18)*1) fun t41_19=>
 cl2 C 117 CA.sg [t41_19] [(nxc k14 1),(nxc k14 2),c2,c3,c4,c5] fun v20 d21=>
 prP (bnI .add (nx x13 1) (.int .i64 1)) fun t46_22=>
 r15 [(nx x13 0),t46_22] [(nxc k14 0),(nxc d21 0),(nxc d21 1)]) (
 K [] [(nxc k14 1),(nxc k14 2)])) [(iv (cnt 1 (nxc d12 0))),(.int .i64 0)] [(nxc d12 0),c0,k10]))
theorem CA.cl2 {w0:World} {a0:Value} {c0 c1 c2 c3 c4 c5:List T} {K:J2} (h:CA.txt ⟨Try.prog,w0⟩ a0 c0 c1 c2 c3 c4 c5 K):Eng.cl2 ⟨Try.prog,w0⟩ 117 CA.sg [a0] [c0,c1,c2,c3,c4,c5] K:=
 AV (C:=⟨Try.prog,w0⟩) (f:=117) (fn:=Try.f117) [(116,B1.sg),(118,DR.sg),(117,CA.sg)] [] [(126,⟨[.p (.j 0) 0, .p (.j 1) 0, .t (.j 2) 1, .v, .v],[.p (.j 0) 0],[.bx [.t (.j 3) 1, .t (.j 4) 1], .bx [.t (.f 0) 8, .t (.f 1) 2, .t (.f 2) 1, .t (.f 3) 1], .ls, .ls, .ls]⟩)] Try.func117 (by kernel_rfl) (by kernel_rfl) (by kernel_rfl) h
def D7.sg:Sg:=⟨[(1,[.t 8 0, .t 2 0, .t 1 0, .t 1 0]),(1,[.t 1 0, .t 1 0]),(0,[.v])],[(1,[.t 1, .t 1])],[]⟩
def D7.txt (C:Ctx) (a0:Value) (c0 c1 c2 c3 c4 c5:List T) (K:J2):Prop:=
 cl2 C 114 CZ.sg [] [c4,c5] fun v1 d2=>
 BS (fun x4 k5=>
 K [] [(nxc k5 0),(nxc k5 1)]) fun j6=>
 cl2 C 115 EK.sg [a0] [c0,c1,c2,c3,c4,c5] fun v7 d8=>
 AX (nx v7 0) (
 cl2 C 117 CA.sg [a0] [(nxc d2 0),(nxc d2 1),c0,c1,c2,c3] fun v10 d11=>
 j6 [] [(nxc d11 0),(nxc d11 1)]) (
 j6 [] [(nxc d2 0),(nxc d2 1)])
theorem D7.cl2 {w0:World} {a0:Value} {c0 c1 c2 c3 c4 c5:List T} {K:J2} (h:D7.txt ⟨Try.prog,w0⟩ a0 c0 c1 c2 c3 c4 c5 K):Eng.cl2 ⟨Try.prog,w0⟩ 59 D7.sg [a0] [c0,c1,c2,c3,c4,c5] K:=
 AV (C:=⟨Try.prog,w0⟩) (f:=59) (fn:=Try.f59) [(114,CZ.sg),(115,EK.sg),(117,CA.sg)] [] [(7,⟨[.p (.j 0) 0, .p (.j 1) 0],[],[.bx [.z, .z], .bx [.t (.j 2) 1, .t (.j 3) 1], .ls, .ls]⟩)] Try.func59 (by kernel_rfl) (by kernel_rfl) (by kernel_rfl) h
def FW.sg:Sg:=⟨[(1,[.t 1 0, .t 1 0])],[(0,[.t 1])],[]⟩
def FW.txt (C:Ctx) (c0 c1:List T) (K:J2):Prop:=
 BF (fun r3 x1 k2=>
 prP (bnI .lss (nx x1 1) (nx x1 0)) fun t10_15=>
 AX t10_15 (
 BS (fun x17 k18=>
 prP (bnI .add (nx x17 1) (.int .i64 1)) fun t20_23=>
 r3 [(nx x17 0),t20_23] [(nxc k18 0)]) fun j19=>
 ixW (cnt 1 c1) (nx x1 1) fun t12_20=>
 ldc c1 [] ((AB t12_20)*1) fun t13_21=>
 prP (bnI .eql t13_21 (.int .i64 2)) fun t15_22=>
 AX t15_22 (
 apW [T.c (nx x1 1)] true (cnt 1 (nxc k2 0)) (cnt 1 [T.c (nx x1 1)]) 8 (
 j19 [(nx x1 0),(nx x1 1)] [((nxc k2 0)++[T.c (nx x1 1)])])) (
 j19 [(nx x1 0),(nx x1 1)] [(nxc k2 0)])) (
 K [] [(nxc k2 0)])) [(iv (cnt 1 c1)),(.int .i64 0)] [[]]
theorem FW.cl2 {w0:World} {c0 c1:List T} {K:J2} (h:FW.txt ⟨Try.prog,w0⟩ c0 c1 K):Eng.cl2 ⟨Try.prog,w0⟩ 60 FW.sg [] [c0,c1] K:=
 AV (C:=⟨Try.prog,w0⟩) (f:=60) (fn:=Try.f60) [] [] [(467,⟨[.t (.j 0) 1, .t (.f 1) 1, .v, .v],[],[.ls]⟩),(58,⟨[.t (.j 0) 1, .t (.f 1) 1, .v, .v],[],[.ls]⟩)] Try.func60 (by kernel_rfl) (by kernel_rfl) (by kernel_rfl) h
end Go.Proofs.Ytklmcfpgdfibnaa.P
