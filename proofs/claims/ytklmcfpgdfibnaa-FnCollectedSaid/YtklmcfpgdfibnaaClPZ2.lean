/- A part of the proof. -/
import Derived.Test.YtklmcfpgdfibnaaChecked
import Derived.Test.YtklmcfpgdfibnaaClPZ1
import Derived.KernelRfl
namespace Go.Proofs.Ytklmcfpgdfibnaa.P
open Go Go.Proofs.Ytklmcfpgdfibnaa Go.Proofs.Ytklmcfpgdfibnaa.Eng
set_option linter.unusedVariables false
set_option maxRecDepth 100000
def EB.sg:Sg:=⟨[(0,[.t 1 0])],[(0,[.t 1])],[]⟩
def EB.txt (C:Ctx) (c0:List T) (K:J2):Prop:=
 apW c0 true 0 (cnt 1 c0) 16 (
 K [] [([]++c0)])
theorem EB.cl2 {w0:World} {c0:List T} {K:J2} (h:EB.txt ⟨Try.prog,w0⟩ c0 K):Eng.cl2 ⟨Try.prog,w0⟩ 142 EB.sg [] [c0] K:=
 AV (C:=⟨Try.prog,w0⟩) (f:=142) (fn:=Try.f142) [] [] [] Try.func142 (by kernel_rfl) (by kernel_rfl) (by kernel_rfl) h
def ES.sg:Sg:=⟨[(1,[.t 8 0, .t 2 0, .t 1 0, .t 1 0])],[(1,[.t 8, .t 2, .t 1, .t 1])],[]⟩
def ES.txt (C:Ctx) (c0 c1 c2 c3:List T) (K:J2):Prop:=
 apW c1 true 0 (cnt 2 c1) 16 (
 cl2 C 141 CY.sg [] [c2] fun v1 d2=>
 cl2 C 142 EB.sg [] [c3] fun v3 d4=>
 BD (fun r7 x5 k6=>
 prP (bnI .lss (nx x5 1) (nx x5 0)) fun t20_16=>
 A7 t20_16 (
 ixW (cnt 8 c0) (nx x5 1) fun t21_17=>
 ldg c0 [] ((AB t21_17)*8) [.c, .c, .c, .c, .c, .c, .l 1, .c] fun ts18=>
 cl2 C 141 CY.sg [] [(GH c0 [(((AB t21_17)*8)+6)])] fun v19 d20=>
 apW [T.c (tv (nxT ts18 0)),T.c (tv (nxT ts18 1)),T.c (tv (nxT ts18 2)),T.c (tv (nxT ts18 3)),T.c (tv (nxT ts18 4)),T.c (tv (nxT ts18 5)),T.l 1 (nxc d20 0),T.c (tv (nxT ts18 7))] false (cnt 8 (nxc k6 0)) (cnt 8 [T.c (tv (nxT ts18 0)),T.c (tv (nxT ts18 1)),T.c (tv (nxT ts18 2)),T.c (tv (nxT ts18 3)),T.c (tv (nxT ts18 4)),T.c (tv (nxT ts18 5)),T.l 1 (nxc d20 0),T.c (tv (nxT ts18 7))]) 80 (
 prP (bnI .add (nx x5 1) (.int .i64 1)) fun t33_21=>
 r7 [(nx x5 0),t33_21] [((nxc k6 0)++[T.c (tv (nxT ts18 0)),T.c (tv (nxT ts18 1)),T.c (tv (nxT ts18 2)),T.c (tv (nxT ts18 3)),T.c (tv (nxT ts18 4)),T.c (tv (nxT ts18 5)),T.l 1 (nxc d20 0),T.c (tv (nxT ts18 7))]),(nxc k6 1),(nxc k6 2),(nxc k6 3)])) (
 K [] [(nxc k6 0),(nxc k6 1),(nxc k6 2),(nxc k6 3)])) [(iv (cnt 8 c0)),(.int .i64 0)] [[],([]++c1),(nxc d2 0),(nxc d4 0)])
theorem ES.cl2 {w0:World} {c0 c1 c2 c3:List T} {K:J2} (h:ES.txt ⟨Try.prog,w0⟩ c0 c1 c2 c3 K):Eng.cl2 ⟨Try.prog,w0⟩ 97 ES.sg [] [c0,c1,c2,c3] K:=
 AV (C:=⟨Try.prog,w0⟩) (f:=97) (fn:=Try.f97) [(141,CY.sg),(142,EB.sg)] [(1,[0,1,3,0,8,31,0,64,255,511,0,2047])] [(58,⟨[.p (.j 0) 0, .p (.j 1) 0, .t (.f 0) 8, .v, .v],[],[.bx [.z, .z, .z, .z], .bx [.t (.j 2) 8, .t (.j 3) 2, .t (.j 4) 1, .t (.j 5) 1], .ls, .ls, .ls, .ls]⟩)] Try.func97 (by kernel_rfl) (by kernel_rfl) (by kernel_rfl) h
def EP.sg:Sg:=⟨[(1,[.t 8 0, .t 2 0, .t 1 0, .t 1 0])],[(1,[.t 1, .t 1])],[]⟩
def EP.txt (C:Ctx) (c0 c1 c2 c3:List T) (K:J2):Prop:=
 BD (fun r3 x1 k2=>
 prP (bnI .lss (nx x1 1) (nx x1 0)) fun t10_15=>
 A7 t10_15 (
 BP (fun x17 k18=>
 prP (bnI .add (nx x17 1) (.int .i64 1)) fun t28_23=>
 r3 [(nx x17 0),t28_23] [(nxc k18 0),(nxc k18 1)]) fun j19=>
 ixW (cnt 8 c0) (nx x1 1) fun t12_20=>
 ldg c0 [] ((AB t12_20)*8) [.c, .c, .c, .c, .c, .c, .l 1, .c] fun ts21=>
 prP (bnI .lss (nx x1 1) (.int .i64 8)) fun t15_22=>
 A7 t15_22 (
 apW [T.c (tv (nxT ts21 5))] true (cnt 1 (nxc k2 0)) (cnt 1 [T.c (tv (nxT ts21 5))]) 8 (
 apW [T.c (.int .i64 0)] true (cnt 1 (nxc k2 1)) (cnt 1 [T.c (.int .i64 0)]) 8 (
 j19 [(nx x1 0),(nx x1 1)] [((nxc k2 0)++[T.c (tv (nxT ts21 5))]),((nxc k2 1)++[T.c (.int .i64 0)])]))) (
 j19 [(nx x1 0),(nx x1 1)] [(nxc k2 0),(nxc k2 1)])) (
 K [] [(nxc k2 0),(nxc k2 1)])) [(iv (cnt 8 c0)),(.int .i64 0)] [[],[]]
theorem EP.cl2 {w0:World} {c0 c1 c2 c3:List T} {K:J2} (h:EP.txt ⟨Try.prog,w0⟩ c0 c1 c2 c3 K):Eng.cl2 ⟨Try.prog,w0⟩ 56 EP.sg [] [c0,c1,c2,c3] K:=
 AV (C:=⟨Try.prog,w0⟩) (f:=56) (fn:=Try.f56) [] [] [(467,⟨[.p (.j 0) 0, .p (.j 1) 0, .t (.f 0) 8, .v, .v],[],[.bx [.z, .z], .bx [.t (.j 2) 1, .t (.j 3) 1], .ls, .ls]⟩),(58,⟨[.p (.j 0) 0, .p (.j 1) 0, .t (.f 0) 8, .v, .v],[],[.bx [.z, .z], .bx [.t (.j 2) 1, .t (.j 3) 1], .ls, .ls]⟩)] Try.func56 (by kernel_rfl) (by kernel_rfl) (by kernel_rfl) h
def DA.sg:Sg:=⟨[(1,[.t 1 0, .t 1 0])],[(1,[.t 1, .t 1])],[]⟩
def DA.txt (C:Ctx) (c0 c1:List T) (K:J2):Prop:=
 cl2 C 141 CY.sg [] [c0] fun v1 d2=>
 cl2 C 141 CY.sg [] [c1] fun v3 d4=>
 K [] [(nxc d2 0),(nxc d4 0)]
theorem DA.cl2 {w0:World} {c0 c1:List T} {K:J2} (h:DA.txt ⟨Try.prog,w0⟩ c0 c1 K):Eng.cl2 ⟨Try.prog,w0⟩ 114 DA.sg [] [c0,c1] K:=
 AV (C:=⟨Try.prog,w0⟩) (f:=114) (fn:=Try.f114) [(141,CY.sg)] [(1,[0,1,3,0,8,31,63,127])] [] Try.func114 (by kernel_rfl) (by kernel_rfl) (by kernel_rfl) h
def FC.sg:Sg:=⟨[(1,[.t 8 0, .t 2 0, .t 1 0, .t 1 0]),(1,[.t 1 0, .t 1 0]),(0,[.v])],[(0,[.v])],[]⟩
def FC.txt (C:Ctx) (a0:Value) (c0 c1 c2 c3 c4 c5:List T) (K:J2):Prop:=
 prP (bnI .eql (iv (cnt 8 c0)) (.int .i64 8)) fun t10_1=>
 gE t10_1 (
 gE t10_1 (
 gE t10_1 (
 gP t10_1 true (prP (bnI .eql (iv (cnt 1 c4)) (.int .i64 8))) fun t15_2=>
 prP (pk t10_1 t15_2 (.bool false)) fun t16_3=>
 gE t16_3 (
 gE t16_3 (
 gE t16_3 (
 gP t16_3 true (prP (bnI .eql (iv (cnt 1 c5)) (.int .i64 8))) fun t21_4=>
 prP (pk t16_3 t21_4 (.bool false)) fun t22_5=>
 gE t22_5 (
 gP t22_5 true ((fun K=>cl2 C 131 HS.sg [a0,(.int .i64 0),(.int .i64 7)] [] fun v6 d7=>K (nx v6 0))) fun t25_8=>
 prP (pk t22_5 t25_8 (.bool false)) fun t26_9=>
 gE t26_9 (
 gE t26_9 (
 gE t26_9 (
 gP t26_9 true (ixW (cnt 8 c0) a0) fun t31_10=>
 gE t26_9 (
 gP t26_9 true (ldc c0 [] ((AB t31_10)*8)) fun t33_11=>
 prP (pk t26_9 t33_11 (.bool false)) fun t34_12=>
 K [t34_12] [])))))))))))
theorem FC.cl2 {w0:World} {a0:Value} {c0 c1 c2 c3 c4 c5:List T} {K:J2} (h:FC.txt ⟨Try.prog,w0⟩ a0 c0 c1 c2 c3 c4 c5 K):Eng.cl2 ⟨Try.prog,w0⟩ 115 FC.sg [a0] [c0,c1,c2,c3,c4,c5] K:=
 AV (C:=⟨Try.prog,w0⟩) (f:=115) (fn:=Try.f115) [(131,HS.sg)] [] [] Try.func115 (by kernel_rfl) (by kernel_rfl) (by kernel_rfl) h
def DF.sg:Sg:=⟨[(1,[.t 8 0, .t 2 0, .t 1 0, .t 1 0]),(0,[.v])],[(0,[.t 1])],[]⟩
def DF.txt (C:Ctx) (a0:Value) (c0 c1 c2 c3:List T) (K:J2):Prop:=
 ixW (cnt 8 c0) a0 fun t12_1=>
 ldl c0 [] (((AB t12_1)*8)+6) 1 fun t14_2=>
 BD (fun r5 x3 k4=>
 prP (bnI .lss (nx x3 2) (nx x3 1)) fun t17_20=>
 A7 t17_20 (
 BP (fun x22 k23=>
 prP (bnI .add (nx x22 2) (.int .i64 1)) fun t29_31=>
 r5 [(iv (AB (nx x22 0))),(nx x22 1),t29_31] [(nxc k23 0)]) fun j24=>
 ixW (cnt 1 (GH c0 [(AB (nx x3 0))])) (nx x3 2) fun t18_25=>
 ldc c0 [(AB (nx x3 0))] ((AB t18_25)*1) fun t19_26=>
 cl2 C 81 DK.sg [t19_26] [c0,c1,c2,c3] fun v27 d28=>
 prP (bnI .geq (nx v27 0) (.int .i64 0)) fun t24_30=>
 A7 t24_30 (
 apW [T.c (nx v27 0)] true (cnt 1 (nxc k4 0)) (cnt 1 [T.c (nx v27 0)]) 8 (
 j24 [(iv (AB (nx x3 0))),(nx x3 1),(nx x3 2)] [((nxc k4 0)++[T.c (nx v27 0)])])) (
 j24 [(iv (AB (nx x3 0))),(nx x3 1),(nx x3 2)] [(nxc k4 0)])) (
 K [] [(nxc k4 0)])) [(iv (((AB t12_1)*8)+6)),(iv (cnt 1 (GH c0 [(((AB t12_1)*8)+6)]))),(.int .i64 0)] [[]]
theorem DF.cl2 {w0:World} {a0:Value} {c0 c1 c2 c3:List T} {K:J2} (h:DF.txt ⟨Try.prog,w0⟩ a0 c0 c1 c2 c3 K):Eng.cl2 ⟨Try.prog,w0⟩ 118 DF.sg [a0] [c0,c1,c2,c3] K:=
 AV (C:=⟨Try.prog,w0⟩) (f:=118) (fn:=Try.f118) [(81,DK.sg)] [] [(467,⟨[.p (.j 0) 0, .t (.j 1) 1, .n (.f 0) 1 1, .v, .v],[],[.bx [.t (.f 0) 8, .t (.f 1) 2, .t (.f 2) 1, .t (.f 3) 1], .ls]⟩),(58,⟨[.p (.j 0) 0, .t (.j 1) 1, .n (.f 0) 1 1, .v, .v],[],[.bx [.t (.f 0) 8, .t (.f 1) 2, .t (.f 2) 1, .t (.f 3) 1], .ls]⟩)] Try.func118 (by kernel_rfl) (by kernel_rfl) (by kernel_rfl) h
def B2.sg:Sg:=⟨[(2,[.t 1 2, .t 1 2]),(1,[.t 8 0, .t 2 0, .t 1 0, .t 1 0]),(0,[.v]),(0,[.v]),(0,[.v])],[],[[.t 1, .t 1]]⟩
def B2.txt (C:Ctx) (a0 a1 a2:Value) (c0 c1 c2 c3 c4 c5:List T) (K:J2):Prop:=
 ixW (cnt 1 c1) a0 fun t17_1=>
 ldc c1 [] ((AB t17_1)*1) fun t18_2=>
 prP (bnI .eql t18_2 a1) fun t20_3=>
 A7 t20_3 (
 K [] [c0,c1]) (
 ixW (cnt 1 c1) a0 fun t27_4=>
 stc c1 [] ((AB t27_4)*1) a1 fun k5=>
 cl2 C 118 DF.sg [a0] [c2,c3,c4,c5] fun v6 d7=>
 BD (fun r10 x8 k9=>
 prP (bnI .lss (nx x8 3) (nx x8 2)) fun t33_12=>
 A7 t33_12 (
 ixW (cnt 1 (nxc k9 0)) (nx x8 3) fun t34_13=>
 ldc (nxc k9 0) [] ((AB t34_13)*1) fun t35_14=>
 ixW (cnt 1 (nxc k9 1)) t35_14 fun t41_15=>
 ldc (nxc k9 1) [] ((AB t41_15)*1) fun t42_16=>
 prP (bnI .add t42_16 (nx x8 1)) fun t44_17=>
 ixW (cnt 1 (nxc k9 1)) t35_14 fun t45_18=>
 stc (nxc k9 1) [] ((AB t45_18)*1) t44_17 fun k19=>
 cl2 C 116 B2.sg [t35_14,(nx x8 0),(nx x8 1)] [k19,(nxc k9 2),c2,c3,c4,c5] fun v20 d21=>
 prP (bnI .add (nx x8 3) (.int .i64 1)) fun t52_22=>
 r10 [(nx x8 0),(nx x8 1),(nx x8 2),t52_22] [(nxc k9 0),(nxc d21 0),(nxc d21 1)]) (
 K [] [(nxc k9 1),(nxc k9 2)])) [a1,a2,(iv (cnt 1 (nxc d7 0))),(.int .i64 0)] [(nxc d7 0),c0,k5])
theorem B2.cl2 {w0:World} {a0 a1 a2:Value} {c0 c1 c2 c3 c4 c5:List T} {K:J2} (h:B2.txt ⟨Try.prog,w0⟩ a0 a1 a2 c0 c1 c2 c3 c4 c5 K):Eng.cl2 ⟨Try.prog,w0⟩ 116 B2.sg [a0,a1,a2] [c0,c1,c2,c3,c4,c5] K:=
 AV (C:=⟨Try.prog,w0⟩) (f:=116) (fn:=Try.f116) [(118,DF.sg),(116,B2.sg)] [] [(62,⟨[.p (.j 0) 0, .v, .v, .p (.j 1) 0, .t (.j 2) 1, .v, .v],[.p (.j 0) 0],[.bx [.t (.j 3) 1, .t (.j 4) 1], .bx [.t (.f 0) 8, .t (.f 1) 2, .t (.f 2) 1, .t (.f 3) 1], .ls, .ls, .ls]⟩)] Try.func116 (by kernel_rfl) (by kernel_rfl) (by kernel_rfl) h
def EW.sg:Sg:=⟨[(1,[.t 8 0, .t 2 0, .t 1 0, .t 1 0]),(1,[.t 1 0, .t 1 0]),(0,[.v])],[(1,[.t 1, .t 1])],[]⟩
def EW.txt (C:Ctx) (a0:Value) (c0 c1 c2 c3 c4 c5:List T) (K:J2):Prop:=
 cl2 C 114 DA.sg [] [c4,c5] fun v1 d2=>
 BP (fun x4 k5=>
 K [] [(nxc k5 0),(nxc k5 1)]) fun j6=>
 cl2 C 115 FC.sg [a0] [c0,c1,c2,c3,c4,c5] fun v7 d8=>
 A7 (nx v7 0) (
 cl2 C 116 B2.sg [a0,(.int .i64 1),(.int .i64 (-1))] [(nxc d2 0),(nxc d2 1),c0,c1,c2,c3] fun v10 d11=>
 j6 [] [(nxc d11 0),(nxc d11 1)]) (
 j6 [] [(nxc d2 0),(nxc d2 1)])
theorem EW.cl2 {w0:World} {a0:Value} {c0 c1 c2 c3 c4 c5:List T} {K:J2} (h:EW.txt ⟨Try.prog,w0⟩ a0 c0 c1 c2 c3 c4 c5 K):Eng.cl2 ⟨Try.prog,w0⟩ 57 EW.sg [a0] [c0,c1,c2,c3,c4,c5] K:=
 AV (C:=⟨Try.prog,w0⟩) (f:=57) (fn:=Try.f57) [(114,DA.sg),(115,FC.sg),(116,B2.sg)] [] [(7,⟨[.p (.j 0) 0, .p (.j 1) 0],[],[.bx [.z, .z], .bx [.t (.j 2) 1, .t (.j 3) 1], .ls, .ls]⟩)] Try.func57 (by kernel_rfl) (by kernel_rfl) (by kernel_rfl) h
def CB.sg:Sg:=⟨[(2,[.t 1 2, .t 1 2]),(1,[.t 8 0, .t 2 0, .t 1 0, .t 1 0]),(0,[.v])],[],[[.t 1, .t 1]]⟩
def CB.txt (C:Ctx) (a0:Value) (c0 c1 c2 c3 c4 c5:List T) (K:J2):Prop:=
 ixW (cnt 1 c1) a0 fun t13_1=>
 ldc c1 [] ((AB t13_1)*1) fun t14_2=>
 prP (bnI .neq t14_2 (.int .i64 1)) fun t15_3=>
 A7 t15_3 (
 K [] [c0,c1]) (
 ixW (cnt 1 c0) a0 fun t21_4=>
 ldc c0 [] ((AB t21_4)*1) fun t22_5=>
 prP (bnI .gtr t22_5 (.int .i64 0)) fun t23_6=>
 A7 t23_6 (
 cl2 C 116 B2.sg [a0,(.int .i64 0),(.int .i64 1)] [c0,c1,c2,c3,c4,c5] fun v7 d8=>
 K [] [(nxc d8 0),(nxc d8 1)]) (
 ixW (cnt 1 c1) a0 fun t33_9=>
 stc c1 [] ((AB t33_9)*1) (.int .i64 2) fun k10=>
 cl2 C 118 DF.sg [a0] [c2,c3,c4,c5] fun v11 d12=>
 BD (fun r15 x13 k14=>
 prP (bnI .lss (nx x13 1) (nx x13 0)) fun t39_17=>
 A7 t39_17 (
 ixW (cnt 1 (nxc k14 0)) (nx x13 1) fun t40_18=>
 ldc (nxc k14 0) [] ((AB t40_18)*1) fun t41_19=>
 cl2 C 117 CB.sg [t41_19] [(nxc k14 1),(nxc k14 2),c2,c3,c4,c5] fun v20 d21=>
 prP (bnI .add (nx x13 1) (.int .i64 1)) fun t46_22=>
 r15 [(nx x13 0),t46_22] [(nxc k14 0),(nxc d21 0),(nxc d21 1)]) (
 K [] [(nxc k14 1),(nxc k14 2)])) [(iv (cnt 1 (nxc d12 0))),(.int .i64 0)] [(nxc d12 0),c0,k10]))
theorem CB.cl2 {w0:World} {a0:Value} {c0 c1 c2 c3 c4 c5:List T} {K:J2} (h:CB.txt ⟨Try.prog,w0⟩ a0 c0 c1 c2 c3 c4 c5 K):Eng.cl2 ⟨Try.prog,w0⟩ 117 CB.sg [a0] [c0,c1,c2,c3,c4,c5] K:=
 AV (C:=⟨Try.prog,w0⟩) (f:=117) (fn:=Try.f117) [(116,B2.sg),(118,DF.sg),(117,CB.sg)] [] [(126,⟨[.p (.j 0) 0, .p (.j 1) 0, .t (.j 2) 1, .v, .v],[.p (.j 0) 0],[.bx [.t (.j 3) 1, .t (.j 4) 1], .bx [.t (.f 0) 8, .t (.f 1) 2, .t (.f 2) 1, .t (.f 3) 1], .ls, .ls, .ls]⟩)] Try.func117 (by kernel_rfl) (by kernel_rfl) (by kernel_rfl) h
def EY.sg:Sg:=⟨[(1,[.t 8 0, .t 2 0, .t 1 0, .t 1 0]),(1,[.t 1 0, .t 1 0]),(0,[.v])],[(1,[.t 1, .t 1])],[]⟩
def EY.txt (C:Ctx) (a0:Value) (c0 c1 c2 c3 c4 c5:List T) (K:J2):Prop:=
 cl2 C 114 DA.sg [] [c4,c5] fun v1 d2=>
 BP (fun x4 k5=>
 K [] [(nxc k5 0),(nxc k5 1)]) fun j6=>
 cl2 C 115 FC.sg [a0] [c0,c1,c2,c3,c4,c5] fun v7 d8=>
 A7 (nx v7 0) (
 cl2 C 117 CB.sg [a0] [(nxc d2 0),(nxc d2 1),c0,c1,c2,c3] fun v10 d11=>
 j6 [] [(nxc d11 0),(nxc d11 1)]) (
 j6 [] [(nxc d2 0),(nxc d2 1)])
theorem EY.cl2 {w0:World} {a0:Value} {c0 c1 c2 c3 c4 c5:List T} {K:J2} (h:EY.txt ⟨Try.prog,w0⟩ a0 c0 c1 c2 c3 c4 c5 K):Eng.cl2 ⟨Try.prog,w0⟩ 59 EY.sg [a0] [c0,c1,c2,c3,c4,c5] K:=
 AV (C:=⟨Try.prog,w0⟩) (f:=59) (fn:=Try.f59) [(114,DA.sg),(115,FC.sg),(117,CB.sg)] [] [(7,⟨[.p (.j 0) 0, .p (.j 1) 0],[],[.bx [.z, .z], .bx [.t (.j 2) 1, .t (.j 3) 1], .ls, .ls]⟩)] Try.func59 (by kernel_rfl) (by kernel_rfl) (by kernel_rfl) h
def GM.sg:Sg:=⟨[(1,[.t 1 0, .t 1 0])],[(0,[.t 1])],[]⟩
def GM.txt (C:Ctx) (c0 c1:List T) (K:J2):Prop:=
 BD (fun r3 x1 k2=>
 prP (bnI .lss (nx x1 1) (nx x1 0)) fun t10_15=>
 A7 t10_15 (
 BP (fun x17 k18=>
 prP (bnI .add (nx x17 1) (.int .i64 1)) fun t20_23=>
 r3 [(nx x17 0),t20_23] [(nxc k18 0)]) fun j19=>
 ixW (cnt 1 c1) (nx x1 1) fun t12_20=>
 ldc c1 [] ((AB t12_20)*1) fun t13_21=>
 prP (bnI .eql t13_21 (.int .i64 2)) fun t15_22=>
 A7 t15_22 (
 apW [T.c (nx x1 1)] true (cnt 1 (nxc k2 0)) (cnt 1 [T.c (nx x1 1)]) 8 (
 j19 [(nx x1 0),(nx x1 1)] [((nxc k2 0)++[T.c (nx x1 1)])])) (
 j19 [(nx x1 0),(nx x1 1)] [(nxc k2 0)])) (
 K [] [(nxc k2 0)])) [(iv (cnt 1 c1)),(.int .i64 0)] [[]]
theorem GM.cl2 {w0:World} {c0 c1:List T} {K:J2} (h:GM.txt ⟨Try.prog,w0⟩ c0 c1 K):Eng.cl2 ⟨Try.prog,w0⟩ 60 GM.sg [] [c0,c1] K:=
 AV (C:=⟨Try.prog,w0⟩) (f:=60) (fn:=Try.f60) [] [] [(467,⟨[.t (.j 0) 1, .t (.f 1) 1, .v, .v],[],[.ls]⟩),(58,⟨[.t (.j 0) 1, .t (.f 1) 1, .v, .v],[],[.ls]⟩)] Try.func60 (by kernel_rfl) (by kernel_rfl) (by kernel_rfl) h
def FR.sg:Sg:=⟨[(1,[.t 8 0, .t 2 0, .t 1 0, .t 1 0]),(0,[.v])],[(0,[.v])],[]⟩
def FR.txt (C:Ctx) (a0:Value) (c0 c1 c2 c3:List T) (K:J2):Prop:=
 prP (bnI .sub (iv (cnt 8 c0)) (.int .i64 1)) fun t15_1=>
 cl2 C 131 HS.sg [a0,(.int .i64 0),t15_1] [] fun v2 d3=>
 prP (un .not (nx v2 0)) fun t17_5=>
 gE t17_5 (
 gE t17_5 (
 gE t17_5 (
 gP t17_5 false (ixW (cnt 8 c0) a0) fun t22_6=>
 gE t17_5 (
 gP t17_5 false (ldc c0 [] ((AB t22_6)*8)) fun t24_7=>
 gP t17_5 false (prP (un .not t24_7)) fun t25_8=>
 prP (pk t17_5 (.bool true) t25_8) fun t26_9=>
 A7 t26_9 (
 K [(.int .i64 0)] []) (
 ixW (cnt 8 c0) a0 fun t31_10=>
 ldc c0 [] (((AB t31_10)*8)+1) fun t33_11=>
 cl2 C 98 DV.sg [a0,t33_11] [] fun v12 d13=>
 BD (fun r17 x15 k16=>
 prP (bnI .lss (nx x15 3) (nx x15 2)) fun t39_19=>
 A7 t39_19 (
 ixW (cnt 8 c0) (nx x15 3) fun t40_20=>
 ldg c0 [] ((AB t40_20)*8) [.c, .c, .c, .c, .c, .c, .l 1, .c] fun ts21=>
 BD (fun r24 x22 k23=>
 prP (bnI .lss (nx x22 6) (nx x22 5)) fun t46_26=>
 A7 t46_26 (
 BP (fun x28 k29=>
 prP (bnI .add (nx x28 6) (.int .i64 1)) fun t58_36=>
 r24 [(nx x28 0),(nx x28 1),(nx x28 2),(nx x28 3),(iv (AB (nx x28 4))),(nx x28 5),t58_36,(nx x28 7),(nx x28 8),(nx x28 9),(nx x28 10),(nx x28 11),(nx x28 12),(iv (AB (nx x28 13))),(nx x28 14)] []) fun j30=>
 ixW (cnt 1 (GH c0 [(AB (nx x22 4))])) (nx x22 6) fun t47_31=>
 ldc c0 [(AB (nx x22 4))] ((AB t47_31)*1) fun t48_32=>
 gE (nx x22 7) (
 gE (nx x22 7) (
 gP (nx x22 7) true (prP (bnI .eql t48_32 (nx x22 0))) fun t54_33=>
 prP (pk (nx x22 7) t54_33 (.bool false)) fun t55_34=>
 A7 t55_34 (
 prP (bnI .add (nx x22 1) (.int .i64 1)) fun t57_35=>
 j30 [(nx x22 0),t57_35,(nx x22 2),(nx x22 3),(iv (AB (nx x22 4))),(nx x22 5),(nx x22 6),(nx x22 7),(nx x22 8),(nx x22 9),(nx x22 10),(nx x22 11),(nx x22 12),(iv (AB (nx x22 13))),(nx x22 14)] []) (
 j30 [(nx x22 0),(nx x22 1),(nx x22 2),(nx x22 3),(iv (AB (nx x22 4))),(nx x22 5),(nx x22 6),(nx x22 7),(nx x22 8),(nx x22 9),(nx x22 10),(nx x22 11),(nx x22 12),(iv (AB (nx x22 13))),(nx x22 14)] [])))) (
 prP (bnI .add (nx x22 3) (.int .i64 1)) fun t59_37=>
 r17 [(nx x22 0),(nx x22 1),(nx x22 2),t59_37] [])) [(nx x15 0),(nx x15 1),(nx x15 2),(nx x15 3),(iv (((AB t40_20)*8)+6)),(iv (cnt 1 (GH c0 [(((AB t40_20)*8)+6)]))),(.int .i64 0),(tv (nxT ts21 0)),(tv (nxT ts21 1)),(tv (nxT ts21 2)),(tv (nxT ts21 3)),(tv (nxT ts21 4)),(tv (nxT ts21 5)),(iv (((AB t40_20)*8)+6)),(tv (nxT ts21 7))] []) (
 K [(nx x15 1)] [])) [(nx v12 0),(.int .i64 0),(iv (cnt 8 c0)),(.int .i64 0)] [])))))
theorem FR.cl2 {w0:World} {a0:Value} {c0 c1 c2 c3:List T} {K:J2} (h:FR.txt ⟨Try.prog,w0⟩ a0 c0 c1 c2 c3 K):Eng.cl2 ⟨Try.prog,w0⟩ 100 FR.sg [a0] [c0,c1,c2,c3] K:=
 AV (C:=⟨Try.prog,w0⟩) (f:=100) (fn:=Try.f100) [(131,HS.sg),(98,DV.sg)] [] [(512819,⟨[.v, .v, .p (.j 0) 0, .t (.f 0) 8, .v, .v, .n (.f 0) 1 1, .v, .v],[],[.bx [.v, .v, .v, .v, .v, .v, .n (.f 0) 1 1, .v]]⟩),(64102,⟨[.v, .v, .p (.j 0) 0, .t (.f 0) 8, .v, .v, .n (.f 0) 1 1, .v, .v],[],[.bx [.v, .v, .v, .v, .v, .v, .n (.f 0) 1 1, .v]]⟩),(250,⟨[.v, .v, .t (.f 0) 8, .v, .v],[],[]⟩)] Try.func100 (by kernel_rfl) (by kernel_rfl) (by kernel_rfl) h
def ET.sg:Sg:=⟨[(1,[.t 8 0, .t 2 0, .t 1 0, .t 1 0])],[(1,[.t 8, .t 2, .t 1, .t 1]),(0,[.t 1])],[]⟩
def ET.txt (C:Ctx) (c0 c1 c2 c3:List T) (K:J2):Prop:=
 cl2 C 97 ES.sg [] [c0,c1,c2,c3] fun v1 d2=>
 prP (bnI .neq (iv (cnt 8 c0)) (.int .i64 8)) fun t20_3=>
 A7 t20_3 (
 K [] [(nxc d2 0),(nxc d2 1),(nxc d2 2),(nxc d2 3),[]]) (
 cl2 C 56 EP.sg [] [c0,c1,c2,c3] fun v4 d5=>
 BD (fun r8 x6 k7=>
 prP (bnI .lss (nx x6 1) (nx x6 0)) fun t28_10=>
 A7 t28_10 (
 ixW (cnt 1 c2) (nx x6 1) fun t29_11=>
 ldc c2 [] ((AB t29_11)*1) fun t30_12=>
 cl2 C 81 DK.sg [t30_12] [c0,c1,c2,c3] fun v13 d14=>
 cl2 C 57 EW.sg [(nx v13 0)] [c0,c1,c2,c3,(nxc k7 4),(nxc k7 5)] fun v16 d17=>
 prP (bnI .add (nx x6 1) (.int .i64 1)) fun t37_18=>
 r8 [(nx x6 0),t37_18] [(nxc k7 0),(nxc k7 1),(nxc k7 2),(nxc k7 3),(nxc d17 0),(nxc d17 1)]) (
 BD (fun r21 x19 k20=>
 prP (bnI .lss (nx x19 1) (nx x19 0)) fun t42_23=>
 A7 t42_23 (
 ixW (cnt 1 c2) (nx x19 1) fun t43_24=>
 ldc c2 [] ((AB t43_24)*1) fun t44_25=>
 cl2 C 81 DK.sg [t44_25] [c0,c1,c2,c3] fun v26 d27=>
 cl2 C 59 EY.sg [(nx v26 0)] [c0,c1,c2,c3,(nxc k20 4),(nxc k20 5)] fun v29 d30=>
 prP (bnI .add (nx x19 1) (.int .i64 1)) fun t51_31=>
 r21 [(nx x19 0),t51_31] [(nxc k20 0),(nxc k20 1),(nxc k20 2),(nxc k20 3),(nxc d30 0),(nxc d30 1)]) (
 cl2 C 60 GM.sg [] [(nxc k20 4),(nxc k20 5)] fun v32 d33=>
 BD (fun r36 x34 k35=>
 prP (bnI .lss (nx x34 1) (nx x34 0)) fun t56_75=>
 A7 t56_75 (
 ixW (cnt 1 (nxc k35 1)) (nx x34 1) fun t57_76=>
 ldc (nxc k35 1) [] ((AB t57_76)*1) fun t58_77=>
 ixW (cnt 8 c0) t58_77 fun t64_78=>
 ldc c0 [] (((AB t64_78)*8)+1) fun t66_79=>
 cl2 C 98 DV.sg [t58_77,t66_79] [] fun v80 d81=>
 apW [T.c (nx v80 0)] true (cnt 1 (nxc k35 0)) (cnt 1 [T.c (nx v80 0)]) 8 (
 ixW (cnt 8 c0) t58_77 fun t76_83=>
 ldc c0 [] (((AB t76_83)*8)+1) fun t78_84=>
 cl2 C 99 I8.sg [t78_84] [] fun v85 d86=>
 ixW (cnt 8 (nxc k35 2)) t58_77 fun t80_87=>
 stg (nxc k35 2) [] ((AB t80_87)*8) [T.c (nx v85 0),T.c (nx v85 1),T.c (nx v85 2),T.c (nx v85 3),T.c (nx v85 4),T.c (nx v85 5),T.l 1 (nxc d86 0),T.c (nx v85 6)] fun k88=>
 prP (bnI .add (nx x34 1) (.int .i64 1)) fun t81_89=>
 r36 [(nx x34 0),t81_89] [((nxc k35 0)++[T.c (nx v80 0)]),(nxc k35 1),k88,(nxc k35 3),(nxc k35 4),(nxc k35 5)])) (
 BD (fun r92 x90 k91=>
 prP (bnI .lss (nx x90 1) (nx x90 0)) fun t86_94=>
 A7 t86_94 (
 BP (fun x96 k97=>
 prP (bnI .add (nx x96 1) (.int .i64 1)) fun t115_110=>
 r92 [(nx x96 0),t115_110] [(nxc k97 0),(nxc k97 1),(nxc k97 2),(nxc k97 3),(nxc k97 4)]) fun j98=>
 ixW (cnt 8 (nxc k91 1)) (nx x90 1) fun t91_99=>
 stc (nxc k91 1) [] (((AB t91_99)*8)+7) (.bool false) fun k100=>
 ldc k100 [] ((AB t91_99)*8) fun t98_101=>
 A7 t98_101 (
 ldc k100 [] (((AB t91_99)*8)+3) fun t103_102=>
 ldc k100 [] (((AB t91_99)*8)+4) fun t107_103=>
 prP (bnI .add t103_102 t107_103) fun t108_104=>
 cl2 C 100 FR.sg [(nx x90 1)] [k100,(nxc k91 2),(nxc k91 3),(nxc k91 4)] fun v105 d106=>
 prP (bnI .add t108_104 (nx v105 0)) fun t112_108=>
 stc k100 [] (((AB t91_99)*8)+5) t112_108 fun k109=>
 j98 [(nx x90 0),(nx x90 1)] [(nxc k91 0),k109,(nxc k91 2),(nxc k91 3),(nxc k91 4)]) (
 j98 [(nx x90 0),(nx x90 1)] [(nxc k91 0),k100,(nxc k91 2),(nxc k91 3),(nxc k91 4)])) (
 K [] [(nxc k91 1),(nxc k91 2),[],(nxc k91 4),(nxc k91 0)])) [(iv (cnt 8 (nxc k35 2))),(.int .i64 0)] [(nxc k35 0),(nxc k35 2),(nxc k35 3),(nxc k35 4),(nxc k35 5)])) [(iv (cnt 1 (nxc d33 0))),(.int .i64 0)] [[],(nxc d33 0),(nxc k20 0),(nxc k20 1),(nxc k20 2),(nxc k20 3)])) [(iv (cnt 1 c2)),(.int .i64 0)] [(nxc k7 0),(nxc k7 1),(nxc k7 2),(nxc k7 3),(nxc k7 4),(nxc k7 5)])) [(iv (cnt 1 c2)),(.int .i64 0)] [(nxc d2 0),(nxc d2 1),(nxc d2 2),(nxc d2 3),(nxc d5 0),(nxc d5 1)])
theorem ET.cl2 {w0:World} {c0 c1 c2 c3:List T} {K:J2} (h:ET.txt ⟨Try.prog,w0⟩ c0 c1 c2 c3 K):Eng.cl2 ⟨Try.prog,w0⟩ 29 ET.sg [] [c0,c1,c2,c3] K:=
 AV (C:=⟨Try.prog,w0⟩) (f:=29) (fn:=Try.f29) [(97,ES.sg),(56,EP.sg),(81,DK.sg),(57,EW.sg),(59,EY.sg),(60,GM.sg),(98,DV.sg),(99,I8.sg),(100,FR.sg)] [(8,[0,0,0,0,12,31,63]),(13,[0,0,0,0,12,31,63]),(20,[0,1,0,0,8,0,56,120,248,504,1023,2047]),(28,[0,0,2,6,14,0,32,96,224,510,0,0,3072,8190,16383,32767,65535])] [(32723,⟨[.p (.j 0) 0, .p (.j 1) 0, .t (.j 2) 1, .v, .v],[],[.bx [.z, .z, .z, .z], .bx [.t (.j 3) 8, .t (.j 4) 2, .t (.j 5) 1, .t (.j 6) 1], .ls, .ls, .ls, .ls, .ls]⟩),(4090,⟨[.p (.j 0) 0, .p (.j 1) 0, .t (.j 2) 1, .v, .v],[],[.bx [.z, .z, .z, .z], .bx [.t (.j 3) 8, .t (.j 4) 2, .t (.j 5) 1, .t (.j 6) 1], .ls, .ls, .ls, .ls, .ls]⟩),(2042,⟨[.p (.j 0) 0, .p (.j 1) 0, .p (.j 2) 0, .t (.j 3) 1, .t (.j 4) 1, .v, .v],[],[.bx [.t (.f 0) 8, .t (.f 1) 2, .t (.f 2) 1, .t (.f 3) 1], .bx [.z, .z, .z, .z], .bx [.t (.j 5) 8, .t (.j 6) 2, .t (.j 7) 1, .t (.j 8) 1], .ls, .ls, .ls, .ls, .ls, .ls]⟩),(506,⟨[.p (.j 0) 0, .p (.j 1) 0, .p (.j 2) 0, .p (.j 3) 0, .t (.f 2) 1, .v, .v],[],[.bx [.t (.f 0) 8, .t (.f 1) 2, .t (.f 2) 1, .t (.f 3) 1], .bx [.z, .z, .z, .z], .bx [.t (.j 4) 8, .t (.j 5) 2, .t (.j 6) 1, .t (.j 7) 1], .bx [.t (.j 8) 1, .t (.j 9) 1], .ls, .ls, .ls, .ls, .ls, .ls]⟩),(250,⟨[.p (.j 0) 0, .p (.j 1) 0, .p (.j 2) 0, .p (.j 3) 0, .t (.f 2) 1, .v, .v],[],[.bx [.t (.f 0) 8, .t (.f 1) 2, .t (.f 2) 1, .t (.f 3) 1], .bx [.z, .z, .z, .z], .bx [.t (.j 4) 8, .t (.j 5) 2, .t (.j 6) 1, .t (.j 7) 1], .bx [.t (.j 8) 1, .t (.j 9) 1], .ls, .ls, .ls, .ls, .ls, .ls]⟩)] Try.func29 (by kernel_rfl) (by kernel_rfl) (by kernel_rfl) h
def F5.sg:Sg:=⟨[(0,[.t 1 0]),(0,[.t 1 0])],[(0,[.v])],[]⟩
def F5.txt (C:Ctx) (c0 c1:List T) (K:J2):Prop:=
 prP (bnI .neq (iv (cnt 1 c0)) (iv (cnt 1 c1))) fun t10_1=>
 A7 t10_1 (
 K [(.bool false)] []) (
 BD (fun r4 x2 k3=>
 prP (bnI .lss (nx x2 0) (iv (cnt 1 c0))) fun t14_6=>
 A7 t14_6 (
 ixW (cnt 1 c0) (nx x2 0) fun t19_7=>
 ldc c0 [] ((AB t19_7)*1) fun t20_8=>
 ixW (cnt 1 c1) (nx x2 0) fun t23_9=>
 ldc c1 [] ((AB t23_9)*1) fun t24_10=>
 prP (bnI .neq t20_8 t24_10) fun t25_11=>
 A7 t25_11 (
 K [(.bool false)] []) (
 prP (bnI .add (nx x2 0) (.int .i64 1)) fun t16_12=>
 r4 [t16_12] [])) (
 K [(.bool true)] [])) [(.int .i64 0)] [])
theorem F5.cl2 {w0:World} {c0 c1:List T} {K:J2} (h:F5.txt ⟨Try.prog,w0⟩ c0 c1 K):Eng.cl2 ⟨Try.prog,w0⟩ 104 F5.sg [] [c0,c1] K:=
 AV (C:=⟨Try.prog,w0⟩) (f:=104) (fn:=Try.f104) [] [(6,[0,0,3,7,0,0,48,112,255])] [(58,⟨[.t (.f 0) 1, .t (.f 1) 1, .v],[],[]⟩)] Try.func104 (by kernel_rfl) (by kernel_rfl) (by kernel_rfl) h
def E9.sg:Sg:=⟨[(0,[.t 1 0]),(0,[.v])],[(0,[.v])],[]⟩
def E9.txt (C:Ctx) (a0:Value) (c0:List T) (K:J2):Prop:=
 BD (fun r3 x1 k2=>
 prP (bnI .lss (nx x1 2) (nx x1 1)) fun t10_5=>
 A7 t10_5 (
 ixW (cnt 1 c0) (nx x1 2) fun t11_6=>
 ldc c0 [] ((AB t11_6)*1) fun t12_7=>
 prP (bnI .eql t12_7 (nx x1 0)) fun t15_8=>
 A7 t15_8 (
 K [(.bool true)] []) (
 prP (bnI .add (nx x1 2) (.int .i64 1)) fun t16_9=>
 r3 [(nx x1 0),(nx x1 1),t16_9] [])) (
 K [(.bool false)] [])) [a0,(iv (cnt 1 c0)),(.int .i64 0)] []
theorem E9.cl2 {w0:World} {a0:Value} {c0:List T} {K:J2} (h:E9.txt ⟨Try.prog,w0⟩ a0 c0 K):Eng.cl2 ⟨Try.prog,w0⟩ 91 E9.sg [a0] [c0] K:=
 AV (C:=⟨Try.prog,w0⟩) (f:=91) (fn:=Try.f91) [] [] [(26,⟨[.v, .t (.f 0) 1, .v, .v],[],[]⟩)] Try.func91 (by kernel_rfl) (by kernel_rfl) (by kernel_rfl) h
def EN.sg:Sg:=⟨[(1,[.t 8 0, .t 2 0, .t 1 0, .t 1 0]),(1,[.t 8 0, .t 2 0, .t 1 0, .t 1 0])],[(0,[.v])],[]⟩
def EN.txt (C:Ctx) (c0 c1 c2 c3 c4 c5 c6 c7:List T) (K:J2):Prop:=
 prP (bnI .neq (iv (cnt 8 c0)) (iv (cnt 8 c4))) fun t16_1=>
 gE t16_1 (
 gE t16_1 (
 gE t16_1 (
 gE t16_1 (
 gE t16_1 (
 gE t16_1 (
 gP t16_1 false (prP (bnI .neq (iv (cnt 2 c1)) (iv (cnt 2 c5)))) fun t24_2=>
 prP (pk t16_1 (.bool true) t24_2) fun t25_3=>
 gE t25_3 (
 gE t25_3 (
 gE t25_3 (
 gE t25_3 (
 gP t25_3 false ((fun K=>cl2 C 104 F5.sg [] [c2,c6] fun v4 d5=>K (nx v4 0))) fun t31_6=>
 gP t25_3 false (prP (un .not t31_6)) fun t32_7=>
 prP (pk t25_3 (.bool true) t32_7) fun t33_8=>
 gE t33_8 (
 gE t33_8 (
 gE t33_8 (
 gE t33_8 (
 gE t33_8 (
 gE t33_8 (
 gP t33_8 false (prP (bnI .neq (iv (cnt 1 c3)) (iv (cnt 1 c7)))) fun t41_9=>
 prP (pk t33_8 (.bool true) t41_9) fun t42_10=>
 A7 t42_10 (
 K [(.bool false)] []) (
 BD (fun r13 x11 k12=>
 prP (bnI .lss (nx x11 0) (iv (cnt 8 c0))) fun t47_15=>
 A7 t47_15 (
 ixW (cnt 8 c0) (nx x11 0) fun t53_16=>
 ldg c0 [] ((AB t53_16)*8) [.c, .c, .c, .c, .c, .c, .l 1, .c] fun ts17=>
 ixW (cnt 8 c4) (nx x11 0) fun t58_18=>
 ldg c4 [] ((AB t58_18)*8) [.c, .c, .c, .c, .c, .c, .l 1, .c] fun ts19=>
 prP (bnB .neq (tv (nxT ts17 0)) (tv (nxT ts19 0))) fun t64_20=>
 gE t64_20 (
 gE t64_20 (
 gE t64_20 (
 gE t64_20 (
 gP t64_20 false (prP (bnI .neq (tv (nxT ts17 1)) (tv (nxT ts19 1)))) fun t70_21=>
 prP (pk t64_20 (.bool true) t70_21) fun t71_22=>
 gE t71_22 (
 gE t71_22 (
 gE t71_22 (
 gE t71_22 (
 gP t71_22 false (prP (bnI .neq (tv (nxT ts17 2)) (tv (nxT ts19 2)))) fun t77_23=>
 prP (pk t71_22 (.bool true) t77_23) fun t78_24=>
 gE t78_24 (
 gE t78_24 (
 gE t78_24 (
 gE t78_24 (
 gP t78_24 false (prP (bnI .neq (tv (nxT ts17 3)) (tv (nxT ts19 3)))) fun t84_25=>
 prP (pk t78_24 (.bool true) t84_25) fun t85_26=>
 gE t85_26 (
 gE t85_26 (
 gE t85_26 (
 gE t85_26 (
 gP t85_26 false (prP (bnI .neq (tv (nxT ts17 4)) (tv (nxT ts19 4)))) fun t91_27=>
 prP (pk t85_26 (.bool true) t91_27) fun t92_28=>
 gE t92_28 (
 gE t92_28 (
 gE t92_28 (
 gE t92_28 (
 gP t92_28 false (prP (bnI .neq (tv (nxT ts17 5)) (tv (nxT ts19 5)))) fun t98_29=>
 prP (pk t92_28 (.bool true) t98_29) fun t99_30=>
 gE t99_30 (
 gE t99_30 (
 gE t99_30 (
 gE t99_30 (
 gP t99_30 false (prP (bnB .neq (tv (nxT ts17 7)) (tv (nxT ts19 7)))) fun t105_31=>
 prP (pk t99_30 (.bool true) t105_31) fun t106_32=>
 gE t106_32 (
 gE t106_32 (
 gE t106_32 (
 gE t106_32 (
 gP t106_32 false ((fun K=>cl2 C 104 F5.sg [] [(GH c0 [(((AB t53_16)*8)+6)]),(GH c4 [(((AB t58_18)*8)+6)])] fun v33 d34=>K (nx v33 0))) fun t112_35=>
 gP t106_32 false (prP (un .not t112_35)) fun t113_36=>
 prP (pk t106_32 (.bool true) t113_36) fun t114_37=>
 A7 t114_37 (
 K [(.bool false)] []) (
 prP (bnI .add (nx x11 0) (.int .i64 1)) fun t49_38=>
 r13 [t49_38] [])))))))))))))))))))))))))))))) (
 BD (fun r41 x39 k40=>
 prP (bnI .lss (nx x39 0) (iv (cnt 2 c1))) fun t119_43=>
 A7 t119_43 (
 ixW (cnt 2 c1) (nx x39 0) fun t125_44=>
 ldg c1 [] ((AB t125_44)*2) [.c, .c] fun ts45=>
 ixW (cnt 2 c5) (nx x39 0) fun t130_46=>
 ldg c5 [] ((AB t130_46)*2) [.c, .c] fun ts47=>
 prP (bnA C.P .neq 103 (.agg #[(tv (nxT ts45 0)),(tv (nxT ts45 1))]) (.agg #[(tv (nxT ts47 0)),(tv (nxT ts47 1))])) fun t132_48=>
 A7 t132_48 (
 K [(.bool false)] []) (
 prP (bnI .add (nx x39 0) (.int .i64 1)) fun t121_49=>
 r41 [t121_49] [])) (
 BD (fun r52 x50 k51=>
 prP (bnI .lss (nx x50 0) (iv (cnt 1 c3))) fun t137_54=>
 A7 t137_54 (
 ixW (cnt 1 c3) (nx x50 0) fun t143_55=>
 ldc c3 [] ((AB t143_55)*1) fun t144_56=>
 ixW (cnt 1 c7) (nx x50 0) fun t148_57=>
 ldc c7 [] ((AB t148_57)*1) fun t149_58=>
 prP (bnS .neq t144_56 t149_58) fun t150_59=>
 A7 t150_59 (
 K [(.bool false)] []) (
 prP (bnI .add (nx x50 0) (.int .i64 1)) fun t139_60=>
 r52 [t139_60] [])) (
 K [(.bool true)] [])) [(.int .i64 0)] [])) [(.int .i64 0)] [])) [(.int .i64 0)] [])))))))))))))))))
theorem EN.cl2 {w0:World} {c0 c1 c2 c3 c4 c5 c6 c7:List T} {K:J2} (h:EN.txt ⟨Try.prog,w0⟩ c0 c1 c2 c3 c4 c5 c6 c7 K):Eng.cl2 ⟨Try.prog,w0⟩ 36 EN.sg [] [c0,c1,c2,c3,c4,c5,c6,c7] K:=
 AV (C:=⟨Try.prog,w0⟩) (f:=36) (fn:=Try.f36) [(104,F5.sg)] [(13,[0,1,0,7,15,0,32,0,224,480,1023]),(18,[0,1,0,7,15,0,32,0,224,480,1023])] [(250,⟨[.p (.j 0) 0, .p (.j 1) 0, .v],[],[.bx [.t (.f 0) 8, .t (.f 1) 2, .t (.f 2) 1, .t (.f 3) 1], .bx [.t (.f 4) 8, .t (.f 5) 2, .t (.f 6) 1, .t (.f 7) 1]]⟩),(122,⟨[.p (.j 0) 0, .p (.j 1) 0, .v],[],[.bx [.t (.f 0) 8, .t (.f 1) 2, .t (.f 2) 1, .t (.f 3) 1], .bx [.t (.f 4) 8, .t (.f 5) 2, .t (.f 6) 1, .t (.f 7) 1]]⟩),(58,⟨[.p (.j 0) 0, .p (.j 1) 0, .v],[],[.bx [.t (.f 0) 8, .t (.f 1) 2, .t (.f 2) 1, .t (.f 3) 1], .bx [.t (.f 4) 8, .t (.f 5) 2, .t (.f 6) 1, .t (.f 7) 1]]⟩)] Try.func36 (by kernel_rfl) (by kernel_rfl) (by kernel_rfl) h
end Go.Proofs.Ytklmcfpgdfibnaa.P
