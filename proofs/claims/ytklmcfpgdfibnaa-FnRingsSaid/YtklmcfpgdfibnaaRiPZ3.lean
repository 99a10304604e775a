/- A part of the proof. -/
import Derived.Test.YtklmcfpgdfibnaaChecked
import Derived.Test.YtklmcfpgdfibnaaRiPZ2
import Derived.KernelRfl
namespace Go.Proofs.Ytklmcfpgdfibnaa.P
open Go Go.Proofs.Ytklmcfpgdfibnaa Go.Proofs.Ytklmcfpgdfibnaa.Eng
set_option linter.unusedVariables false
set_option maxRecDepth 100000
def DV.sg:Sg:=⟨[(1,[.t 8 0, .t 2 0, .t 1 0, .t 1 0])],[(0,[.t 1])],[]⟩
def DV.txt (C:Ctx) (c0 c1 c2 c3:List T) (K:J2):Prop:=
 AZ (fun r3 x1 k2=>
 prP (bnI .lss (nx x1 1) (nx x1 0)) fun t10_22=>
 AW t10_22 (
 BJ (fun x24 k25=>
 prP (bnI .add (nx x24 1) (.int .i64 1)) fun t35_37=>
 r3 [(nx x24 0),t35_37] [(nxc k25 0)]) fun j26=>
 ixW (cnt 8 c0) (nx x1 1) fun t12_27=>
 ldg c0 [] ((AD t12_27)*8) [.c, .c, .c, .c, .c, .c, .l 1, .c] fun ts28=>
 prP (bnI .lss (nx x1 1) (.int .i64 8)) fun t15_29=>
 gE t15_29 (
 gE t15_29 (
 prP (pk t15_29 (tv (nxT ts28 0)) (.bool false)) fun t19_30=>
 gE t19_30 (
 gE t19_30 (
 gE t19_30 (
 gE t19_30 (
 gP t19_30 true (prP (bnI .add (tv (nxT ts28 3)) (tv (nxT ts28 4)))) fun t25_31=>
 gP t19_30 true (prP (bnI .gtr t25_31 (.int .i64 0))) fun t26_32=>
 prP (pk t19_30 t26_32 (.bool false)) fun t27_33=>
 AW t27_33 (
 cl2 C 98 CJ.sg [(nx x1 1),(tv (nxT ts28 1))] [] fun v34 d35=>
 apW [T.c (nx v34 0)] true (cnt 1 (nxc k2 0)) (cnt 1 [T.c (nx v34 0)]) 8 (
 j26 [(nx x1 0),(nx x1 1)] [((nxc k2 0)++[T.c (nx v34 0)])])) (
 j26 [(nx x1 0),(nx x1 1)] [(nxc k2 0)])))))))) (
 K [] [(nxc k2 0)])) [(iv (cnt 8 c0)),(.int .i64 0)] [[]]
theorem DV.cl2 {w0:World} {c0 c1 c2 c3:List T} {K:J2} (h:DV.txt ⟨Try.prog,w0⟩ c0 c1 c2 c3 K):Eng.cl2 ⟨Try.prog,w0⟩ 35 DV.sg [] [c0,c1,c2,c3] K:=
 AV (C:=⟨Try.prog,w0⟩) (f:=35) (fn:=Try.f35) [(98,CJ.sg)] [] [(467,⟨[.t (.j 0) 1, .t (.f 0) 8, .v, .v],[],[.ls]⟩),(58,⟨[.t (.j 0) 1, .t (.f 0) 8, .v, .v],[],[.ls]⟩)] Try.func35 (by kernel_rfl) (by kernel_rfl) (by kernel_rfl) h
def C5.sg:Sg:=⟨[(2,[.t 1 2, .v, .v, .v, .v, .v, .v, .v, .v, .v, .v, .v, .v, .v, .v, .v, .v]),(0,[.v]),(0,[.v])],[],[[.t 1, .v, .v, .v, .v, .v, .v, .v, .v, .v, .v, .v, .v, .v, .v, .v, .v]]⟩
def C5.txt (C:Ctx) (a0 a1 a2 a3 a4 a5 a6 a7 a8 a9 a10 a11 a12 a13 a14 a15 a16 a17:Value) (c0:List T) (K:J2):Prop:=
 prP (bnI .lss a16 (.int .i64 0)) fun t7_1=>
 gE t7_1 (
 gE t7_1 (
 gE t7_1 (
 gE t7_1 (
 gP t7_1 false (ixW 8 a16) fun t13_2=>
 gP t7_1 false (prP (arG [a8,a9,a10,a11,a12,a13,a14,a15] t13_2)) fun t14_3=>
 prP (pk t7_1 (.bool true) t14_3) fun t15_4=>
 AW t15_4 (
 K [a0,a1,a2,a3,a4,a5,a6,a7,a8,a9,a10,a11,a12,a13,a14,a15] [c0]) (
 ixW 8 a16 fun t20_5=>
 ixW 8 a16 fun t26_6=>
 apW [T.c a16] true (cnt 1 c0) (cnt 1 [T.c a16]) 8 (
 K [(arP t26_6 0 a17 a0),(arP t26_6 1 a17 a1),(arP t26_6 2 a17 a2),(arP t26_6 3 a17 a3),(arP t26_6 4 a17 a4),(arP t26_6 5 a17 a5),(arP t26_6 6 a17 a6),(arP t26_6 7 a17 a7),(arP t20_5 0 (.bool true) a8),(arP t20_5 1 (.bool true) a9),(arP t20_5 2 (.bool true) a10),(arP t20_5 3 (.bool true) a11),(arP t20_5 4 (.bool true) a12),(arP t20_5 5 (.bool true) a13),(arP t20_5 6 (.bool true) a14),(arP t20_5 7 (.bool true) a15)] [(c0++[T.c a16])]))))))
theorem C5.cl2 {w0:World} {a0 a1 a2 a3 a4 a5 a6 a7 a8 a9 a10 a11 a12 a13 a14 a15 a16 a17:Value} {c0:List T} {K:J2} (h:C5.txt ⟨Try.prog,w0⟩ a0 a1 a2 a3 a4 a5 a6 a7 a8 a9 a10 a11 a12 a13 a14 a15 a16 a17 c0 K):Eng.cl2 ⟨Try.prog,w0⟩ 143 C5.sg [a0,a1,a2,a3,a4,a5,a6,a7,a8,a9,a10,a11,a12,a13,a14,a15,a16,a17] [c0] K:=
 AV (C:=⟨Try.prog,w0⟩) (f:=143) (fn:=Try.f143) [] [] [] Try.func143 (by kernel_rfl) (by kernel_rfl) (by kernel_rfl) h
def EG.sg:Sg:=⟨[(1,[.t 8 0, .t 2 0, .t 1 0, .t 1 0]),(0,[.t 1 0]),(0,[.v])],[(2,[.t 1, .v, .v, .v, .v, .v, .v, .v, .v, .v, .v, .v, .v, .v, .v, .v, .v])],[]⟩
def EG.txt (C:Ctx) (a0:Value) (c0 c1 c2 c3 c4:List T) (K:J2):Prop:=
 BJ (fun x2 k3=>
 AZ (fun r9 x7 k8=>
 prP (bnI .lss (nx x7 1) (nx x7 0)) fun t25_26=>
 AW t25_26 (
 ixW (cnt 1 c4) (nx x7 1) fun t26_27=>
 ldc c4 [] ((AD t26_27)*1) fun t27_28=>
 cl2 C 81 BD.sg [t27_28] [c0,c1,c2,c3] fun v29 d30=>
 cl2 C 143 C5.sg [(nx x7 2),(nx x7 3),(nx x7 4),(nx x7 5),(nx x7 6),(nx x7 7),(nx x7 8),(nx x7 9),(nx x7 10),(nx x7 11),(nx x7 12),(nx x7 13),(nx x7 14),(nx x7 15),(nx x7 16),(nx x7 17),(nx v29 0),(.int .i64 (-1))] [(nxc k8 0)] fun v32 d33=>
 prP (bnI .add (nx x7 1) (.int .i64 1)) fun t33_34=>
 r9 [(nx x7 0),t33_34,(nx v32 0),(nx v32 1),(nx v32 2),(nx v32 3),(nx v32 4),(nx v32 5),(nx v32 6),(nx v32 7),(nx v32 8),(nx v32 9),(nx v32 10),(nx v32 11),(nx v32 12),(nx v32 13),(nx v32 14),(nx v32 15)] [(nxc d33 0)]) (
 AZ (fun r37 x35 k36=>
 prP (bnI .lss (nx x35 0) (iv (cnt 1 (nxc k36 0)))) fun t40_39=>
 AW t40_39 (
 ixW (cnt 1 (nxc k36 0)) (nx x35 0) fun t49_40=>
 ldc (nxc k36 0) [] ((AD t49_40)*1) fun t50_41=>
 cl2 C 118 CN.sg [t50_41] [c0,c1,c2,c3] fun v42 d43=>
 AZ (fun r46 x44 k45=>
 prP (bnI .lss (nx x44 2) (nx x44 1)) fun t54_48=>
 AW t54_48 (
 ixW (cnt 1 (nxc k45 0)) (nx x44 2) fun t55_49=>
 ldc (nxc k45 0) [] ((AD t55_49)*1) fun t56_50=>
 ixW (cnt 1 (nxc k45 1)) (nx x44 0) fun t64_51=>
 ldc (nxc k45 1) [] ((AD t64_51)*1) fun t65_52=>
 cl2 C 143 C5.sg [(nx x44 3),(nx x44 4),(nx x44 5),(nx x44 6),(nx x44 7),(nx x44 8),(nx x44 9),(nx x44 10),(nx x44 11),(nx x44 12),(nx x44 13),(nx x44 14),(nx x44 15),(nx x44 16),(nx x44 17),(nx x44 18),t56_50,t65_52] [(nxc k45 1)] fun v53 d54=>
 prP (bnI .add (nx x44 2) (.int .i64 1)) fun t67_55=>
 r46 [(nx x44 0),(nx x44 1),t67_55,(nx v53 0),(nx v53 1),(nx v53 2),(nx v53 3),(nx v53 4),(nx v53 5),(nx v53 6),(nx v53 7),(nx v53 8),(nx v53 9),(nx v53 10),(nx v53 11),(nx v53 12),(nx v53 13),(nx v53 14),(nx v53 15)] [(nxc k45 0),(nxc d54 0)]) (
 prP (bnI .add (nx x44 0) (.int .i64 1)) fun t42_56=>
 r37 [t42_56,(nx x44 3),(nx x44 4),(nx x44 5),(nx x44 6),(nx x44 7),(nx x44 8),(nx x44 9),(nx x44 10),(nx x44 11),(nx x44 12),(nx x44 13),(nx x44 14),(nx x44 15),(nx x44 16),(nx x44 17),(nx x44 18)] [(nxc k45 1)])) [(nx x35 0),(iv (cnt 1 (nxc d43 0))),(.int .i64 0),(nx x35 1),(nx x35 2),(nx x35 3),(nx x35 4),(nx x35 5),(nx x35 6),(nx x35 7),(nx x35 8),(nx x35 9),(nx x35 10),(nx x35 11),(nx x35 12),(nx x35 13),(nx x35 14),(nx x35 15),(nx x35 16)] [(nxc d43 0),(nxc k36 0)]) (
 K [(nx x35 1),(nx x35 2),(nx x35 3),(nx x35 4),(nx x35 5),(nx x35 6),(nx x35 7),(nx x35 8),(nx x35 9),(nx x35 10),(nx x35 11),(nx x35 12),(nx x35 13),(nx x35 14),(nx x35 15),(nx x35 16)] [(nxc k36 0)])) [(.int .i64 0),(nx x7 2),(nx x7 3),(nx x7 4),(nx x7 5),(nx x7 6),(nx x7 7),(nx x7 8),(nx x7 9),(nx x7 10),(nx x7 11),(nx x7 12),(nx x7 13),(nx x7 14),(nx x7 15),(nx x7 16),(nx x7 17)] [(nxc k8 0)])) [(iv (cnt 1 c4)),(.int .i64 0),(nx x2 0),(nx x2 1),(nx x2 2),(nx x2 3),(nx x2 4),(nx x2 5),(nx x2 6),(nx x2 7),(nx x2 8),(nx x2 9),(nx x2 10),(nx x2 11),(nx x2 12),(nx x2 13),(nx x2 14),(nx x2 15)] [[]]) fun j4=>
 prP (bnI .geq a0 (.int .i64 0)) fun t16_5=>
 AW t16_5 (
 ixW 8 a0 fun t21_6=>
 j4 [(.int .i64 0),(.int .i64 0),(.int .i64 0),(.int .i64 0),(.int .i64 0),(.int .i64 0),(.int .i64 0),(.int .i64 0),(arP t21_6 0 (.bool true) (.bool false)),(arP t21_6 1 (.bool true) (.bool false)),(arP t21_6 2 (.bool true) (.bool false)),(arP t21_6 3 (.bool true) (.bool false)),(arP t21_6 4 (.bool true) (.bool false)),(arP t21_6 5 (.bool true) (.bool false)),(arP t21_6 6 (.bool true) (.bool false)),(arP t21_6 7 (.bool true) (.bool false))] []) (
 j4 [(.int .i64 0),(.int .i64 0),(.int .i64 0),(.int .i64 0),(.int .i64 0),(.int .i64 0),(.int .i64 0),(.int .i64 0),(.bool false),(.bool false),(.bool false),(.bool false),(.bool false),(.bool false),(.bool false),(.bool false)] [])
theorem EG.cl2 {w0:World} {a0:Value} {c0 c1 c2 c3 c4:List T} {K:J2} (h:EG.txt ⟨Try.prog,w0⟩ a0 c0 c1 c2 c3 c4 K):Eng.cl2 ⟨Try.prog,w0⟩ 102 EG.sg [a0] [c0,c1,c2,c3,c4] K:=
 AV (C:=⟨Try.prog,w0⟩) (f:=102) (fn:=Try.f102) [(81,BD.sg),(143,C5.sg),(118,CN.sg)] [(12,[0,0,2,6,14,0,62,126,255,511,0])] [(7,⟨[.t (.f 4) 1, .p (.j 0) 0, .p (.j 1) 0],[],[.bx [.t (.f 0) 8, .t (.f 1) 2, .t (.f 2) 1, .t (.f 3) 1], .bx [.z, .v, .v, .v, .v, .v, .v, .v, .v, .v, .v, .v, .v, .v, .v, .v, .v]]⟩),(250,⟨[.p (.j 0) 0, .p (.j 1) 0, .v],[],[.bx [.t (.f 0) 8, .t (.f 1) 2, .t (.f 2) 1, .t (.f 3) 1], .bx [.t (.j 2) 1, .v, .v, .v, .v, .v, .v, .v, .v, .v, .v, .v, .v, .v, .v, .v, .v], .ls]⟩),(16018,⟨[.p (.j 0) 0, .p (.j 1) 0, .v, .t (.j 2) 1, .v, .v],[],[.bx [.t (.f 0) 8, .t (.f 1) 2, .t (.f 2) 1, .t (.f 3) 1], .bx [.t (.j 3) 1, .v, .v, .v, .v, .v, .v, .v, .v, .v, .v, .v, .v, .v, .v, .v, .v], .ls, .ls]⟩),(122,⟨[.p (.j 0) 0, .p (.j 1) 0, .t (.f 4) 1, .v, .v],[],[.bx [.t (.f 0) 8, .t (.f 1) 2, .t (.f 2) 1, .t (.f 3) 1], .bx [.t (.j 2) 1, .v, .v, .v, .v, .v, .v, .v, .v, .v, .v, .v, .v, .v, .v, .v, .v], .ls]⟩)] Try.func102 (by kernel_rfl) (by kernel_rfl) (by kernel_rfl) h
def C9.sg:Sg:=⟨[(2,[.t 1 0, .v, .v, .v, .v, .v, .v, .v, .v, .v, .v, .v, .v, .v, .v, .v, .v]),(1,[.t 8 0, .t 2 0, .t 1 0, .t 1 0])],[(0,[.t 1])],[[.a 0, .v, .v, .v, .v, .v, .v, .v, .v, .v, .v, .v, .v, .v, .v, .v, .v]]⟩
def C9.txt (C:Ctx) (a0 a1 a2 a3 a4 a5 a6 a7 a8 a9 a10 a11 a12 a13 a14 a15:Value) (c0 c1 c2 c3 c4:List T) (K:J2):Prop:=
 AZ (fun r3 x1 k2=>
 prP (bnI .lss (nx x1 0) (.int .i64 8)) fun t8_20=>
 AW t8_20 (
 BJ (fun x22 k23=>
 prP (bnI .add (nx x22 0) (.int .i64 1)) fun t27_33=>
 r3 [t27_33,(nx x22 1),(nx x22 2),(nx x22 3),(nx x22 4),(nx x22 5),(nx x22 6),(nx x22 7),(nx x22 8),(nx x22 9),(nx x22 10),(nx x22 11),(nx x22 12),(nx x22 13),(nx x22 14),(nx x22 15),(nx x22 16)] [(nxc k23 0)]) fun j24=>
 cl2 C 91 B8.sg [(nx x1 0)] [c0] fun v25 d26=>
 AW (nx v25 0) (
 ixW (cnt 8 c1) (nx x1 0) fun t21_28=>
 ldc c1 [] (((AD t21_28)*8)+1) fun t23_29=>
 cl2 C 98 CJ.sg [(nx x1 0),t23_29] [] fun v30 d31=>
 apW [T.c (nx v30 0)] true (cnt 1 (nxc k2 0)) (cnt 1 [T.c (nx v30 0)]) 8 (
 j24 [(nx x1 0),(nx x1 1),(nx x1 2),(nx x1 3),(nx x1 4),(nx x1 5),(nx x1 6),(nx x1 7),(nx x1 8),(nx x1 9),(nx x1 10),(nx x1 11),(nx x1 12),(nx x1 13),(nx x1 14),(nx x1 15),(nx x1 16)] [((nxc k2 0)++[T.c (nx v30 0)])])) (
 j24 [(nx x1 0),(nx x1 1),(nx x1 2),(nx x1 3),(nx x1 4),(nx x1 5),(nx x1 6),(nx x1 7),(nx x1 8),(nx x1 9),(nx x1 10),(nx x1 11),(nx x1 12),(nx x1 13),(nx x1 14),(nx x1 15),(nx x1 16)] [(nxc k2 0)])) (
 K [(nx x1 1),(nx x1 2),(nx x1 3),(nx x1 4),(nx x1 5),(nx x1 6),(nx x1 7),(nx x1 8),(nx x1 9),(nx x1 10),(nx x1 11),(nx x1 12),(nx x1 13),(nx x1 14),(nx x1 15),(nx x1 16)] [(nxc k2 0)])) [(.int .i64 0),a0,a1,a2,a3,a4,a5,a6,a7,a8,a9,a10,a11,a12,a13,a14,a15] [[]]
theorem C9.cl2 {w0:World} {a0 a1 a2 a3 a4 a5 a6 a7 a8 a9 a10 a11 a12 a13 a14 a15:Value} {c0 c1 c2 c3 c4:List T} {K:J2} (h:C9.txt ⟨Try.prog,w0⟩ a0 a1 a2 a3 a4 a5 a6 a7 a8 a9 a10 a11 a12 a13 a14 a15 c0 c1 c2 c3 c4 K):Eng.cl2 ⟨Try.prog,w0⟩ 103 C9.sg [a0,a1,a2,a3,a4,a5,a6,a7,a8,a9,a10,a11,a12,a13,a14,a15] [c0,c1,c2,c3,c4] K:=
 AV (C:=⟨Try.prog,w0⟩) (f:=103) (fn:=Try.f103) [(91,B8.sg),(98,CJ.sg)] [] [(467,⟨[.p (.j 0) 0, .p (.j 1) 0, .t (.j 2) 1, .v],[.p (.j 0) 0, .t (.f 0) 1, .t (.f 1) 8, .t (.f 2) 2, .t (.f 3) 1, .t (.f 4) 1],[.bx [.t (.f 0) 1, .v, .v, .v, .v, .v, .v, .v, .v, .v, .v, .v, .v, .v, .v, .v, .v], .bx [.t (.f 1) 8, .t (.f 2) 2, .t (.f 3) 1, .t (.f 4) 1], .ls]⟩),(58,⟨[.p (.j 0) 0, .p (.j 1) 0, .t (.j 2) 1, .v],[.p (.j 0) 0, .t (.f 0) 1, .t (.f 1) 8, .t (.f 2) 2, .t (.f 3) 1, .t (.f 4) 1],[.bx [.t (.f 0) 1, .v, .v, .v, .v, .v, .v, .v, .v, .v, .v, .v, .v, .v, .v, .v, .v], .bx [.t (.f 1) 8, .t (.f 2) 2, .t (.f 3) 1, .t (.f 4) 1], .ls]⟩)] Try.func103 (by kernel_rfl) (by kernel_rfl) (by kernel_rfl) h
def DY.sg:Sg:=⟨[(1,[.t 8 0, .t 2 0, .t 1 0, .t 1 0]),(0,[.t 1 0])],[(0,[.t 1])],[]⟩
def DY.txt (C:Ctx) (c0 c1 c2 c3 c4:List T) (K:J2):Prop:=
 cl2 C 102 EG.sg [(.int .i64 (-1))] [c0,c1,c2,c3,c4] fun v1 d2=>
 cl2 C 103 C9.sg [(nx v1 0),(nx v1 1),(nx v1 2),(nx v1 3),(nx v1 4),(nx v1 5),(nx v1 6),(nx v1 7),(nx v1 8),(nx v1 9),(nx v1 10),(nx v1 11),(nx v1 12),(nx v1 13),(nx v1 14),(nx v1 15)] [(nxc d2 0),c0,c1,c2,c3] fun v3 d4=>
 K [] [(nxc d4 0)]
theorem DY.cl2 {w0:World} {c0 c1 c2 c3 c4:List T} {K:J2} (h:DY.txt ⟨Try.prog,w0⟩ c0 c1 c2 c3 c4 K):Eng.cl2 ⟨Try.prog,w0⟩ 34 DY.sg [] [c0,c1,c2,c3,c4] K:=
 AV (C:=⟨Try.prog,w0⟩) (f:=34) (fn:=Try.f34) [(102,EG.sg),(103,C9.sg)] [(1,[0,0,3,0,15,31])] [] Try.func34 (by kernel_rfl) (by kernel_rfl) (by kernel_rfl) h
def CY.sg:Sg:=⟨[(1,[.t 8 0, .t 2 0, .t 1 0, .t 1 0])],[(0,[.t 1])],[]⟩
def CY.txt (C:Ctx) (c0 c1 c2 c3:List T) (K:J2):Prop:=
 AZ (fun r3 x1 k2=>
 prP (bnI .lss (nx x1 1) (nx x1 0)) fun t10_19=>
 AW t10_19 (
 BJ (fun x21 k22=>
 prP (bnI .add (nx x21 1) (.int .i64 1)) fun t27_31=>
 r3 [(nx x21 0),t27_31] [(nxc k22 0)]) fun j23=>
 ixW (cnt 8 c0) (nx x1 1) fun t12_24=>
 ldg c0 [] ((AD t12_24)*8) [.c, .c, .c, .c, .c, .c, .l 1, .c] fun ts25=>
 prP (bnI .lss (nx x1 1) (.int .i64 8)) fun t15_26=>
 gE t15_26 (
 gE t15_26 (
 prP (pk t15_26 (tv (nxT ts25 0)) (.bool false)) fun t19_27=>
 AW t19_27 (
 cl2 C 98 CJ.sg [(nx x1 1),(tv (nxT ts25 1))] [] fun v28 d29=>
 apW [T.c (nx v28 0)] true (cnt 1 (nxc k2 0)) (cnt 1 [T.c (nx v28 0)]) 8 (
 j23 [(nx x1 0),(nx x1 1)] [((nxc k2 0)++[T.c (nx v28 0)])])) (
 j23 [(nx x1 0),(nx x1 1)] [(nxc k2 0)])))) (
 K [] [(nxc k2 0)])) [(iv (cnt 8 c0)),(.int .i64 0)] [[]]
theorem CY.cl2 {w0:World} {c0 c1 c2 c3:List T} {K:J2} (h:CY.txt ⟨Try.prog,w0⟩ c0 c1 c2 c3 K):Eng.cl2 ⟨Try.prog,w0⟩ 40 CY.sg [] [c0,c1,c2,c3] K:=
 AV (C:=⟨Try.prog,w0⟩) (f:=40) (fn:=Try.f40) [(98,CJ.sg)] [] [(467,⟨[.t (.j 0) 1, .t (.f 0) 8, .v, .v],[],[.ls]⟩),(58,⟨[.t (.j 0) 1, .t (.f 0) 8, .v, .v],[],[.ls]⟩)] Try.func40 (by kernel_rfl) (by kernel_rfl) (by kernel_rfl) h
def DM.sg:Sg:=⟨[(1,[.t 8 0, .t 2 0, .t 1 0, .t 1 0])],[(0,[.t 1])],[]⟩
def DM.txt (C:Ctx) (c0 c1 c2 c3:List T) (K:J2):Prop:=
 prP (bnI .neq (iv (cnt 8 c0)) (.int .i64 8)) fun t10_1=>
 AW t10_1 (
 K [] [[]]) (
 cl2 C 35 DV.sg [] [c0,c1,c2,c3] fun v2 d3=>
 cl2 C 34 DY.sg [] [c0,c1,c2,c3,(nxc d3 0)] fun v4 d5=>
 cl2 C 40 CY.sg [] [c0,c1,c2,c3] fun v6 d7=>
 AZ (fun r10 x8 k9=>
 prP (bnI .lss (nx x8 1) (nx x8 0)) fun t19_25=>
 AW t19_25 (
 BJ (fun x27 k28=>
 prP (bnI .add (nx x27 1) (.int .i64 1)) fun t30_36=>
 r10 [(nx x27 0),t30_36] [(nxc k28 0),(nxc k28 1),(nxc k28 2)]) fun j29=>
 ixW (cnt 1 (nxc k9 2)) (nx x8 1) fun t20_30=>
 ldc (nxc k9 2) [] ((AD t20_30)*1) fun t21_31=>
 cl2 C 91 B8.sg [t21_31] [(nxc k9 0)] fun v32 d33=>
 prP (un .not (nx v32 0)) fun t25_35=>
 AW t25_35 (
 apW [T.c t21_31] true (cnt 1 (nxc k9 1)) (cnt 1 [T.c t21_31]) 8 (
 j29 [(nx x8 0),(nx x8 1)] [(nxc k9 0),((nxc k9 1)++[T.c t21_31]),(nxc k9 2)])) (
 j29 [(nx x8 0),(nx x8 1)] [(nxc k9 0),(nxc k9 1),(nxc k9 2)])) (
 K [] [(nxc k9 1)])) [(iv (cnt 1 (nxc d7 0))),(.int .i64 0)] [(nxc d5 0),[],(nxc d7 0)])
theorem DM.cl2 {w0:World} {c0 c1 c2 c3:List T} {K:J2} (h:DM.txt ⟨Try.prog,w0⟩ c0 c1 c2 c3 K):Eng.cl2 ⟨Try.prog,w0⟩ 27 DM.sg [] [c0,c1,c2,c3] K:=
 AV (C:=⟨Try.prog,w0⟩) (f:=27) (fn:=Try.f27) [(35,DV.sg),(34,DY.sg),(40,CY.sg),(91,B8.sg)] [(3,[0,0,2,7,15])] [(2003,⟨[.t (.j 0) 1, .t (.j 1) 1, .t (.j 2) 1, .v, .v],[],[.ls, .ls, .ls]⟩),(250,⟨[.t (.j 0) 1, .t (.j 1) 1, .t (.j 2) 1, .v, .v],[],[.ls, .ls, .ls]⟩)] Try.func27 (by kernel_rfl) (by kernel_rfl) (by kernel_rfl) h
def FM.sg:Sg:=⟨[(1,[.t 8 0, .t 2 0, .t 1 0, .t 1 0])],[(0,[.v])],[]⟩
def FM.txt (C:Ctx) (c0 c1 c2 c3:List T) (K:J2):Prop:=
 cl2 C 27 DM.sg [] [c0,c1,c2,c3] fun v1 d2=>
 K [(iv (cnt 1 (nxc d2 0)))] []
theorem FM.cl2 {w0:World} {c0 c1 c2 c3:List T} {K:J2} (h:FM.txt ⟨Try.prog,w0⟩ c0 c1 c2 c3 K):Eng.cl2 ⟨Try.prog,w0⟩ 37 FM.sg [] [c0,c1,c2,c3] K:=
 AV (C:=⟨Try.prog,w0⟩) (f:=37) (fn:=Try.f37) [(27,DM.sg)] [] [] Try.func37 (by kernel_rfl) (by kernel_rfl) (by kernel_rfl) h
end Go.Proofs.Ytklmcfpgdfibnaa.P
