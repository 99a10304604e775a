/- A part of the proof. -/
import Derived.Test.YtklmcfpgdfibnaaChecked
import Derived.Test.YtklmcfpgdfibnaaRePZ3
import Derived.KernelRfl
namespace Go.Proofs.Ytklmcfpgdfibnaa.P
open Go Go.Proofs.Ytklmcfpgdfibnaa Go.Proofs.Ytklmcfpgdfibnaa.Eng
set_option linter.unusedVariables false
set_option maxRecDepth 100000
def HF.sg:Sg:=⟨[(1,[.t 8 0, .t 2 0, .t 1 0, .t 1 0]),(0,[.v]),(0,[.v])],[(0,[.v])],[]⟩
def HF.txt (C:Ctx) (a0 a1:Value) (c0 c1 c2 c3:List T) (K:J2):Prop:=
 prP (bnI .neq (iv (cnt 8 c0)) (.int .i64 8)) fun t10_1=>
 gE t10_1 (
 gE t10_1 (
 gP t10_1 false ((fun K=>cl2 C 24 BG.sg [a0] [c0,c1,c2,c3] fun v2 d3=>K (nx v2 0))) fun t14_4=>
 gP t10_1 false (prP (bnI .lss t14_4 (.int .i64 0))) fun t15_5=>
 prP (pk t10_1 (.bool true) t15_5) fun t16_6=>
 gE t16_6 (
 gE t16_6 (
 gP t16_6 false ((fun K=>cl2 C 24 BG.sg [a1] [c0,c1,c2,c3] fun v7 d8=>K (nx v7 0))) fun t20_9=>
 gP t16_6 false (prP (bnI .lss t20_9 (.int .i64 0))) fun t21_10=>
 prP (pk t16_6 (.bool true) t21_10) fun t22_11=>
 AY t22_11 (
 K [(.bool false)] []) (
 cl2 C 24 BG.sg [a0] [c0,c1,c2,c3] fun v12 d13=>
 ixW (cnt 8 c0) (nx v12 0) fun t29_15=>
 ldl c0 [] (((AA t29_15)*8)+6) 1 fun t31_16=>
 cl2 C 93 DF.sg [(.int .i64 (-1))] [c0,c1,c2,c3,(EF c0 [(((AA t29_15)*8)+6)])] fun v17 d18=>
 cl2 C 89 CD.sg [a1] [(nxc d18 0)] fun v19 d20=>
 K [(nx v19 0)] [])))))
theorem HF.cl2 {w0:World} {a0 a1:Value} {c0 c1 c2 c3:List T} {K:J2} (h:HF.txt ⟨Try.prog,w0⟩ a0 a1 c0 c1 c2 c3 K):Eng.cl2 ⟨Try.prog,w0⟩ 26 HF.sg [a0,a1] [c0,c1,c2,c3] K:=
 AX (C:=⟨Try.prog,w0⟩) (f:=26) (fn:=Try.f26) [(24,BG.sg),(93,DF.sg),(89,CD.sg)] [(3,[0,0,2,0,0,24,62,126,254,511,0,2047,4095])] [] Try.func26 (by kernel_rfl) (by kernel_rfl) (by kernel_rfl) h
def FI.sg:Sg:=⟨[(0,[.t 1 0])],[(1,[.t 8, .t 2, .t 1, .t 1]),(0,[.v])],[]⟩
def FI.txt (C:Ctx) (c0:List T) (K:J2):Prop:=
 cl2 C 85 HD.sg [] [c0] fun v1 d2=>
 cl2 C 96 G5.sg [(nx v1 0),(nx v1 1)] [c0] fun v3 d4=>
 cl2 C 113 FN.sg [(nx v3 0),(nx v3 1)] [c0,(nxc d4 0),(nxc d4 1),(nxc d4 2),(nxc d4 3)] fun v5 d6=>
 K [(nx v5 0)] [(nxc d4 0),(nxc d4 1),(nxc d4 2),(nxc d4 3)]
theorem FI.cl2 {w0:World} {c0:List T} {K:J2} (h:FI.txt ⟨Try.prog,w0⟩ c0 K):Eng.cl2 ⟨Try.prog,w0⟩ 53 FI.sg [] [c0] K:=
 AX (C:=⟨Try.prog,w0⟩) (f:=53) (fn:=Try.f53) [(85,HD.sg),(96,G5.sg),(113,FN.sg)] [(3,[0,0,0,6,15,31])] [] Try.func53 (by kernel_rfl) (by kernel_rfl) (by kernel_rfl) h
def CY.sg:Sg:=⟨[(0,[.t 1 0])],[(1,[.t 8, .t 2, .t 1, .t 1]),(0,[.v])],[]⟩
def CY.txt (C:Ctx) (c0:List T) (K:J2):Prop:=
 cl2 C 53 FI.sg [] [c0] fun v1 d2=>
 K [(nx v1 0)] [(nxc d2 0),(nxc d2 1),(nxc d2 2),(nxc d2 3)]
theorem CY.cl2 {w0:World} {c0:List T} {K:J2} (h:CY.txt ⟨Try.prog,w0⟩ c0 K):Eng.cl2 ⟨Try.prog,w0⟩ 69 CY.sg [] [c0] K:=
 AX (C:=⟨Try.prog,w0⟩) (f:=69) (fn:=Try.f69) [(53,FI.sg)] [] [] Try.func69 (by kernel_rfl) (by kernel_rfl) (by kernel_rfl) h
def DW.sg:Sg:=⟨[(1,[.t 8 0, .t 2 0, .t 1 0, .t 1 0]),(0,[.v])],[(0,[.t 1])],[]⟩
def DW.txt (C:Ctx) (a0:Value) (c0 c1 c2 c3:List T) (K:J2):Prop:=
 cl2 C 81 DT.sg [a0] [c0,c1,c2,c3] fun v1 d2=>
 prP (bnI .lss (nx v1 0) (.int .i64 0)) fun t14_4=>
 AY t14_4 (
 K [] [[]]) (
 cl2 C 35 DG.sg [] [c0,c1,c2,c3] fun v5 d6=>
 cl2 C 102 ET.sg [(nx v1 0)] [c0,c1,c2,c3,(nxc d6 0)] fun v7 d8=>
 cl2 C 103 CJ.sg [(nx v7 0),(nx v7 1),(nx v7 2),(nx v7 3),(nx v7 4),(nx v7 5),(nx v7 6),(nx v7 7),(nx v7 8),(nx v7 9),(nx v7 10),(nx v7 11),(nx v7 12),(nx v7 13),(nx v7 14),(nx v7 15)] [(nxc d8 0),c0,c1,c2,c3] fun v9 d10=>
 cl2 C 35 DG.sg [] [c0,c1,c2,c3] fun v11 d12=>
 cl2 C 34 D8.sg [] [c0,c1,c2,c3,(nxc d12 0)] fun v13 d14=>
 BD (fun r17 x15 k16=>
 prP (bnI .lss (nx x15 1) (nx x15 0)) fun t28_32=>
 AY t28_32 (
 BQ (fun x34 k35=>
 prP (bnI .add (nx x34 1) (.int .i64 1)) fun t39_43=>
 r17 [(nx x34 0),t39_43] [(nxc k35 0),(nxc k35 1),(nxc k35 2)]) fun j36=>
 ixW (cnt 1 (nxc k16 2)) (nx x15 1) fun t29_37=>
 ldc (nxc k16 2) [] ((AA t29_37)*1) fun t30_38=>
 cl2 C 91 EN.sg [t30_38] [(nxc k16 0)] fun v39 d40=>
 prP (un .not (nx v39 0)) fun t34_42=>
 AY t34_42 (
 apW [T.c t30_38] true (cnt 1 (nxc k16 1)) (cnt 1 [T.c t30_38]) 8 (
 j36 [(nx x15 0),(nx x15 1)] [(nxc k16 0),((nxc k16 1)++[T.c t30_38]),(nxc k16 2)])) (
 j36 [(nx x15 0),(nx x15 1)] [(nxc k16 0),(nxc k16 1),(nxc k16 2)])) (
 K [] [(nxc k16 1)])) [(iv (cnt 1 (nxc d14 0))),(.int .i64 0)] [(nxc d10 0),[],(nxc d14 0)])
theorem DW.cl2 {w0:World} {a0:Value} {c0 c1 c2 c3:List T} {K:J2} (h:DW.txt ⟨Try.prog,w0⟩ a0 c0 c1 c2 c3 K):Eng.cl2 ⟨Try.prog,w0⟩ 70 DW.sg [a0] [c0,c1,c2,c3] K:=
 AX (C:=⟨Try.prog,w0⟩) (f:=70) (fn:=Try.f70) [(81,DT.sg),(35,DG.sg),(102,ET.sg),(103,CJ.sg),(34,D8.sg),(91,EN.sg)] [(4,[0,0,2,0,15,0,63,127]),(6,[0,0,2,7,15,0])] [(4051,⟨[.t (.j 0) 1, .t (.j 1) 1, .t (.j 2) 1, .v, .v],[],[.ls, .ls, .ls]⟩),(506,⟨[.t (.j 0) 1, .t (.j 1) 1, .t (.j 2) 1, .v, .v],[],[.ls, .ls, .ls]⟩)] Try.func70 (by kernel_rfl) (by kernel_rfl) (by kernel_rfl) h
def FE.sg:Sg:=⟨[(1,[.t 8 0, .t 2 0, .t 1 0, .t 1 0])],[(1,[.t 6, .t 2, .t 1])],[]⟩
def FE.txt (C:Ctx) (c0 c1 c2 c3:List T) (K:J2):Prop:=
 apW c1 true (cnt 2 []) (cnt 2 c1) 16 (
 apW c3 true (cnt 1 []) (cnt 1 c3) 16 (
 BD (fun r3 x1 k2=>
 prP (bnI .lss (nx x1 0) (iv (cnt 8 c0))) fun t19_10=>
 AY t19_10 (
 ixW (cnt 8 c0) (nx x1 0) fun t25_11=>
 ldg c0 [] ((AA t25_11)*8) [.c, .c, .c, .c, .c, .c, .l 1, .c] fun ts12=>
 apW (EF c0 [(((AA t25_11)*8)+6)]) true (cnt 1 []) (cnt 1 (EF c0 [(((AA t25_11)*8)+6)])) 8 (
 apW [T.c (tv (nxT ts12 0)),T.c (tv (nxT ts12 1)),T.c (tv (nxT ts12 2)),T.c (tv (nxT ts12 3)),T.c (tv (nxT ts12 4)),T.l 1 ([]++(EF c0 [(((AA t25_11)*8)+6)]))] false (cnt 6 (nxc k2 0)) (cnt 6 [T.c (tv (nxT ts12 0)),T.c (tv (nxT ts12 1)),T.c (tv (nxT ts12 2)),T.c (tv (nxT ts12 3)),T.c (tv (nxT ts12 4)),T.l 1 ([]++(EF c0 [(((AA t25_11)*8)+6)]))]) 64 (
 prP (bnI .add (nx x1 0) (.int .i64 1)) fun t21_13=>
 r3 [t21_13] [((nxc k2 0)++[T.c (tv (nxT ts12 0)),T.c (tv (nxT ts12 1)),T.c (tv (nxT ts12 2)),T.c (tv (nxT ts12 3)),T.c (tv (nxT ts12 4)),T.l 1 ([]++(EF c0 [(((AA t25_11)*8)+6)]))]),(nxc k2 1),(nxc k2 2)]))) (
 K [] [(nxc k2 0),(nxc k2 1),(nxc k2 2)])) [(.int .i64 0)] [[],([]++c1),([]++c3)]))
theorem FE.cl2 {w0:World} {c0 c1 c2 c3:List T} {K:J2} (h:FE.txt ⟨Try.prog,w0⟩ c0 c1 c2 c3 K):Eng.cl2 ⟨Try.prog,w0⟩ 71 FE.sg [] [c0,c1,c2,c3] K:=
 AX (C:=⟨Try.prog,w0⟩) (f:=71) (fn:=Try.f71) [] [(1,[0,0,2,7,0,0,32,127,255,0,1023]),(6,[0,1,0,4,0,16,0,64,0,256,0,1024,0,0,8192,28672,65532,131068,262143,524287,1048575])] [(58,⟨[.p (.j 0) 0, .p (.j 1) 0, .p (.j 2) 0, .v],[],[.bx [.t (.f 0) 8, .t (.f 1) 2, .t (.f 2) 1, .t (.f 3) 1], .bx [.z, .z, .z], .bx [.t (.j 3) 6, .t (.j 4) 2, .t (.j 5) 1], .ls, .ls, .ls]⟩)] Try.func71 (by kernel_rfl) (by kernel_rfl) (by kernel_rfl) h
def F8.sg:Sg:=⟨[(1,[.t 6 0, .t 2 0, .t 1 0]),(0,[.v])],[(0,[.v])],[]⟩
def F8.txt (C:Ctx) (a0:Value) (c0 c1 c2:List T) (K:J2):Prop:=
 prP (bnI .lss a0 (.int .i64 8)) fun t7_1=>
 gE t7_1 (
 gE t7_1 (
 gE t7_1 (
 gP t7_1 false (prP (bnI .neq (iv (cnt 6 c0)) (.int .i64 8))) fun t12_2=>
 prP (pk t7_1 (.bool true) t12_2) fun t13_3=>
 AY t13_3 (
 K [(.int .i64 (-1))] []) (
 prP (bnI .rem a0 (.int .i64 8)) fun t15_4=>
 ixW (cnt 6 c0) t15_4 fun t19_5=>
 ldc c0 [] ((AA t19_5)*6) fun t21_6=>
 prP (un .not t21_6) fun t22_7=>
 gE t22_7 (
 gE t22_7 (
 gE t22_7 (
 gP t22_7 false (ixW (cnt 6 c0) t15_4) fun t27_8=>
 gE t22_7 (
 gP t22_7 false (ldc c0 [] (((AA t27_8)*6)+1)) fun t29_9=>
 gE t22_7 (
 gP t22_7 false (prP (bnI .quo a0 (.int .i64 8))) fun t31_10=>
 gP t22_7 false (prP (bnI .neq t29_9 t31_10)) fun t32_11=>
 prP (pk t22_7 (.bool true) t32_11) fun t33_12=>
 AY t33_12 (
 K [(.int .i64 (-1))] []) (
 K [t15_4] []))))))))))
theorem F8.cl2 {w0:World} {a0:Value} {c0 c1 c2:List T} {K:J2} (h:F8.txt ⟨Try.prog,w0⟩ a0 c0 c1 c2 K):Eng.cl2 ⟨Try.prog,w0⟩ 119 F8.sg [a0] [c0,c1,c2] K:=
 AX (C:=⟨Try.prog,w0⟩) (f:=119) (fn:=Try.f119) [] [] [] Try.func119 (by kernel_rfl) (by kernel_rfl) (by kernel_rfl) h
def C6.sg:Sg:=⟨[(1,[.t 6 0, .t 2 0, .t 1 0])],[(0,[.t 1])],[]⟩
def C6.txt (C:Ctx) (c0 c1 c2:List T) (K:J2):Prop:=
 mkW 1 (iv (cnt 6 c0)) (iv (cnt 6 c0)) fun n1=>
 BD (fun r4 x2 k3=>
 prP (bnI .lss (nx x2 0) (iv (cnt 6 c0))) fun t20_6=>
 AY t20_6 (
 BQ (fun x8 k9=>
 prP (bnI .add (nx x8 0) (.int .i64 1)) fun t22_22=>
 r4 [t22_22] [(nxc k9 0),(nxc k9 1)]) fun j10=>
 ixW (cnt 6 c0) (nx x2 0) fun t26_11=>
 ldc c0 [] ((AA t26_11)*6) fun t28_12=>
 gE t28_12 (
 gE t28_12 (
 gE t28_12 (
 gP t28_12 true (ixW (cnt 6 c0) (nx x2 0)) fun t33_13=>
 gE t28_12 (
 gP t28_12 true (ldc c0 [] (((AA t33_13)*6)+3)) fun t35_14=>
 gE t28_12 (
 gE t28_12 (
 gE t28_12 (
 gP t28_12 true (ixW (cnt 6 c0) (nx x2 0)) fun t39_15=>
 gE t28_12 (
 gP t28_12 true (ldc c0 [] (((AA t39_15)*6)+4)) fun t41_16=>
 gP t28_12 true (prP (bnI .add t35_14 t41_16)) fun t42_17=>
 gP t28_12 true (prP (bnI .gtr t42_17 (.int .i64 0))) fun t43_18=>
 prP (pk t28_12 t43_18 (.bool false)) fun t44_19=>
 AY t44_19 (
 ixW (cnt 1 (nxc k3 0)) (nx x2 0) fun t47_20=>
 stc (nxc k3 0) [] ((AA t47_20)*1) (.bool true) fun k21=>
 apW [T.c (nx x2 0)] true (cnt 1 (nxc k3 1)) (cnt 1 [T.c (nx x2 0)]) 8 (
 j10 [(nx x2 0)] [k21,((nxc k3 1)++[T.c (nx x2 0)])])) (
 j10 [(nx x2 0)] [(nxc k3 0),(nxc k3 1)])))))))))) (
 BD (fun r25 x23 k24=>
 prP (bnI .gtr (iv (AA (nx x23 0))) (.int .i64 0)) fun t54_71=>
 AY t54_71 (
 ixW (AA (nx x23 0)) (.int .i64 0) fun t56_72=>
 ldc (nxc k24 1) [] ((AA (nx x23 1))+((AA t56_72)*1)) fun t57_73=>
 scW (AA (nx x23 0)) (some (.int .i64 1)) none fun l74 m75=>
 BD (fun r78 x76 k77=>
 ixW (cnt 6 c0) (nx x76 2) fun t64_80=>
 ldl c0 [] (((AA t64_80)*6)+5) 1 fun t66_81=>
 prP (bnI .lss (nx x76 3) (iv (cnt 1 (EF c0 [(((AA t64_80)*6)+5)])))) fun t68_82=>
 AY t68_82 (
 BQ (fun x84 k85=>
 prP (bnI .add (nx x84 3) (.int .i64 1)) fun t70_101=>
 r78 [(iv (AA (nx x84 0))),(iv (AA (nx x84 1))),(nx x84 2),t70_101] [(nxc k85 0),(nxc k85 1)]) fun j86=>
 ixW (cnt 6 c0) (nx x76 2) fun t75_87=>
 ldl c0 [] (((AA t75_87)*6)+5) 1 fun t77_88=>
 ixW (cnt 1 (EF c0 [(((AA t75_87)*6)+5)])) (nx x76 3) fun t79_89=>
 ldc c0 [(((AA t75_87)*6)+5)] ((AA t79_89)*1) fun t80_90=>
 cl2 C 119 F8.sg [t80_90] [c0,c1,c2] fun v91 d92=>
 prP (bnI .geq (nx v91 0) (.int .i64 0)) fun t83_94=>
 gE t83_94 (
 gE t83_94 (
 gP t83_94 true (ixW (cnt 1 (nxc k77 0)) (nx v91 0)) fun t87_95=>
 gP t83_94 true (ldc (nxc k77 0) [] ((AA t87_95)*1)) fun t88_96=>
 gP t83_94 true (prP (un .not t88_96)) fun t89_97=>
 prP (pk t83_94 t89_97 (.bool false)) fun t90_98=>
 AY t90_98 (
 ixW (cnt 1 (nxc k77 0)) (nx v91 0) fun t93_99=>
 stc (nxc k77 0) [] ((AA t93_99)*1) (.bool true) fun k100=>
 apW [T.c (nx v91 0)] true (AA (nx x76 0)) (cnt 1 [T.c (nx v91 0)]) 8 (
 j86 [(iv (cnt 1 ((GJ (nxc k77 1) [] (AA (nx x76 1)) ((AA (nx x76 0))*1))++[T.c (nx v91 0)]))),(iv 0),(nx x76 2),(nx x76 3)] [k100,((GJ (nxc k77 1) [] (AA (nx x76 1)) ((AA (nx x76 0))*1))++[T.c (nx v91 0)])])) (
 j86 [(iv (AA (nx x76 0))),(iv (AA (nx x76 1))),(nx x76 2),(nx x76 3)] [(nxc k77 0),(nxc k77 1)])))) (
 r25 [(iv (AA (nx x76 0))),(iv (AA (nx x76 1)))] [(nxc k77 0),(nxc k77 1)])) [(iv (AA m75)),(iv ((AA (nx x23 1))+((AA l74)*1))),t57_73,(.int .i64 0)] [(nxc k24 0),(nxc k24 1)]) (
 BD (fun r104 x102 k103=>
 prP (bnI .lss (nx x102 0) (iv (cnt 1 (nxc k103 0)))) fun t102_106=>
 AY t102_106 (
 BQ (fun x108 k109=>
 prP (bnI .add (nx x108 0) (.int .i64 1)) fun t104_113=>
 r104 [t104_113] [(nxc k109 0),(nxc k109 1)]) fun j110=>
 ixW (cnt 1 (nxc k103 0)) (nx x102 0) fun t107_111=>
 ldc (nxc k103 0) [] ((AA t107_111)*1) fun t108_112=>
 AY t108_112 (
 apW [T.c (nx x102 0)] true (cnt 1 (nxc k103 1)) (cnt 1 [T.c (nx x102 0)]) 8 (
 j110 [(nx x102 0)] [(nxc k103 0),((nxc k103 1)++[T.c (nx x102 0)])])) (
 j110 [(nx x102 0)] [(nxc k103 0),(nxc k103 1)])) (
 K [] [(nxc k103 1)])) [(.int .i64 0)] [(nxc k24 0),[]])) [(iv (cnt 1 (nxc k3 1))),(iv 0)] [(nxc k3 0),(nxc k3 1)])) [(.int .i64 0)] [(PQ (AA n1) [T.c (.bool false)]),[]]
theorem C6.cl2 {w0:World} {c0 c1 c2:List T} {K:J2} (h:C6.txt ⟨Try.prog,w0⟩ c0 c1 c2 K):Eng.cl2 ⟨Try.prog,w0⟩ 72 C6.sg [] [c0,c1,c2] K:=
 AX (C:=⟨Try.prog,w0⟩) (f:=72) (fn:=Try.f72) [(119,F8.sg)] [(6,[0,1,0,7,15,31,63,127,255,127,1023,2047,4095,127,8319,127,57471,123007,254079,524287,1048575,2097151]),(15,[0,0,2,0,14,30,62,0,254,510,1023,2047])] [(489,⟨[.p (.j 0) 0, .t (.j 1) 1, .t (.j 2) 1, .v],[],[.bx [.t (.f 0) 6, .t (.f 1) 2, .t (.f 2) 1], .ls, .ls]⟩),(63673,⟨[.p (.j 0) 0, .t (.j 1) 1, .s (.j 2) 0 1, .v, .v],[],[.bx [.t (.f 0) 6, .t (.f 1) 2, .t (.f 2) 1], .ls, .ls]⟩),(15918,⟨[.p (.j 0) 0, .t (.j 1) 1, .s (.j 2) 0 1, .v, .v],[],[.bx [.t (.f 0) 6, .t (.f 1) 2, .t (.f 2) 1], .ls, .ls]⟩),(4073,⟨[.t (.j 0) 1, .t (.j 1) 1, .v],[],[.ls, .ls]⟩),(1018,⟨[.t (.j 0) 1, .t (.j 1) 1, .v],[],[.ls, .ls]⟩),(124,⟨[.p (.j 0) 0, .t (.j 1) 1, .s (.j 2) 0 1],[],[.bx [.t (.f 0) 6, .t (.f 1) 2, .t (.f 2) 1], .ls, .ls]⟩),(122,⟨[.p (.j 0) 0, .t (.j 1) 1, .t (.j 2) 1, .v],[],[.bx [.t (.f 0) 6, .t (.f 1) 2, .t (.f 2) 1], .ls, .ls]⟩)] Try.func72 (by kernel_rfl) (by kernel_rfl) (by kernel_rfl) h
def CX.sg:Sg:=⟨[(2,[.t 6 0, .t 2 0, .t 1 0]),(0,[.v])],[(0,[.v])],[[.a 0, .a 1, .a 2]]⟩
def CX.txt (C:Ctx) (a0:Value) (c0 c1 c2:List T) (K:J2):Prop:=
 prP (bnI .lss a0 (.int .i64 8)) fun t8_1=>
 gE t8_1 (
 gE t8_1 (
 gE t8_1 (
 gE t8_1 (
 gE t8_1 (
 gP t8_1 false (prP (bnI .neq (iv (cnt 6 c0)) (.int .i64 8))) fun t15_2=>
 prP (pk t8_1 (.bool true) t15_2) fun t16_3=>
 AY t16_3 (
 K [(.int .i64 (-1))] []) (
 prP (bnI .rem a0 (.int .i64 8)) fun t18_4=>
 ixW (cnt 6 c0) t18_4 fun t24_5=>
 ldg c0 [] ((AA t24_5)*6) [.c, .c, .c, .c, .c, .l 1] fun ts6=>
 prP (un .not (tv (nxT ts6 0))) fun t28_7=>
 gE t28_7 (
 gE t28_7 (
 gE t28_7 (
 gP t28_7 false (prP (bnI .quo a0 (.int .i64 8))) fun t33_8=>
 gP t28_7 false (prP (bnI .neq (tv (nxT ts6 1)) t33_8)) fun t34_9=>
 prP (pk t28_7 (.bool true) t34_9) fun t35_10=>
 AY t35_10 (
 K [(.int .i64 (-1))] []) (
 K [t18_4] []))))))))))
theorem CX.cl2 {w0:World} {a0:Value} {c0 c1 c2:List T} {K:J2} (h:CX.txt ⟨Try.prog,w0⟩ a0 c0 c1 c2 K):Eng.cl2 ⟨Try.prog,w0⟩ 120 CX.sg [a0] [c0,c1,c2] K:=
 AX (C:=⟨Try.prog,w0⟩) (f:=120) (fn:=Try.f120) [] [] [] Try.func120 (by kernel_rfl) (by kernel_rfl) (by kernel_rfl) h
def DK.sg:Sg:=⟨[(1,[.t 6 0, .t 2 0, .t 1 0])],[(0,[.t 1])],[]⟩
def DK.txt (C:Ctx) (c0 c1 c2:List T) (K:J2):Prop:=
 mkW 1 (iv (cnt 6 c0)) (iv (cnt 6 c0)) fun n1=>
 BD (fun r4 x2 k3=>
 prP (bnI .lss (nx x2 1) (nx x2 0)) fun t22_48=>
 AY t22_48 (
 BQ (fun x50 k51=>
 prP (bnI .add (nx x50 1) (.int .i64 1)) fun t43_60=>
 r4 [(nx x50 0),t43_60] [(nxc k51 0),(nxc k51 1)]) fun j52=>
 ixW (cnt 6 c0) (nx x2 1) fun t24_53=>
 ldg c0 [] ((AA t24_53)*6) [.c, .c, .c, .c, .c, .l 1] fun ts54=>
 gE (tv (nxT ts54 0)) (
 gE (tv (nxT ts54 0)) (
 gE (tv (nxT ts54 0)) (
 gE (tv (nxT ts54 0)) (
 gP (tv (nxT ts54 0)) true (prP (bnI .add (tv (nxT ts54 3)) (tv (nxT ts54 4)))) fun t33_55=>
 gP (tv (nxT ts54 0)) true (prP (bnI .gtr t33_55 (.int .i64 0))) fun t34_56=>
 prP (pk (tv (nxT ts54 0)) t34_56 (.bool false)) fun t35_57=>
 AY t35_57 (
 ixW (cnt 1 (nxc k3 0)) (nx x2 1) fun t38_58=>
 stc (nxc k3 0) [] ((AA t38_58)*1) (.bool true) fun k59=>
 apW [T.c (nx x2 1)] true (cnt 1 (nxc k3 1)) (cnt 1 [T.c (nx x2 1)]) 8 (
 j52 [(nx x2 0),(nx x2 1)] [k59,((nxc k3 1)++[T.c (nx x2 1)])])) (
 j52 [(nx x2 0),(nx x2 1)] [(nxc k3 0),(nxc k3 1)])))))) (
 BD (fun r63 x61 k62=>
 prP (bnI .gtr (iv (AA (nx x61 0))) (.int .i64 0)) fun t46_117=>
 gE t46_117 (
 gE t46_117 (
 gE t46_117 (
 gP t46_117 true (prP (bnI .eql (iv (cnt 6 c0)) (.int .i64 8))) fun t51_118=>
 prP (pk t46_117 t51_118 (.bool false)) fun t52_119=>
 AY t52_119 (
 ixW (AA (nx x61 0)) (.int .i64 0) fun t54_120=>
 ldc (nxc k62 1) [] ((AA (nx x61 1))+((AA t54_120)*1)) fun t55_121=>
 scW (AA (nx x61 0)) (some (.int .i64 1)) none fun l122 m123=>
 ixW (cnt 6 c0) t55_121 fun t61_124=>
 ldl c0 [] (((AA t61_124)*6)+5) 1 fun t63_125=>
 BD (fun r128 x126 k127=>
 prP (bnI .lss (nx x126 4) (nx x126 3)) fun t66_130=>
 AY t66_130 (
 BQ (fun x132 k133=>
 prP (bnI .add (nx x132 4) (.int .i64 1)) fun t87_146=>
 r128 [(iv (AA (nx x132 0))),(iv (AA (nx x132 1))),(iv (AA (nx x132 2))),(nx x132 3),t87_146] [(nxc k133 0),(nxc k133 1)]) fun j134=>
 ixW (cnt 1 (EF c0 [(AA (nx x126 2))])) (nx x126 4) fun t67_135=>
 ldc c0 [(AA (nx x126 2))] ((AA t67_135)*1) fun t68_136=>
 cl2 C 120 CX.sg [t68_136] [c0,c1,c2] fun v137 d138=>
 prP (bnI .geq (nx v137 0) (.int .i64 0)) fun t72_139=>
 gE t72_139 (
 gE t72_139 (
 gP t72_139 true (ixW (cnt 1 (nxc k127 0)) (nx v137 0)) fun t76_140=>
 gP t72_139 true (ldc (nxc k127 0) [] ((AA t76_140)*1)) fun t77_141=>
 gP t72_139 true (prP (un .not t77_141)) fun t78_142=>
 prP (pk t72_139 t78_142 (.bool false)) fun t79_143=>
 AY t79_143 (
 ixW (cnt 1 (nxc k127 0)) (nx v137 0) fun t82_144=>
 stc (nxc k127 0) [] ((AA t82_144)*1) (.bool true) fun k145=>
 apW [T.c (nx v137 0)] true (AA (nx x126 0)) (cnt 1 [T.c (nx v137 0)]) 8 (
 j134 [(iv (cnt 1 ((GJ (nxc k127 1) [] (AA (nx x126 1)) ((AA (nx x126 0))*1))++[T.c (nx v137 0)]))),(iv 0),(iv (AA (nx x126 2))),(nx x126 3),(nx x126 4)] [k145,((GJ (nxc k127 1) [] (AA (nx x126 1)) ((AA (nx x126 0))*1))++[T.c (nx v137 0)])])) (
 j134 [(iv (AA (nx x126 0))),(iv (AA (nx x126 1))),(iv (AA (nx x126 2))),(nx x126 3),(nx x126 4)] [(nxc k127 0),(nxc k127 1)])))) (
 r63 [(iv (AA (nx x126 0))),(iv (AA (nx x126 1)))] [(nxc k127 0),(nxc k127 1)])) [(iv (AA m123)),(iv ((AA (nx x61 1))+((AA l122)*1))),(iv (((AA t61_124)*6)+5)),(iv (cnt 1 (EF c0 [(((AA t61_124)*6)+5)]))),(.int .i64 0)] [(nxc k62 0),(nxc k62 1)]) (
 BD (fun r149 x147 k148=>
 prP (bnI .lss (nx x147 1) (nx x147 0)) fun t91_160=>
 AY t91_160 (
 BQ (fun x162 k163=>
 prP (bnI .add (nx x162 1) (.int .i64 1)) fun t100_167=>
 r149 [(nx x162 0),t100_167] [(nxc k163 0),(nxc k163 1)]) fun j164=>
 ixW (cnt 1 (nxc k148 1)) (nx x147 1) fun t93_165=>
 ldc (nxc k148 1) [] ((AA t93_165)*1) fun t94_166=>
 AY t94_166 (
 apW [T.c (nx x147 1)] true (cnt 1 (nxc k148 0)) (cnt 1 [T.c (nx x147 1)]) 8 (
 j164 [(nx x147 0),(nx x147 1)] [((nxc k148 0)++[T.c (nx x147 1)]),(nxc k148 1)])) (
 j164 [(nx x147 0),(nx x147 1)] [(nxc k148 0),(nxc k148 1)])) (
 K [] [(nxc k148 0)])) [(iv (cnt 1 (nxc k62 0))),(.int .i64 0)] [[],(nxc k62 0)]))))) [(iv (cnt 1 (nxc k3 1))),(iv 0)] [(nxc k3 0),(nxc k3 1)])) [(iv (cnt 6 c0)),(.int .i64 0)] [(PQ (AA n1) [T.c (.bool false)]),[]]
theorem DK.cl2 {w0:World} {c0 c1 c2:List T} {K:J2} (h:DK.txt ⟨Try.prog,w0⟩ c0 c1 c2 K):Eng.cl2 ⟨Try.prog,w0⟩ 73 DK.sg [] [c0,c1,c2] K:=
 AX (C:=⟨Try.prog,w0⟩) (f:=73) (fn:=Try.f73) [(120,CX.sg)] [] [(979,⟨[.p (.j 0) 0, .t (.j 1) 1, .t (.j 2) 1, .t (.f 0) 6, .v, .v],[],[.bx [.t (.f 0) 6, .t (.f 1) 2, .t (.f 2) 1], .ls, .ls]⟩),(8147,⟨[.t (.j 0) 1, .t (.j 1) 1, .v, .v],[],[.ls, .ls]⟩),(1018,⟨[.t (.j 0) 1, .t (.j 1) 1, .v, .v],[],[.ls, .ls]⟩),(124,⟨[.p (.j 0) 0, .t (.j 1) 1, .s (.j 2) 0 1],[],[.bx [.t (.f 0) 6, .t (.f 1) 2, .t (.f 2) 1], .ls, .ls]⟩),(127347,⟨[.p (.j 0) 0, .t (.j 1) 1, .s (.j 2) 0 1, .n (.f 0) 1 1, .v, .v],[],[.bx [.t (.f 0) 6, .t (.f 1) 2, .t (.f 2) 1], .ls, .ls]⟩),(15918,⟨[.p (.j 0) 0, .t (.j 1) 1, .s (.j 2) 0 1, .n (.f 0) 1 1, .v, .v],[],[.bx [.t (.f 0) 6, .t (.f 1) 2, .t (.f 2) 1], .ls, .ls]⟩),(122,⟨[.p (.j 0) 0, .t (.j 1) 1, .t (.j 2) 1, .t (.f 0) 6, .v, .v],[],[.bx [.t (.f 0) 6, .t (.f 1) 2, .t (.f 2) 1], .ls, .ls]⟩)] Try.func73 (by kernel_rfl) (by kernel_rfl) (by kernel_rfl) h
def ER.sg:Sg:=⟨[(0,[.t 1 0])],[(0,[.v])],[]⟩
def ER.txt (C:Ctx) (c0:List T) (K:J2):Prop:=
 cl2 C 17 IZ.sg [] [c0] fun v1 d2=>
 AY (nx v1 0) (
 K [(.bool true)] []) (
 cl2 C 69 CY.sg [] [c0] fun v4 d5=>
 cl2 C 70 DW.sg [(nx v4 0)] [(nxc d5 0),(nxc d5 1),(nxc d5 2),(nxc d5 3)] fun v6 d7=>
 cl2 C 19 DP.sg [] [(nxc d5 0),(nxc d5 1),(nxc d5 2),(nxc d5 3)] fun v8 d9=>
 prP (un .not (nx v8 0)) fun t23_11=>
 gE t23_11 (
 gE t23_11 (
 gP t23_11 false ((fun K=>cl2 C 24 BG.sg [(nx v4 0)] [(nxc d5 0),(nxc d5 1),(nxc d5 2),(nxc d5 3)] fun v12 d13=>K (nx v12 0))) fun t27_14=>
 gP t23_11 false (prP (bnI .lss t27_14 (.int .i64 0))) fun t28_15=>
 prP (pk t23_11 (.bool true) t28_15) fun t29_16=>
 gE t29_16 (
 gC t29_16 false (cl2 C 22 GB.sg [] [(nxc d5 0),(nxc d5 1),(nxc d5 2),(nxc d5 3)]) fun v17 d18=>
 gE t29_16 (
 gP t29_16 false ((fun K=>cl2 C 25 HW.sg [(nx v4 0)] [(nxc d18 0)] fun v19 d20=>K (nx v19 0))) fun t34_21=>
 prP (pk t29_16 (.bool true) t34_21) fun t35_22=>
 AY t35_22 (
 prP (bnI .eql (iv (cnt 1 (nxc d7 0))) (.int .i64 0)) fun t38_23=>
 gE t38_23 (
 gP t38_23 false ((fun K=>cl2 C 19 DP.sg [] [(nxc d5 0),(nxc d5 1),(nxc d5 2),(nxc d5 3)] fun v24 d25=>K (nx v24 0))) fun t41_26=>
 gP t38_23 false (prP (un .not t41_26)) fun t42_27=>
 prP (pk t38_23 (.bool true) t42_27) fun t43_28=>
 K [t43_28] [])) (
 cl2 C 25 HW.sg [(nx v4 0)] [(nxc d7 0)] fun v29 d30=>
 prP (un .not (nx v29 0)) fun t47_32=>
 AY t47_32 (
 K [(.bool false)] []) (
 BD (fun r35 x33 k34=>
 prP (bnI .lss (nx x33 1) (iv (cnt 1 (nxc k34 0)))) fun t51_37=>
 AY t51_37 (
 ixW (cnt 1 (nxc k34 0)) (nx x33 1) fun t56_38=>
 ldc (nxc k34 0) [] ((AA t56_38)*1) fun t57_39=>
 prP (bnI .neq t57_39 (nx x33 0)) fun t59_40=>
 gE t59_40 (
 gE t59_40 (
 gE t59_40 (
 gE t59_40 (
 gP t59_40 true (ixW (cnt 1 (nxc k34 0)) (nx x33 1)) fun t65_41=>
 gP t59_40 true (ldc (nxc k34 0) [] ((AA t65_41)*1)) fun t66_42=>
 gP t59_40 true ((fun K=>cl2 C 26 HF.sg [(nx x33 0),t66_42] [(nxc k34 1),(nxc k34 2),(nxc k34 3),(nxc k34 4)] fun v43 d44=>K (nx v43 0))) fun t67_45=>
 gP t59_40 true (prP (un .not t67_45)) fun t68_46=>
 gE t59_40 (
 gE (B9 t59_40 true t68_46) (
 gC (B9 t59_40 true t68_46) false (cl2 C 33 CT.sg [] [(nxc k34 1),(nxc k34 2),(nxc k34 3),(nxc k34 4)]) fun v47 d48=>
 gE (B9 t59_40 true t68_46) (
 gE (B9 t59_40 true t68_46) (
 gP (B9 t59_40 true t68_46) false (ixW (cnt 1 (nxc k34 0)) (nx x33 1)) fun t74_49=>
 gP (B9 t59_40 true t68_46) false (ldc (nxc k34 0) [] ((AA t74_49)*1)) fun t75_50=>
 gP (B9 t59_40 true t68_46) false ((fun K=>cl2 C 25 HW.sg [t75_50] [(nxc d48 0)] fun v51 d52=>K (nx v51 0))) fun t76_53=>
 gP t59_40 true (prP (pk t68_46 (.bool true) t76_53)) fun t77_54=>
 prP (pk t59_40 t77_54 (.bool false)) fun t78_55=>
 AY t78_55 (
 K [(.bool false)] []) (
 prP (bnI .add (nx x33 1) (.int .i64 1)) fun t53_56=>
 r35 [(nx x33 0),t53_56] [(nxc k34 0),(nxc k34 1),(nxc k34 2),(nxc k34 3),(nxc k34 4)])))))))))) (
 cl2 C 71 FE.sg [] [(nxc k34 1),(nxc k34 2),(nxc k34 3),(nxc k34 4)] fun v57 d58=>
 BD (fun r61 x59 k60=>
 prP (bnI .lss (nx x59 1) (iv (cnt 6 (nxc k60 5)))) fun t85_63=>
 AY t85_63 (
 BD (fun r66 x64 k65=>
 ixW (cnt 6 (nxc k65 5)) (nx x64 1) fun t92_68=>
 ldl (nxc k65 5) [] (((AA t92_68)*6)+5) 1 fun t94_69=>
 prP (bnI .lss (nx x64 2) (iv (cnt 1 (EF (nxc k65 5) [(((AA t92_68)*6)+5)])))) fun t96_70=>
 AY t96_70 (
 BQ (fun x72 k73=>
 prP (bnI .add (nx x72 2) (.int .i64 1)) fun t98_84=>
 r66 [(nx x72 0),(nx x72 1),t98_84] [(nxc k73 0),(nxc k73 1),(nxc k73 2),(nxc k73 3),(nxc k73 4),(nxc k73 5),(nxc k73 6),(nxc k73 7)]) fun j74=>
 ixW (cnt 6 (nxc k65 5)) (nx x64 1) fun t102_75=>
 ldl (nxc k65 5) [] (((AA t102_75)*6)+5) 1 fun t104_76=>
 ixW (cnt 1 (EF (nxc k65 5) [(((AA t102_75)*6)+5)])) (nx x64 2) fun t106_77=>
 ldc (nxc k65 5) [(((AA t102_75)*6)+5)] ((AA t106_77)*1) fun t107_78=>
 prP (bnI .eql t107_78 (nx x64 0)) fun t109_79=>
 AY t109_79 (
 ixW (cnt 6 (nxc k65 5)) (nx x64 1) fun t113_80=>
 ldl (nxc k65 5) [] (((AA t113_80)*6)+5) 1 fun t115_81=>
 ixW (cnt 1 (EF (nxc k65 5) [(((AA t113_80)*6)+5)])) (nx x64 2) fun t117_82=>
 stc (nxc k65 5) [(((AA t113_80)*6)+5)] ((AA t117_82)*1) (.int .i64 (-1)) fun k83=>
 j74 [(nx x64 0),(nx x64 1),(nx x64 2)] [(nxc k65 0),(nxc k65 1),(nxc k65 2),(nxc k65 3),(nxc k65 4),k83,(nxc k65 6),(nxc k65 7)]) (
 j74 [(nx x64 0),(nx x64 1),(nx x64 2)] [(nxc k65 0),(nxc k65 1),(nxc k65 2),(nxc k65 3),(nxc k65 4),(nxc k65 5),(nxc k65 6),(nxc k65 7)])) (
 prP (bnI .add (nx x64 1) (.int .i64 1)) fun t87_85=>
 r61 [(nx x64 0),t87_85] [(nxc k65 0),(nxc k65 1),(nxc k65 2),(nxc k65 3),(nxc k65 4),(nxc k65 5),(nxc k65 6),(nxc k65 7)])) [(nx x59 0),(nx x59 1),(.int .i64 0)] [(nxc k60 0),(nxc k60 1),(nxc k60 2),(nxc k60 3),(nxc k60 4),(nxc k60 5),(nxc k60 6),(nxc k60 7)]) (
 cl2 C 24 BG.sg [(nx x59 0)] [(nxc k60 1),(nxc k60 2),(nxc k60 3),(nxc k60 4)] fun v86 d87=>
 ixW (cnt 6 (nxc k60 5)) (nx v86 0) fun t124_89=>
 stc (nxc k60 5) [] (((AA t124_89)*6)+3) (.int .i64 0) fun k90=>
 ixW (cnt 6 k90) (nx v86 0) fun t129_91=>
 stc k90 [] (((AA t129_91)*6)+4) (.int .i64 0) fun k92=>
 cl2 C 72 C6.sg [] [k92,(nxc k60 6),(nxc k60 7)] fun v93 d94=>
 prP (bnI .add (iv (cnt 1 (nxc d94 0))) (iv (cnt 1 (nxc k60 0)))) fun t136_95=>
 cl2 C 33 CT.sg [] [(nxc k60 1),(nxc k60 2),(nxc k60 3),(nxc k60 4)] fun v96 d97=>
 cl2 C 32 C1.sg [] [(nxc k60 1),(nxc k60 2),(nxc k60 3),(nxc k60 4),(nxc d97 0)] fun v98 d99=>
 prP (bnI .eql t136_95 (iv (cnt 1 (nxc d99 0)))) fun t142_100=>
 gE t142_100 (
 gC t142_100 true (cl2 C 73 DK.sg [] [k92,(nxc k60 6),(nxc k60 7)]) fun v101 d102=>
 gE t142_100 (
 gE t142_100 (
 gC t142_100 true (cl2 C 72 C6.sg [] [k92,(nxc k60 6),(nxc k60 7)]) fun v103 d104=>
 gE t142_100 (
 gP t142_100 true (prP (bnI .eql (iv (cnt 1 (nxc d102 0))) (iv (cnt 1 (nxc d104 0))))) fun t150_105=>
 prP (pk t142_100 t150_105 (.bool false)) fun t151_106=>
 K [t151_106] [])))))) [(nx x33 0),(.int .i64 0)] [(nxc k34 0),(nxc k34 1),(nxc k34 2),(nxc k34 3),(nxc k34 4),(nxc d58 0),(nxc d58 1),(nxc d58 2)])) [(nx v4 0),(.int .i64 0)] [(nxc d7 0),(nxc d5 0),(nxc d5 1),(nxc d5 2),(nxc d5 3)])))))))
theorem ER.cl2 {w0:World} {c0:List T} {K:J2} (h:ER.txt ⟨Try.prog,w0⟩ c0 K):Eng.cl2 ⟨Try.prog,w0⟩ 11 ER.sg [] [c0] K:=
 AX (C:=⟨Try.prog,w0⟩) (f:=11) (fn:=Try.f11) [(17,IZ.sg),(69,CY.sg),(70,DW.sg),(19,DP.sg),(24,BG.sg),(22,GB.sg),(25,HW.sg),(26,HF.sg),(33,CT.sg),(71,FE.sg),(72,C6.sg),(32,C1.sg),(73,DK.sg)] [(12,[0,0,3,7,0,31,63,127,127,127,127,1663,3711,8191,16383,32767,65535,131071,65535,65535,851967,1900543,4194303,8388607,16777215]),(26,[0,1,3,0,8,31,0,0,131,451,963,2047,4095,8191,16383,32767,8191,98303,229375,524287,1048575,2097151])] [(1047113,⟨[.p (.j 0) 0, .v, .t (.j 1) 1, .p (.j 2) 0, .v, .v],[],[.bx [.t (.j 3) 8, .t (.j 4) 2, .t (.j 5) 1, .t (.j 6) 1], .ls, .bx [.t (.j 7) 6, .t (.j 8) 2, .t (.j 9) 1], .ls, .ls, .ls, .ls, .ls, .ls, .ls]⟩),(261778,⟨[.p (.j 0) 0, .v, .t (.j 1) 1, .p (.j 2) 0, .v, .v],[],[.bx [.t (.j 3) 8, .t (.j 4) 2, .t (.j 5) 1, .t (.j 6) 1], .ls, .bx [.t (.j 7) 6, .t (.j 8) 2, .t (.j 9) 1], .ls, .ls, .ls, .ls, .ls, .ls, .ls]⟩),(4090,⟨[.p (.j 0) 0, .v, .t (.j 1) 1, .p (.j 2) 0, .v],[],[.bx [.t (.j 3) 8, .t (.j 4) 2, .t (.j 5) 1, .t (.j 6) 1], .ls, .bx [.t (.j 7) 6, .t (.j 8) 2, .t (.j 9) 1], .ls, .ls, .ls, .ls, .ls, .ls, .ls]⟩),(1018,⟨[.p (.j 0) 0, .v, .t (.j 1) 1, .v],[],[.bx [.t (.j 2) 8, .t (.j 3) 2, .t (.j 4) 1, .t (.j 5) 1], .ls, .ls, .ls, .ls, .ls]⟩)] Try.func11 (by kernel_rfl) (by kernel_rfl) (by kernel_rfl) h
end Go.Proofs.Ytklmcfpgdfibnaa.P
