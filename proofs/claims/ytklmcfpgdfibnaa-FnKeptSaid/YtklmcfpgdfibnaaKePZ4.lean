/- A part of the proof. -/
import Derived.Test.YtklmcfpgdfibnaaChecked
import Derived.Test.YtklmcfpgdfibnaaKePZ3
import Derived.KernelRfl
namespace Go.Proofs.Ytklmcfpgdfibnaa.P
open Go Go.Proofs.Ytklmcfpgdfibnaa Go.Proofs.Ytklmcfpgdfibnaa.Eng
set_option linter.unusedVariables false
set_option maxRecDepth 100000
def GS.sg:Sg:=⟨[(1,[.t 8 0, .t 2 0, .t 1 0, .t 1 0])],[(1,[.t 6, .t 2, .t 1])],[]⟩
def GS.txt (C:Ctx) (c0 c1 c2 c3:List T) (K:J2):Prop:=
 apW c1 true (cnt 2 []) (cnt 2 c1) 16 (
 apW c3 true (cnt 1 []) (cnt 1 c3) 16 (
 BE (fun r3 x1 k2=>
 prP (bnI .lss (nx x1 0) (iv (cnt 8 c0))) fun t19_10=>
 AX t19_10 (
 ixW (cnt 8 c0) (nx x1 0) fun t25_11=>
 ldg c0 [] ((AA t25_11)*8) [.c, .c, .c, .c, .c, .c, .l 1, .c] fun ts12=>
 apW (EG c0 [(((AA t25_11)*8)+6)]) true (cnt 1 []) (cnt 1 (EG c0 [(((AA t25_11)*8)+6)])) 8 (
 apW [T.c (tv (nxT ts12 0)),T.c (tv (nxT ts12 1)),T.c (tv (nxT ts12 2)),T.c (tv (nxT ts12 3)),T.c (tv (nxT ts12 4)),T.l 1 ([]++(EG c0 [(((AA t25_11)*8)+6)]))] false (cnt 6 (nxc k2 0)) (cnt 6 [T.c (tv (nxT ts12 0)),T.c (tv (nxT ts12 1)),T.c (tv (nxT ts12 2)),T.c (tv (nxT ts12 3)),T.c (tv (nxT ts12 4)),T.l 1 ([]++(EG c0 [(((AA t25_11)*8)+6)]))]) 64 (
 prP (bnI .add (nx x1 0) (.int .i64 1)) fun t21_13=>
 r3 [t21_13] [((nxc k2 0)++[T.c (tv (nxT ts12 0)),T.c (tv (nxT ts12 1)),T.c (tv (nxT ts12 2)),T.c (tv (nxT ts12 3)),T.c (tv (nxT ts12 4)),T.l 1 ([]++(EG c0 [(((AA t25_11)*8)+6)]))]),(nxc k2 1),(nxc k2 2)]))) (
 K [] [(nxc k2 0),(nxc k2 1),(nxc k2 2)])) [(.int .i64 0)] [[],([]++c1),([]++c3)]))
theorem GS.cl2 {w0:World} {c0 c1 c2 c3:List T} {K:J2} (h:GS.txt ⟨Try.prog,w0⟩ c0 c1 c2 c3 K):Eng.cl2 ⟨Try.prog,w0⟩ 71 GS.sg [] [c0,c1,c2,c3] K:=
 AV (C:=⟨Try.prog,w0⟩) (f:=71) (fn:=Try.f71) [] [(1,[0,0,2,7,0,0,32,127,255,0,1023]),(6,[0,1,0,4,0,16,0,64,0,256,0,1024,0,0,8192,28672,65532,131068,262143,524287,1048575])] [(58,⟨[.p (.j 0) 0, .p (.j 1) 0, .p (.j 2) 0, .v],[],[.bx [.t (.f 0) 8, .t (.f 1) 2, .t (.f 2) 1, .t (.f 3) 1], .bx [.z, .z, .z], .bx [.t (.j 3) 6, .t (.j 4) 2, .t (.j 5) 1], .ls, .ls, .ls]⟩)] Try.func71 (by kernel_rfl) (by kernel_rfl) (by kernel_rfl) h
def C7.sg:Sg:=⟨[(1,[.t 6 0, .t 2 0, .t 1 0]),(0,[.v])],[(0,[.v])],[]⟩
def C7.txt (C:Ctx) (a0:Value) (c0 c1 c2:List T) (K:J2):Prop:=
 prP (bnI .lss a0 (.int .i64 8)) fun t7_1=>
 gE t7_1 (
 gE t7_1 (
 gE t7_1 (
 gP t7_1 false (prP (bnI .neq (iv (cnt 6 c0)) (.int .i64 8))) fun t12_2=>
 prP (pk t7_1 (.bool true) t12_2) fun t13_3=>
 AX t13_3 (
 K [(.int .i64 (-1))] []) (
 prP (bnI .rem a0 (.int .i64 8)) fun t15_4=>
 ixW (cnt 6 c0) t15_4 fun t19_5=>
 ldc c0 [] ((AA t19_5)*6) fun t21_6=>
 prP (un .not t21_6) fun t22_7=>
 gE t22_7 (
 gE t22_7 (
 gE t22_7 (
 gP t22_7 false (ixW (cnt 6 c0) t15_4) fun t27_8=>
 gE t22_7 (
 gP t22_7 false (ldc c0 [] (((AA t27_8)*6)+1)) fun t29_9=>
 gE t22_7 (
 gP t22_7 false (prP (bnI .quo a0 (.int .i64 8))) fun t31_10=>
 gP t22_7 false (prP (bnI .neq t29_9 t31_10)) fun t32_11=>
 prP (pk t22_7 (.bool true) t32_11) fun t33_12=>
 AX t33_12 (
 K [(.int .i64 (-1))] []) (
 K [t15_4] []))))))))))
theorem C7.cl2 {w0:World} {a0:Value} {c0 c1 c2:List T} {K:J2} (h:C7.txt ⟨Try.prog,w0⟩ a0 c0 c1 c2 K):Eng.cl2 ⟨Try.prog,w0⟩ 119 C7.sg [a0] [c0,c1,c2] K:=
 AV (C:=⟨Try.prog,w0⟩) (f:=119) (fn:=Try.f119) [] [] [] Try.func119 (by kernel_rfl) (by kernel_rfl) (by kernel_rfl) h
def DA.sg:Sg:=⟨[(1,[.t 6 0, .t 2 0, .t 1 0])],[(0,[.t 1])],[]⟩
def DA.txt (C:Ctx) (c0 c1 c2:List T) (K:J2):Prop:=
 mkW 1 (iv (cnt 6 c0)) (iv (cnt 6 c0)) fun n1=>
 BE (fun r4 x2 k3=>
 prP (bnI .lss (nx x2 0) (iv (cnt 6 c0))) fun t20_6=>
 AX t20_6 (
 BS (fun x8 k9=>
 prP (bnI .add (nx x8 0) (.int .i64 1)) fun t22_22=>
 r4 [t22_22] [(nxc k9 0),(nxc k9 1)]) fun j10=>
 ixW (cnt 6 c0) (nx x2 0) fun t26_11=>
 ldc c0 [] ((AA t26_11)*6) fun t28_12=>
 gE t28_12 (
 gE t28_12 (
 gE t28_12 (
 gP t28_12 true (ixW (cnt 6 c0) (nx x2 0)) fun t33_13=>
 gE t28_12 (
 gP t28_12 true (ldc c0 [] (((AA t33_13)*6)+3)) fun t35_14=>
 gE t28_12 (
 gE t28_12 (
 gE t28_12 (
 gP t28_12 true (ixW (cnt 6 c0) (nx x2 0)) fun t39_15=>
 gE t28_12 (
 gP t28_12 true (ldc c0 [] (((AA t39_15)*6)+4)) fun t41_16=>
 gP t28_12 true (prP (bnI .add t35_14 t41_16)) fun t42_17=>
 gP t28_12 true (prP (bnI .gtr t42_17 (.int .i64 0))) fun t43_18=>
 prP (pk t28_12 t43_18 (.bool false)) fun t44_19=>
 AX t44_19 (
 ixW (cnt 1 (nxc k3 0)) (nx x2 0) fun t47_20=>
 stc (nxc k3 0) [] ((AA t47_20)*1) (.bool true) fun k21=>
 apW [T.c (nx x2 0)] true (cnt 1 (nxc k3 1)) (cnt 1 [T.c (nx x2 0)]) 8 (
 j10 [(nx x2 0)] [k21,((nxc k3 1)++[T.c (nx x2 0)])])) (
 j10 [(nx x2 0)] [(nxc k3 0),(nxc k3 1)])))))))))) (
 BE (fun r25 x23 k24=>
 prP (bnI .gtr (iv (AA (nx x23 0))) (.int .i64 0)) fun t54_71=>
 AX t54_71 (
 ixW (AA (nx x23 0)) (.int .i64 0) fun t56_72=>
 ldc (nxc k24 1) [] ((AA (nx x23 1))+((AA t56_72)*1)) fun t57_73=>
 scW (AA (nx x23 0)) (some (.int .i64 1)) none fun l74 m75=>
 BE (fun r78 x76 k77=>
 ixW (cnt 6 c0) (nx x76 2) fun t64_80=>
 ldl c0 [] (((AA t64_80)*6)+5) 1 fun t66_81=>
 prP (bnI .lss (nx x76 3) (iv (cnt 1 (EG c0 [(((AA t64_80)*6)+5)])))) fun t68_82=>
 AX t68_82 (
 BS (fun x84 k85=>
 prP (bnI .add (nx x84 3) (.int .i64 1)) fun t70_101=>
 r78 [(iv (AA (nx x84 0))),(iv (AA (nx x84 1))),(nx x84 2),t70_101] [(nxc k85 0),(nxc k85 1)]) fun j86=>
 ixW (cnt 6 c0) (nx x76 2) fun t75_87=>
 ldl c0 [] (((AA t75_87)*6)+5) 1 fun t77_88=>
 ixW (cnt 1 (EG c0 [(((AA t75_87)*6)+5)])) (nx x76 3) fun t79_89=>
 ldc c0 [(((AA t75_87)*6)+5)] ((AA t79_89)*1) fun t80_90=>
 cl2 C 119 C7.sg [t80_90] [c0,c1,c2] fun v91 d92=>
 prP (bnI .geq (nx v91 0) (.int .i64 0)) fun t83_94=>
 gE t83_94 (
 gE t83_94 (
 gP t83_94 true (ixW (cnt 1 (nxc k77 0)) (nx v91 0)) fun t87_95=>
 gP t83_94 true (ldc (nxc k77 0) [] ((AA t87_95)*1)) fun t88_96=>
 gP t83_94 true (prP (un .not t88_96)) fun t89_97=>
 prP (pk t83_94 t89_97 (.bool false)) fun t90_98=>
 AX t90_98 (
 ixW (cnt 1 (nxc k77 0)) (nx v91 0) fun t93_99=>
 stc (nxc k77 0) [] ((AA t93_99)*1) (.bool true) fun k100=>
 apW [T.c (nx v91 0)] true (AA (nx x76 0)) (cnt 1 [T.c (nx v91 0)]) 8 (
 j86 [(iv (cnt 1 ((G4 (nxc k77 1) [] (AA (nx x76 1)) ((AA (nx x76 0))*1))++[T.c (nx v91 0)]))),(iv 0),(nx x76 2),(nx x76 3)] [k100,((G4 (nxc k77 1) [] (AA (nx x76 1)) ((AA (nx x76 0))*1))++[T.c (nx v91 0)])])) (
 j86 [(iv (AA (nx x76 0))),(iv (AA (nx x76 1))),(nx x76 2),(nx x76 3)] [(nxc k77 0),(nxc k77 1)])))) (
 r25 [(iv (AA (nx x76 0))),(iv (AA (nx x76 1)))] [(nxc k77 0),(nxc k77 1)])) [(iv (AA m75)),(iv ((AA (nx x23 1))+((AA l74)*1))),t57_73,(.int .i64 0)] [(nxc k24 0),(nxc k24 1)]) (
 BE (fun r104 x102 k103=>
 prP (bnI .lss (nx x102 0) (iv (cnt 1 (nxc k103 0)))) fun t102_106=>
 AX t102_106 (
 BS (fun x108 k109=>
 prP (bnI .add (nx x108 0) (.int .i64 1)) fun t104_113=>
 r104 [t104_113] [(nxc k109 0),(nxc k109 1)]) fun j110=>
 ixW (cnt 1 (nxc k103 0)) (nx x102 0) fun t107_111=>
 ldc (nxc k103 0) [] ((AA t107_111)*1) fun t108_112=>
 AX t108_112 (
 apW [T.c (nx x102 0)] true (cnt 1 (nxc k103 1)) (cnt 1 [T.c (nx x102 0)]) 8 (
 j110 [(nx x102 0)] [(nxc k103 0),((nxc k103 1)++[T.c (nx x102 0)])])) (
 j110 [(nx x102 0)] [(nxc k103 0),(nxc k103 1)])) (
 K [] [(nxc k103 1)])) [(.int .i64 0)] [(nxc k24 0),[]])) [(iv (cnt 1 (nxc k3 1))),(iv 0)] [(nxc k3 0),(nxc k3 1)])) [(.int .i64 0)] [(R6 (AA n1) [T.c (.bool false)]),[]]
theorem DA.cl2 {w0:World} {c0 c1 c2:List T} {K:J2} (h:DA.txt ⟨Try.prog,w0⟩ c0 c1 c2 K):Eng.cl2 ⟨Try.prog,w0⟩ 72 DA.sg [] [c0,c1,c2] K:=
 AV (C:=⟨Try.prog,w0⟩) (f:=72) (fn:=Try.f72) [(119,C7.sg)] [(6,[0,1,0,7,15,31,63,127,255,127,1023,2047,4095,127,8319,127,57471,123007,254079,524287,1048575,2097151]),(15,[0,0,2,0,14,30,62,0,254,510,1023,2047])] [(489,⟨[.p (.j 0) 0, .t (.j 1) 1, .t (.j 2) 1, .v],[],[.bx [.t (.f 0) 6, .t (.f 1) 2, .t (.f 2) 1], .ls, .ls]⟩),(63673,⟨[.p (.j 0) 0, .t (.j 1) 1, .s (.j 2) 0 1, .v, .v],[],[.bx [.t (.f 0) 6, .t (.f 1) 2, .t (.f 2) 1], .ls, .ls]⟩),(15918,⟨[.p (.j 0) 0, .t (.j 1) 1, .s (.j 2) 0 1, .v, .v],[],[.bx [.t (.f 0) 6, .t (.f 1) 2, .t (.f 2) 1], .ls, .ls]⟩),(4073,⟨[.t (.j 0) 1, .t (.j 1) 1, .v],[],[.ls, .ls]⟩),(1018,⟨[.t (.j 0) 1, .t (.j 1) 1, .v],[],[.ls, .ls]⟩),(124,⟨[.p (.j 0) 0, .t (.j 1) 1, .s (.j 2) 0 1],[],[.bx [.t (.f 0) 6, .t (.f 1) 2, .t (.f 2) 1], .ls, .ls]⟩),(122,⟨[.p (.j 0) 0, .t (.j 1) 1, .t (.j 2) 1, .v],[],[.bx [.t (.f 0) 6, .t (.f 1) 2, .t (.f 2) 1], .ls, .ls]⟩)] Try.func72 (by kernel_rfl) (by kernel_rfl) (by kernel_rfl) h
end Go.Proofs.Ytklmcfpgdfibnaa.P
