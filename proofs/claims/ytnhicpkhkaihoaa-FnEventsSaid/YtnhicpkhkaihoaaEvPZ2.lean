/- A part of the proof. -/
import Derived.Test.YtnhicpkhkaihoaaChecked
import Derived.Test.YtnhicpkhkaihoaaEvPZ1
import Derived.KernelRfl
namespace Go.Proofs.Ytnhicpkhkaihoaa.P
open Go Go.Proofs.Ytnhicpkhkaihoaa Go.Proofs.Ytnhicpkhkaihoaa.Eng
set_option linter.unusedVariables false
set_option maxRecDepth 100000
def C4.sg:Sg:=⟨[(0,[.v])],[(0,[.v]),(0,[.v])],[]⟩
def C4.txt (C:Ctx) (a0:Value) (K:J2):Prop:=
 BG (fun r3 x1 k2=>
 prP (bnI .lss (nx x1 2) (.int .i64 7)) fun t8_5=>
 gE t8_5 (
 gE t8_5 (
 gP t8_5 true (prP (lnS (nx x1 0))) fun t12_6=>
 gP t8_5 true (prP (bnI .lss (nx x1 2) t12_6)) fun t13_7=>
 prP (pk t8_5 t13_7 (.bool false)) fun t14_8=>
 AI t14_8 (
 prP (ix (nx x1 0) (nx x1 2)) fun t19_9=>
 prP (cvI .i64 t19_9) fun t20_10=>
 prP (bnI .rem t20_10 (.int .i64 128)) fun t23_11=>
 prP (bnI .mul (.int .i64 7) (nx x1 2)) fun t25_12=>
 prP (bnI .shl t23_11 t25_12) fun t26_13=>
 prP (bnI .add (nx x1 1) t26_13) fun t27_14=>
 prP (bnI .geq t20_10 (.int .i64 128)) fun t29_15=>
 AI t29_15 (
 prP (bnI .add (nx x1 2) (.int .i64 1)) fun t16_16=>
 r3 [(nx x1 0),t27_14,t16_16] []) (
 prP (bnI .eql t20_10 (.int .i64 0)) fun t31_17=>
 gE t31_17 (
 gP t31_17 true (prP (bnI .gtr (nx x1 2) (.int .i64 0))) fun t34_18=>
 prP (pk t31_17 t34_18 (.bool false)) fun t35_19=>
 AI t35_19 (
 K [(.int .i64 0),(.int .i64 0)] []) (
 prP (bnI .add (nx x1 2) (.int .i64 1)) fun t38_20=>
 K [t27_14,t38_20] [])))) (
 K [(.int .i64 0),(.int .i64 0)] [])))) [a0,(.int .i64 0),(.int .i64 0)] []
theorem C4.cl2 {w0:World} {a0:Value} {K:J2} (h:C4.txt ⟨Try.prog,w0⟩ a0 K):Eng.cl2 ⟨Try.prog,w0⟩ 167 C4.sg [a0] [] K:=
 AD (C:=⟨Try.prog,w0⟩) (f:=167) (fn:=Try.f167) [] [] [(58,⟨[.v, .v, .v],[],[]⟩)] Try.func167 (by kernel_rfl) (by kernel_rfl) (by kernel_rfl) h
def I3.sg:Sg:=⟨[(0,[.v])],[(0,[.v])],[]⟩
def I3.txt (C:Ctx) (a0:Value) (K:J2):Prop:=
 prP (bnI .rem a0 (.int .i64 2)) fun t4_1=>
 prP (bnI .eql t4_1 (.int .i64 0)) fun t5_2=>
 AI t5_2 (
 prP (bnI .quo a0 (.int .i64 2)) fun t7_3=>
 K [t7_3] []) (
 prP (bnI .quo a0 (.int .i64 2)) fun t9_4=>
 prP (un .neg t9_4) fun t10_5=>
 prP (bnI .sub t10_5 (.int .i64 1)) fun t11_6=>
 K [t11_6] [])
theorem I3.cl2 {w0:World} {a0:Value} {K:J2} (h:I3.txt ⟨Try.prog,w0⟩ a0 K):Eng.cl2 ⟨Try.prog,w0⟩ 209 I3.sg [a0] [] K:=
 AD (C:=⟨Try.prog,w0⟩) (f:=209) (fn:=Try.f209) [] [] [] Try.func209 (by kernel_rfl) (by kernel_rfl) (by kernel_rfl) h
def FD.sg:Sg:=⟨[(0,[.v])],[(0,[.v]),(0,[.v])],[]⟩
def FD.txt (C:Ctx) (a0:Value) (K:J2):Prop:=
 cl2 C 167 C4.sg [a0] [] fun v1 d2=>
 prP (bnI .eql (nx v1 1) (.int .i64 0)) fun t12_3=>
 gE t12_3 (
 gP t12_3 false (prP (bnI .gtr (nx v1 0) (.int .i64 200000000000000))) fun t15_4=>
 prP (pk t12_3 (.bool true) t15_4) fun t16_5=>
 AI t16_5 (
 K [(.int .i64 0),(.int .i64 0)] []) (
 cl2 C 209 I3.sg [(nx v1 0)] [] fun v6 d7=>
 K [(nx v6 0),(nx v1 1)] []))
theorem FD.cl2 {w0:World} {a0:Value} {K:J2} (h:FD.txt ⟨Try.prog,w0⟩ a0 K):Eng.cl2 ⟨Try.prog,w0⟩ 165 FD.sg [a0] [] K:=
 AD (C:=⟨Try.prog,w0⟩) (f:=165) (fn:=Try.f165) [(167,C4.sg),(209,I3.sg)] [] [] Try.func165 (by kernel_rfl) (by kernel_rfl) (by kernel_rfl) h
def BJ.sg:Sg:=⟨[(2,[.v, .v]),(0,[.v])],[],[[.v, .v]]⟩
def BJ.txt (C:Ctx) (a0 a1 a2:Value) (K:J2):Prop:=
 BZ (fun x2 k3=>
 prP (scS (nx x2 1) (some (nx x2 0)) none) fun t15_6=>
 K [t15_6,(nx x2 2)] []) fun j4=>
 prP (bnI .eql a2 (.int .i64 0)) fun t5_5=>
 AI t5_5 (
 j4 [a2,a0,(.bool true)] []) (
 j4 [a2,a0,a1] [])
theorem BJ.cl2 {w0:World} {a0 a1 a2:Value} {K:J2} (h:BJ.txt ⟨Try.prog,w0⟩ a0 a1 a2 K):Eng.cl2 ⟨Try.prog,w0⟩ 166 BJ.sg [a0,a1,a2] [] K:=
 AD (C:=⟨Try.prog,w0⟩) (f:=166) (fn:=Try.f166) [] [] [(1,⟨[.p (.j 0) 0, .v],[.p (.j 0) 0],[.bx [.v, .v]]⟩)] Try.func166 (by kernel_rfl) (by kernel_rfl) (by kernel_rfl) h
def BH.sg:Sg:=⟨[(2,[.v, .v])],[(0,[.v])],[[.v, .v]]⟩
def BH.txt (C:Ctx) (a0 a1:Value) (K:J2):Prop:=
 cl2 C 165 FD.sg [a0] [] fun v1 d2=>
 cl2 C 166 BJ.sg [a0,a1,(nx v1 1)] [] fun v3 d4=>
 K [(nx v1 0),(nx v3 0),(nx v3 1)] []
theorem BH.cl2 {w0:World} {a0 a1:Value} {K:J2} (h:BH.txt ⟨Try.prog,w0⟩ a0 a1 K):Eng.cl2 ⟨Try.prog,w0⟩ 100 BH.sg [a0,a1] [] K:=
 AD (C:=⟨Try.prog,w0⟩) (f:=100) (fn:=Try.f100) [(165,FD.sg),(166,BJ.sg)] [] [] Try.func100 (by kernel_rfl) (by kernel_rfl) (by kernel_rfl) h
def B4.sg:Sg:=⟨[(2,[.v, .v])],[(0,[.v])],[[.v, .v]]⟩
def B4.txt (C:Ctx) (a0 a1:Value) (K:J2):Prop:=
 cl2 C 167 C4.sg [a0] [] fun v1 d2=>
 cl2 C 166 BJ.sg [a0,a1,(nx v1 1)] [] fun v3 d4=>
 K [(nx v1 0),(nx v3 0),(nx v3 1)] []
theorem B4.cl2 {w0:World} {a0 a1:Value} {K:J2} (h:B4.txt ⟨Try.prog,w0⟩ a0 a1 K):Eng.cl2 ⟨Try.prog,w0⟩ 101 B4.sg [a0,a1] [] K:=
 AD (C:=⟨Try.prog,w0⟩) (f:=101) (fn:=Try.f101) [(167,C4.sg),(166,BJ.sg)] [] [] Try.func101 (by kernel_rfl) (by kernel_rfl) (by kernel_rfl) h
def EH.sg:Sg:=⟨[(0,[.v])],[(0,[.v]),(0,[.v])],[]⟩
def EH.txt (C:Ctx) (a0:Value) (K:J2):Prop:=
 cl2 C 167 C4.sg [a0] [] fun v1 d2=>
 prP (bnI .eql (nx v1 1) (.int .i64 0)) fun t12_3=>
 gE t12_3 (
 gP t12_3 false (prP (bnI .gtr (nx v1 0) (.int .i64 8))) fun t15_4=>
 prP (pk t12_3 (.bool true) t15_4) fun t16_5=>
 gE t16_5 (
 gE t16_5 (
 gP t16_5 false (prP (lnS a0)) fun t20_6=>
 gE t16_5 (
 gP t16_5 false (prP (bnI .sub t20_6 (nx v1 1))) fun t22_7=>
 gP t16_5 false (prP (bnI .gtr (nx v1 0) t22_7)) fun t23_8=>
 prP (pk t16_5 (.bool true) t23_8) fun t24_9=>
 AI t24_9 (
 K [(.string {data:= #[]}),(.int .i64 0)] []) (
 prP (bnI .add (nx v1 1) (nx v1 0)) fun t29_10=>
 prP (scS a0 (some (nx v1 1)) (some t29_10)) fun t30_11=>
 prP (bnI .add (nx v1 1) (nx v1 0)) fun t33_12=>
 K [t30_11,t33_12] [])))))
theorem EH.cl2 {w0:World} {a0:Value} {K:J2} (h:EH.txt ⟨Try.prog,w0⟩ a0 K):Eng.cl2 ⟨Try.prog,w0⟩ 168 EH.sg [a0] [] K:=
 AD (C:=⟨Try.prog,w0⟩) (f:=168) (fn:=Try.f168) [(167,C4.sg)] [] [] Try.func168 (by kernel_rfl) (by kernel_rfl) (by kernel_rfl) h
def CC.sg:Sg:=⟨[(2,[.v, .v])],[(0,[.v])],[[.v, .v]]⟩
def CC.txt (C:Ctx) (a0 a1:Value) (K:J2):Prop:=
 cl2 C 168 EH.sg [a0] [] fun v1 d2=>
 cl2 C 166 BJ.sg [a0,a1,(nx v1 1)] [] fun v3 d4=>
 K [(nx v1 0),(nx v3 0),(nx v3 1)] []
theorem CC.cl2 {w0:World} {a0 a1:Value} {K:J2} (h:CC.txt ⟨Try.prog,w0⟩ a0 a1 K):Eng.cl2 ⟨Try.prog,w0⟩ 102 CC.sg [a0,a1] [] K:=
 AD (C:=⟨Try.prog,w0⟩) (f:=102) (fn:=Try.f102) [(168,EH.sg),(166,BJ.sg)] [] [] Try.func102 (by kernel_rfl) (by kernel_rfl) (by kernel_rfl) h
def DF.sg:Sg:=⟨[(1,[.v, .t 1 0]),(0,[.v])],[(1,[.v, .v, .v, .v, .v]),(1,[.v, .v, .t 1]),(1,[.v, .t 1]),(0,[.v])],[]⟩
def DF.txt (C:Ctx) (a0 a1:Value) (c0:List T) (K:J2):Prop:=
 cl2 C 100 BH.sg [a1,(.bool false)] [] fun v1 d2=>
 cl2 C 100 BH.sg [(nx v1 1),(nx v1 2)] [] fun v3 d4=>
 prP (bnI .add a0 (nx v3 0)) fun t27_5=>
 cl2 C 100 BH.sg [(nx v3 1),(nx v3 2)] [] fun v6 d7=>
 cl2 C 100 BH.sg [(nx v6 1),(nx v6 2)] [] fun v8 d9=>
 prP (bnI .add t27_5 (nx v8 0)) fun t36_10=>
 cl2 C 101 B4.sg [(nx v8 1),(nx v8 2)] [] fun v11 d12=>
 BZ (fun x14 k15=>
 cl2 C 101 B4.sg [(nx x14 10),(nx x14 11)] [] fun v24 d25=>
 cl2 C 100 BH.sg [(nx v24 1),(nx v24 2)] [] fun v26 d27=>
 prP (bnI .add (nx x14 13) (nx v26 0)) fun t69_28=>
 cl2 C 101 B4.sg [(nx v26 1),(nx v26 2)] [] fun v29 d30=>
 BG (fun r33 x31 k32=>
 prP (bnI .lss (nx x31 3) (nx x31 1)) fun t77_51=>
 gE t77_51 (
 gE t77_51 (
 gE t77_51 (
 gE t77_51 (
 gP t77_51 true (prP (un .not (nx x31 14))) fun t83_52=>
 prP (pk t77_51 t83_52 (.bool false)) fun t84_53=>
 AI t84_53 (
 cl2 C 100 BH.sg [(nx x31 13),(nx x31 14)] [] fun v54 d55=>
 prP (bnI .add (nx x31 2) (nx v54 0)) fun t90_56=>
 apW [T.c t90_56] true (cnt 1 (nxc k32 0)) (cnt 1 [T.c t90_56]) 8 (
 prP (bnI .add (nx x31 3) (.int .i64 1)) fun t86_57=>
 r33 [(nx x31 0),(nx x31 1),t90_56,t86_57,(nx x31 4),(nx x31 5),(nx x31 6),(nx x31 7),(nx x31 8),(nx x31 9),(nx x31 10),(nx x31 11),(nx x31 12),(nx v54 1),(nx v54 2),(nx x31 15),(nx x31 16),(nx x31 17),(nx x31 18),(nx x31 19),(nx x31 20),(nx x31 21)] [((nxc k32 0)++[T.c t90_56])])) (
 cl2 C 51 CM.sg [(nx x31 4),(nx x31 15),(nx x31 16),(nx x31 17),(nx x31 18),(nx x31 19),(nx x31 20),(nx x31 21)] [c0,(nxc k32 0)] fun v58 d59=>
 gE (nx x31 14) (
 gP (nx x31 14) false (prP (bnS .eql (nx v58 0) (.string {data:= #[]}))) fun t110_60=>
 prP (pk (nx x31 14) (.bool true) t110_60) fun t111_61=>
 gE t111_61 (
 gE t111_61 (
 gP t111_61 false (prP (bnS .neq (nx v58 0) (nx x31 0))) fun t115_62=>
 prP (pk t111_61 (.bool true) t115_62) fun t116_63=>
 AI t116_63 (
 cl2 C 103 DH.sg [(nx x31 4)] [c0] fun v64 d65=>
 K [(.int .i64 0),(.int .i64 0),(.int .i64 0),(.int .i64 0),(.string {data:= #[]}),(.int .i64 0),(.int .i64 0),(nx v64 0),(.bool false)] [[],(nxc d65 0)]) (
 K [(nx x31 15),(nx x31 16),(nx x31 17),(nx x31 18),(nx x31 19),(nx x31 20),(nx x31 21),(nx v58 1),(.bool true)] [(nxc k32 0),(nxc d59 0)])))))))))) [(nx x14 0),(nx v29 0),(nx x14 13),(.int .i64 0),(nx x14 1),(nx x14 2),(nx x14 3),(nx x14 4),(nx x14 5),(nx x14 6),(nx x14 7),(nx x14 8),(nx x14 9),(nx v29 1),(nx v29 2),(nx x14 12),(nx x14 13),(nx x14 14),(nx x14 15),(nx x14 16),(nx v24 0),t69_28] [[]]) fun j16=>
 prP (bnI .eql (nx v11 0) (.int .i64 0)) fun t45_17=>
 AI t45_17 (
 cl2 C 102 CC.sg [(nx v11 1),(nx v11 2)] [] fun v18 d19=>
 j16 [a1,a0,(.int .i64 0),(.int .i64 0),(.int .i64 0),(.int .i64 0),(.string {data:= #[]}),(.int .i64 0),(.int .i64 0),(.int .i64 0),(nx v18 1),(nx v18 2),(nx v1 0),t27_5,(nx v6 0),t36_10,(nx v18 0),(.int .i64 0),(.int .i64 0)] []) (
 prP (bnI .leq (nx v11 0) (iv (cnt 1 c0))) fun t54_20=>
 AI t54_20 (
 prP (bnI .sub (nx v11 0) (.int .i64 1)) fun t58_21=>
 ixW (cnt 1 c0) t58_21 fun t59_22=>
 ldc c0 [] ((AA t59_22)*1) fun t60_23=>
 j16 [a1,a0,(.int .i64 0),(.int .i64 0),(.int .i64 0),(.int .i64 0),(.string {data:= #[]}),(.int .i64 0),(.int .i64 0),(.int .i64 0),(nx v11 1),(nx v11 2),(nx v1 0),t27_5,(nx v6 0),t36_10,t60_23,(.int .i64 0),(.int .i64 0)] []) (
 j16 [a1,a0,(.int .i64 0),(.int .i64 0),(.int .i64 0),(.int .i64 0),(.string {data:= #[]}),(.int .i64 0),(.int .i64 0),(.int .i64 0),(nx v11 1),(.bool true),(nx v1 0),t27_5,(nx v6 0),t36_10,(.string {data:= #[]}),(.int .i64 0),(.int .i64 0)] []))
theorem DF.cl2 {w0:World} {a0 a1:Value} {c0:List T} {K:J2} (h:DF.txt ⟨Try.prog,w0⟩ a0 a1 c0 K):Eng.cl2 ⟨Try.prog,w0⟩ 35 DF.sg [a0,a1] [c0] K:=
 AD (C:=⟨Try.prog,w0⟩) (f:=35) (fn:=Try.f35) [(100,BH.sg),(101,B4.sg),(102,CC.sg),(51,CM.sg),(103,DH.sg)] [(5,[0,1,0,4,15,31,63]),(7,[0,1,0,4,15,31,63]),(15,[0,1,0,4,15,31,63]),(26,[0,0,0,1,11,31,63])] [(1023,⟨[.v, .p (.j 0) 0, .p (.j 1) 0, .p (.j 2) 0, .p (.j 3) 0, .p (.j 4) 0, .p (.j 5) 0, .p (.j 6) 0],[],[.bx [.v, .t (.f 0) 1], .bx [.v, .v, .v, .v, .v], .bx [.v, .v, .z], .bx [.v, .z], .bx [.v, .v], .bx [.v, .v, .v, .v, .v], .bx [.v, .v, .z]]⟩),(262138,⟨[.v, .p (.j 0) 0, .p (.j 1) 0, .p (.j 2) 0, .p (.j 3) 0, .p (.j 4) 0, .p (.j 5) 0, .p (.j 6) 0, .v, .v, .v],[],[.bx [.v, .t (.f 0) 1], .bx [.v, .v, .v, .v, .v], .bx [.v, .v, .z], .bx [.v, .z], .bx [.v, .v], .bx [.v, .v, .v, .v, .v], .bx [.v, .v, .t (.j 7) 1], .ls]⟩)] Try.func35 (by kernel_rfl) (by kernel_rfl) (by kernel_rfl) h
def DD.sg:Sg:=⟨[(0,[.v]),(0,[.v])],[(0,[.v])],[]⟩
def DD.txt (C:Ctx) (a0 a1:Value) (K:J2):Prop:=
 prP (lnS a0) fun t6_1=>
 prP (lnS a1) fun t8_2=>
 prP (bnI .geq t6_1 t8_2) fun t9_3=>
 gE t9_3 (
 gE t9_3 (
 gP t9_3 true (prP (lnS a1)) fun t13_4=>
 gP t9_3 true (prP (scS a0 none (some t13_4))) fun t14_5=>
 gE t9_3 (
 gP t9_3 true (prP (bnS .eql t14_5 a1)) fun t16_6=>
 prP (pk t9_3 t16_6 (.bool false)) fun t17_7=>
 K [t17_7] [])))
theorem DD.cl2 {w0:World} {a0 a1:Value} {K:J2} (h:DD.txt ⟨Try.prog,w0⟩ a0 a1 K):Eng.cl2 ⟨Try.prog,w0⟩ 230 DD.sg [a0,a1] [] K:=
 AD (C:=⟨Try.prog,w0⟩) (f:=230) (fn:=Try.f230) [] [] [] Try.func230 (by kernel_rfl) (by kernel_rfl) (by kernel_rfl) h
def F4.sg:Sg:=⟨[(0,[.v]),(0,[.v])],[(0,[.v]),(0,[.v])],[]⟩
def F4.txt (C:Ctx) (a0 a1:Value) (K:J2):Prop:=
 cl2 C 230 DD.sg [a0,a1] [] fun v1 d2=>
 prP (un .not (nx v1 0)) fun t9_4=>
 AI t9_4 (
 K [a0,(.bool false)] []) (
 prP (lnS a1) fun t13_5=>
 prP (scS a0 (some t13_5) none) fun t14_6=>
 K [t14_6,(.bool true)] [])
theorem F4.cl2 {w0:World} {a0 a1:Value} {K:J2} (h:F4.txt ⟨Try.prog,w0⟩ a0 a1 K):Eng.cl2 ⟨Try.prog,w0⟩ 210 F4.sg [a0,a1] [] K:=
 AD (C:=⟨Try.prog,w0⟩) (f:=210) (fn:=Try.f210) [(230,DD.sg)] [] [] Try.func210 (by kernel_rfl) (by kernel_rfl) (by kernel_rfl) h
def CZ.sg:Sg:=⟨[(1,[.t 8 0, .t 2 0, .t 1 0, .t 1 0])],[(1,[.t 8, .t 2, .t 1, .t 1])],[]⟩
def CZ.txt (C:Ctx) (c0 c1 c2 c3:List T) (K:J2):Prop:=
 apW c1 true (cnt 2 []) (cnt 2 c1) 16 (
 apW c2 true (cnt 1 []) (cnt 1 c2) 8 (
 apW c3 true (cnt 1 []) (cnt 1 c3) 16 (
 BG (fun r3 x1 k2=>
 prP (bnI .lss (nx x1 0) (iv (cnt 8 c0))) fun t23_10=>
 AI t23_10 (
 ixW (cnt 8 c0) (nx x1 0) fun t29_11=>
 ldg c0 [] ((AA t29_11)*8) [.c, .c, .c, .c, .c, .c, .l 1, .c] fun ts12=>
 apW (IM c0 [(((AA t29_11)*8)+6)]) true (cnt 1 []) (cnt 1 (IM c0 [(((AA t29_11)*8)+6)])) 8 (
 apW [T.c (tv (nxT ts12 0)),T.c (tv (nxT ts12 1)),T.c (tv (nxT ts12 2)),T.c (tv (nxT ts12 3)),T.c (tv (nxT ts12 4)),T.c (tv (nxT ts12 5)),T.l 1 ([]++(IM c0 [(((AA t29_11)*8)+6)])),T.c (tv (nxT ts12 7))] false (cnt 8 (nxc k2 0)) (cnt 8 [T.c (tv (nxT ts12 0)),T.c (tv (nxT ts12 1)),T.c (tv (nxT ts12 2)),T.c (tv (nxT ts12 3)),T.c (tv (nxT ts12 4)),T.c (tv (nxT ts12 5)),T.l 1 ([]++(IM c0 [(((AA t29_11)*8)+6)])),T.c (tv (nxT ts12 7))]) 80 (
 prP (bnI .add (nx x1 0) (.int .i64 1)) fun t25_13=>
 r3 [t25_13] [((nxc k2 0)++[T.c (tv (nxT ts12 0)),T.c (tv (nxT ts12 1)),T.c (tv (nxT ts12 2)),T.c (tv (nxT ts12 3)),T.c (tv (nxT ts12 4)),T.c (tv (nxT ts12 5)),T.l 1 ([]++(IM c0 [(((AA t29_11)*8)+6)])),T.c (tv (nxT ts12 7))]),(nxc k2 1),(nxc k2 2),(nxc k2 3)]))) (
 K [] [(nxc k2 0),(nxc k2 1),(nxc k2 2),(nxc k2 3)])) [(.int .i64 0)] [[],([]++c1),([]++c2),([]++c3)])))
theorem CZ.cl2 {w0:World} {c0 c1 c2 c3:List T} {K:J2} (h:CZ.txt ⟨Try.prog,w0⟩ c0 c1 c2 c3 K):Eng.cl2 ⟨Try.prog,w0⟩ 134 CZ.sg [] [c0,c1,c2,c3] K:=
 AD (C:=⟨Try.prog,w0⟩) (f:=134) (fn:=Try.f134) [] [(1,[0,0,2,7,0,0,32,127,0,0,512,2047,4095,0,16383])] [(58,⟨[.p (.j 0) 0, .p (.j 1) 0, .p (.j 2) 0, .v],[],[.bx [.t (.f 0) 8, .t (.f 1) 2, .t (.f 2) 1, .t (.f 3) 1], .bx [.z, .z, .z, .z], .bx [.t (.j 3) 8, .t (.j 4) 2, .t (.j 5) 1, .t (.j 6) 1], .ls, .ls, .ls, .ls]⟩)] Try.func134 (by kernel_rfl) (by kernel_rfl) (by kernel_rfl) h
def D4.sg:Sg:=⟨[(1,[.t 8 0, .t 2 0, .t 1 0, .t 1 0]),(0,[.v])],[(0,[.v])],[]⟩
def D4.txt (C:Ctx) (a0:Value) (c0 c1 c2 c3:List T) (K:J2):Prop:=
 prP (bnI .sub (iv (cnt 8 c0)) (.int .i64 1)) fun t13_1=>
 cl2 C 154 BE.sg [a0,(.int .i64 0),t13_1] [] fun v2 d3=>
 prP (un .not (nx v2 0)) fun t15_5=>
 gE t15_5 (
 gE t15_5 (
 gE t15_5 (
 gP t15_5 false (ixW (cnt 8 c0) a0) fun t20_6=>
 gE t15_5 (
 gP t15_5 false (ldc c0 [] ((AA t20_6)*8)) fun t22_7=>
 gP t15_5 false (prP (un .not t22_7)) fun t23_8=>
 prP (pk t15_5 (.bool true) t23_8) fun t24_9=>
 AI t24_9 (
 K [(.int .i64 0)] []) (
 ixW (cnt 8 c0) a0 fun t29_10=>
 ldc c0 [] (((AA t29_10)*8)+1) fun t31_11=>
 cl2 C 79 DN.sg [a0,t31_11] [] fun v12 d13=>
 BG (fun r17 x15 k16=>
 prP (bnI .lss (nx x15 2) (iv (cnt 8 c0))) fun t37_19=>
 AI t37_19 (
 BG (fun r22 x20 k21=>
 ixW (cnt 8 c0) (nx x20 2) fun t44_24=>
 ldl c0 [] (((AA t44_24)*8)+6) 1 fun t46_25=>
 prP (bnI .lss (nx x20 3) (iv (cnt 1 (IM c0 [(((AA t44_24)*8)+6)])))) fun t48_26=>
 gE t48_26 (
 gE t48_26 (
 gE t48_26 (
 gP t48_26 true (ixW (cnt 8 c0) (nx x20 2)) fun t53_27=>
 gE t48_26 (
 gP t48_26 true (ldc c0 [] ((AA t53_27)*8)) fun t55_28=>
 prP (pk t48_26 t55_28 (.bool false)) fun t56_29=>
 AI t56_29 (
 BZ (fun x31 k32=>
 prP (bnI .add (nx x31 3) (.int .i64 1)) fun t58_40=>
 r22 [(nx x31 0),(nx x31 1),(nx x31 2),t58_40] []) fun j33=>
 ixW (cnt 8 c0) (nx x20 2) fun t62_34=>
 ldl c0 [] (((AA t62_34)*8)+6) 1 fun t64_35=>
 ixW (cnt 1 (IM c0 [(((AA t62_34)*8)+6)])) (nx x20 3) fun t66_36=>
 ldc c0 [(((AA t62_34)*8)+6)] ((AA t66_36)*1) fun t67_37=>
 prP (bnI .eql t67_37 (nx x20 1)) fun t69_38=>
 AI t69_38 (
 prP (bnI .add (nx x20 0) (.int .i64 1)) fun t71_39=>
 j33 [t71_39,(nx x20 1),(nx x20 2),(nx x20 3)] []) (
 j33 [(nx x20 0),(nx x20 1),(nx x20 2),(nx x20 3)] [])) (
 prP (bnI .add (nx x20 2) (.int .i64 1)) fun t39_41=>
 r17 [(nx x20 0),(nx x20 1),t39_41] [])))))) [(nx x15 0),(nx x15 1),(nx x15 2),(.int .i64 0)] []) (
 K [(nx x15 0)] [])) [(.int .i64 0),(nx v12 0),(.int .i64 0)] [])))))
theorem D4.cl2 {w0:World} {a0:Value} {c0 c1 c2 c3:List T} {K:J2} (h:D4.txt ⟨Try.prog,w0⟩ a0 c0 c1 c2 c3 K):Eng.cl2 ⟨Try.prog,w0⟩ 189 D4.sg [a0] [c0,c1,c2,c3] K:=
 AD (C:=⟨Try.prog,w0⟩) (f:=189) (fn:=Try.f189) [(154,BE.sg),(79,DN.sg)] [] [(64073,⟨[.p (.j 0) 0, .v, .v, .v, .v],[],[.bx [.t (.f 0) 8, .t (.f 1) 2, .t (.f 2) 1, .t (.f 3) 1]]⟩),(16018,⟨[.p (.j 0) 0, .v, .v, .v, .v],[],[.bx [.t (.f 0) 8, .t (.f 1) 2, .t (.f 2) 1, .t (.f 3) 1]]⟩),(250,⟨[.p (.j 0) 0, .v, .v, .v],[],[.bx [.t (.f 0) 8, .t (.f 1) 2, .t (.f 2) 1, .t (.f 3) 1]]⟩)] Try.func189 (by kernel_rfl) (by kernel_rfl) (by kernel_rfl) h
def EW.sg:Sg:=⟨[(0,[.t 1 0]),(0,[.v])],[(0,[.v])],[]⟩
def EW.txt (C:Ctx) (a0:Value) (c0:List T) (K:J2):Prop:=
 BG (fun r3 x1 k2=>
 prP (bnI .lss (nx x1 1) (iv (cnt 1 c0))) fun t9_5=>
 AI t9_5 (
 ixW (cnt 1 c0) (nx x1 1) fun t14_6=>
 ldc c0 [] ((AA t14_6)*1) fun t15_7=>
 prP (bnI .eql t15_7 (nx x1 0)) fun t17_8=>
 AI t17_8 (
 K [(.bool true)] []) (
 prP (bnI .add (nx x1 1) (.int .i64 1)) fun t11_9=>
 r3 [(nx x1 0),t11_9] [])) (
 K [(.bool false)] [])) [a0,(.int .i64 0)] []
theorem EW.cl2 {w0:World} {a0:Value} {c0:List T} {K:J2} (h:EW.txt ⟨Try.prog,w0⟩ a0 c0 K):Eng.cl2 ⟨Try.prog,w0⟩ 190 EW.sg [a0] [c0] K:=
 AD (C:=⟨Try.prog,w0⟩) (f:=190) (fn:=Try.f190) [] [] [(26,⟨[.t (.f 0) 1, .v, .v],[],[]⟩)] Try.func190 (by kernel_rfl) (by kernel_rfl) (by kernel_rfl) h
end Go.Proofs.Ytnhicpkhkaihoaa.P
