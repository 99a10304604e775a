/- A part of the proof. -/
import Derived.Test.YtnhicpkhkaihoaaChecked
import Derived.Test.YtnhicpkhkaihoaaCkPZ4
import Derived.KernelRfl
namespace Go.Proofs.Ytnhicpkhkaihoaa.P
open Go Go.Proofs.Ytnhicpkhkaihoaa Go.Proofs.Ytnhicpkhkaihoaa.Eng
set_option linter.unusedVariables false
set_option maxRecDepth 100000
def B9.sg:Sg:=⟨[(2,[.t 1 2, .t 1 2]),(1,[.t 8 0, .t 2 0, .t 1 0, .t 1 0]),(0,[.v])],[],[[.t 1, .t 1]]⟩
def B9.txt (C:Ctx) (a0:Value) (c0 c1 c2 c3 c4 c5:List T) (K:J2):Prop:=
 ixW (cnt 1 c1) a0 fun t13_1=>
 ldc c1 [] ((AA t13_1)*1) fun t14_2=>
 prP (bnI .neq t14_2 (.int .i64 1)) fun t15_3=>
 AU t15_3 (
 K [] [c0,c1]) (
 ixW (cnt 1 c0) a0 fun t21_4=>
 ldc c0 [] ((AA t21_4)*1) fun t22_5=>
 prP (bnI .gtr t22_5 (.int .i64 0)) fun t23_6=>
 AU t23_6 (
 cl2 C 235 BX.sg [a0,(.int .i64 0),(.int .i64 1)] [c0,c1,c2,c3,c4,c5] fun v7 d8=>
 K [] [(nxc d8 0),(nxc d8 1)]) (
 ixW (cnt 1 c1) a0 fun t33_9=>
 stc c1 [] ((AA t33_9)*1) (.int .i64 2) fun k10=>
 cl2 C 237 D6.sg [a0] [c2,c3,c4,c5] fun v11 d12=>
 BD (fun r15 x13 k14=>
 prP (bnI .lss (nx x13 1) (nx x13 0)) fun t39_17=>
 AU t39_17 (
 ixW (cnt 1 (nxc k14 0)) (nx x13 1) fun t40_18=>
 ldc (nxc k14 0) [] ((AA t40_18)*1) fun t41_19=>
 cl2 C 236 B9.sg [t41_19] [(nxc k14 1),(nxc k14 2),c2,c3,c4,c5] fun v20 d21=>
 prP (bnI .add (nx x13 1) (.int .i64 1)) fun t46_22=>
 r15 [(nx x13 0),t46_22] [(nxc k14 0),(nxc d21 0),(nxc d21 1)]) (
 K [] [(nxc k14 1),(nxc k14 2)])) [(iv (cnt 1 (nxc d12 0))),(.int .i64 0)] [(nxc d12 0),c0,k10]))
theorem B9.cl2 {w0:World} {a0:Value} {c0 c1 c2 c3 c4 c5:List T} {K:J2} (h:B9.txt ⟨Try.prog,w0⟩ a0 c0 c1 c2 c3 c4 c5 K):Eng.cl2 ⟨Try.prog,w0⟩ 236 B9.sg [a0] [c0,c1,c2,c3,c4,c5] K:=
 AE (C:=⟨Try.prog,w0⟩) (f:=236) (fn:=Try.f236) [(235,BX.sg),(237,D6.sg),(236,B9.sg)] [] [(126,⟨[.p (.j 0) 0, .p (.j 1) 0, .t (.j 2) 1, .v, .v],[.p (.j 0) 0],[.bx [.t (.j 3) 1, .t (.j 4) 1], .bx [.t (.f 0) 8, .t (.f 1) 2, .t (.f 2) 1, .t (.f 3) 1], .ls, .ls, .ls]⟩)] Try.func236 (by kernel_rfl) (by kernel_rfl) (by kernel_rfl) h
def EM.sg:Sg:=⟨[(1,[.t 8 0, .t 2 0, .t 1 0, .t 1 0]),(1,[.t 1 0, .t 1 0]),(0,[.v])],[(1,[.t 1, .t 1])],[]⟩
def EM.txt (C:Ctx) (a0:Value) (c0 c1 c2 c3 c4 c5:List T) (K:J2):Prop:=
 cl2 C 233 C6.sg [] [c4,c5] fun v1 d2=>
 BW (fun x4 k5=>
 K [] [(nxc k5 0),(nxc k5 1)]) fun j6=>
 cl2 C 234 FH.sg [a0] [c0,c1,c2,c3,c4,c5] fun v7 d8=>
 AU (nx v7 0) (
 cl2 C 236 B9.sg [a0] [(nxc d2 0),(nxc d2 1),c0,c1,c2,c3] fun v10 d11=>
 j6 [] [(nxc d11 0),(nxc d11 1)]) (
 j6 [] [(nxc d2 0),(nxc d2 1)])
theorem EM.cl2 {w0:World} {a0:Value} {c0 c1 c2 c3 c4 c5:List T} {K:J2} (h:EM.txt ⟨Try.prog,w0⟩ a0 c0 c1 c2 c3 c4 c5 K):Eng.cl2 ⟨Try.prog,w0⟩ 221 EM.sg [a0] [c0,c1,c2,c3,c4,c5] K:=
 AE (C:=⟨Try.prog,w0⟩) (f:=221) (fn:=Try.f221) [(233,C6.sg),(234,FH.sg),(236,B9.sg)] [] [(7,⟨[.p (.j 0) 0, .p (.j 1) 0],[],[.bx [.z, .z], .bx [.t (.j 2) 1, .t (.j 3) 1], .ls, .ls]⟩)] Try.func221 (by kernel_rfl) (by kernel_rfl) (by kernel_rfl) h
def GP.sg:Sg:=⟨[(1,[.t 1 0, .t 1 0])],[(0,[.t 1])],[]⟩
def GP.txt (C:Ctx) (c0 c1:List T) (K:J2):Prop:=
 BD (fun r3 x1 k2=>
 prP (bnI .lss (nx x1 1) (nx x1 0)) fun t10_15=>
 AU t10_15 (
 BW (fun x17 k18=>
 prP (bnI .add (nx x17 1) (.int .i64 1)) fun t20_23=>
 r3 [(nx x17 0),t20_23] [(nxc k18 0)]) fun j19=>
 ixW (cnt 1 c1) (nx x1 1) fun t12_20=>
 ldc c1 [] ((AA t12_20)*1) fun t13_21=>
 prP (bnI .eql t13_21 (.int .i64 2)) fun t15_22=>
 AU t15_22 (
 apW [T.c (nx x1 1)] true (cnt 1 (nxc k2 0)) (cnt 1 [T.c (nx x1 1)]) 8 (
 j19 [(nx x1 0),(nx x1 1)] [((nxc k2 0)++[T.c (nx x1 1)])])) (
 j19 [(nx x1 0),(nx x1 1)] [(nxc k2 0)])) (
 K [] [(nxc k2 0)])) [(iv (cnt 1 c1)),(.int .i64 0)] [[]]
theorem GP.cl2 {w0:World} {c0 c1:List T} {K:J2} (h:GP.txt ⟨Try.prog,w0⟩ c0 c1 K):Eng.cl2 ⟨Try.prog,w0⟩ 222 GP.sg [] [c0,c1] K:=
 AE (C:=⟨Try.prog,w0⟩) (f:=222) (fn:=Try.f222) [] [] [(467,⟨[.t (.j 0) 1, .t (.f 1) 1, .v, .v],[],[.ls]⟩),(58,⟨[.t (.j 0) 1, .t (.f 1) 1, .v, .v],[],[.ls]⟩)] Try.func222 (by kernel_rfl) (by kernel_rfl) (by kernel_rfl) h
def FU.sg:Sg:=⟨[(1,[.t 8 0, .t 2 0, .t 1 0, .t 1 0])],[(1,[.t 8, .t 2, .t 1, .t 1]),(0,[.t 1])],[]⟩
def FU.txt (C:Ctx) (c0 c1 c2 c3:List T) (K:J2):Prop:=
 cl2 C 141 FD.sg [] [c0,c1,c2,c3] fun v1 d2=>
 prP (bnI .neq (iv (cnt 8 c0)) (.int .i64 8)) fun t20_3=>
 AU t20_3 (
 K [] [(nxc d2 0),(nxc d2 1),(nxc d2 2),(nxc d2 3),[]]) (
 cl2 C 219 EP.sg [] [c0,c1,c2,c3] fun v4 d5=>
 BD (fun r8 x6 k7=>
 prP (bnI .lss (nx x6 1) (nx x6 0)) fun t28_10=>
 AU t28_10 (
 ixW (cnt 1 c2) (nx x6 1) fun t29_11=>
 ldc c2 [] ((AA t29_11)*1) fun t30_12=>
 cl2 C 92 BV.sg [t30_12] [c0,c1,c2,c3] fun v13 d14=>
 cl2 C 220 FC.sg [(nx v13 0)] [c0,c1,c2,c3,(nxc k7 4),(nxc k7 5)] fun v16 d17=>
 prP (bnI .add (nx x6 1) (.int .i64 1)) fun t37_18=>
 r8 [(nx x6 0),t37_18] [(nxc k7 0),(nxc k7 1),(nxc k7 2),(nxc k7 3),(nxc d17 0),(nxc d17 1)]) (
 BD (fun r21 x19 k20=>
 prP (bnI .lss (nx x19 1) (nx x19 0)) fun t42_23=>
 AU t42_23 (
 ixW (cnt 1 c2) (nx x19 1) fun t43_24=>
 ldc c2 [] ((AA t43_24)*1) fun t44_25=>
 cl2 C 92 BV.sg [t44_25] [c0,c1,c2,c3] fun v26 d27=>
 cl2 C 221 EM.sg [(nx v26 0)] [c0,c1,c2,c3,(nxc k20 4),(nxc k20 5)] fun v29 d30=>
 prP (bnI .add (nx x19 1) (.int .i64 1)) fun t51_31=>
 r21 [(nx x19 0),t51_31] [(nxc k20 0),(nxc k20 1),(nxc k20 2),(nxc k20 3),(nxc d30 0),(nxc d30 1)]) (
 cl2 C 222 GP.sg [] [(nxc k20 4),(nxc k20 5)] fun v32 d33=>
 BD (fun r36 x34 k35=>
 prP (bnI .lss (nx x34 1) (nx x34 0)) fun t56_75=>
 AU t56_75 (
 ixW (cnt 1 (nxc k35 1)) (nx x34 1) fun t57_76=>
 ldc (nxc k35 1) [] ((AA t57_76)*1) fun t58_77=>
 ixW (cnt 8 c0) t58_77 fun t64_78=>
 ldc c0 [] (((AA t64_78)*8)+1) fun t66_79=>
 cl2 C 84 GD.sg [t58_77,t66_79] [] fun v80 d81=>
 apW [T.c (nx v80 0)] true (cnt 1 (nxc k35 0)) (cnt 1 [T.c (nx v80 0)]) 8 (
 ixW (cnt 8 c0) t58_77 fun t76_83=>
 ldc c0 [] (((AA t76_83)*8)+1) fun t78_84=>
 cl2 C 182 GM.sg [t78_84] [] fun v85 d86=>
 ixW (cnt 8 (nxc k35 2)) t58_77 fun t80_87=>
 stg (nxc k35 2) [] ((AA t80_87)*8) [T.c (nx v85 0),T.c (nx v85 1),T.c (nx v85 2),T.c (nx v85 3),T.c (nx v85 4),T.c (nx v85 5),T.l 1 (nxc d86 0),T.c (nx v85 6)] fun k88=>
 prP (bnI .add (nx x34 1) (.int .i64 1)) fun t81_89=>
 r36 [(nx x34 0),t81_89] [((nxc k35 0)++[T.c (nx v80 0)]),(nxc k35 1),k88,(nxc k35 3),(nxc k35 4),(nxc k35 5)])) (
 BD (fun r92 x90 k91=>
 prP (bnI .lss (nx x90 1) (nx x90 0)) fun t86_94=>
 AU t86_94 (
 BW (fun x96 k97=>
 prP (bnI .add (nx x96 1) (.int .i64 1)) fun t115_110=>
 r92 [(nx x96 0),t115_110] [(nxc k97 0),(nxc k97 1),(nxc k97 2),(nxc k97 3),(nxc k97 4)]) fun j98=>
 ixW (cnt 8 (nxc k91 1)) (nx x90 1) fun t91_99=>
 stc (nxc k91 1) [] (((AA t91_99)*8)+7) (.bool false) fun k100=>
 ldc k100 [] ((AA t91_99)*8) fun t98_101=>
 AU t98_101 (
 ldc k100 [] (((AA t91_99)*8)+3) fun t103_102=>
 ldc k100 [] (((AA t91_99)*8)+4) fun t107_103=>
 prP (bnI .add t103_102 t107_103) fun t108_104=>
 cl2 C 223 FT.sg [(nx x90 1)] [k100,(nxc k91 2),(nxc k91 3),(nxc k91 4)] fun v105 d106=>
 prP (bnI .add t108_104 (nx v105 0)) fun t112_108=>
 stc k100 [] (((AA t91_99)*8)+5) t112_108 fun k109=>
 j98 [(nx x90 0),(nx x90 1)] [(nxc k91 0),k109,(nxc k91 2),(nxc k91 3),(nxc k91 4)]) (
 j98 [(nx x90 0),(nx x90 1)] [(nxc k91 0),k100,(nxc k91 2),(nxc k91 3),(nxc k91 4)])) (
 K [] [(nxc k91 1),(nxc k91 2),[],(nxc k91 4),(nxc k91 0)])) [(iv (cnt 8 (nxc k35 2))),(.int .i64 0)] [(nxc k35 0),(nxc k35 2),(nxc k35 3),(nxc k35 4),(nxc k35 5)])) [(iv (cnt 1 (nxc d33 0))),(.int .i64 0)] [[],(nxc d33 0),(nxc k20 0),(nxc k20 1),(nxc k20 2),(nxc k20 3)])) [(iv (cnt 1 c2)),(.int .i64 0)] [(nxc k7 0),(nxc k7 1),(nxc k7 2),(nxc k7 3),(nxc k7 4),(nxc k7 5)])) [(iv (cnt 1 c2)),(.int .i64 0)] [(nxc d2 0),(nxc d2 1),(nxc d2 2),(nxc d2 3),(nxc d5 0),(nxc d5 1)])
theorem FU.cl2 {w0:World} {c0 c1 c2 c3:List T} {K:J2} (h:FU.txt ⟨Try.prog,w0⟩ c0 c1 c2 c3 K):Eng.cl2 ⟨Try.prog,w0⟩ 188 FU.sg [] [c0,c1,c2,c3] K:=
 AE (C:=⟨Try.prog,w0⟩) (f:=188) (fn:=Try.f188) [(141,FD.sg),(219,EP.sg),(92,BV.sg),(220,FC.sg),(221,EM.sg),(222,GP.sg),(84,GD.sg),(182,GM.sg),(223,FT.sg)] [(8,[0,0,0,0,12,31,63]),(13,[0,0,0,0,12,31,63]),(20,[0,1,0,0,8,0,56,120,248,504,1023,2047]),(28,[0,0,2,6,14,0,32,96,224,510,0,0,3072,8190,16383,32767,65535])] [(32723,⟨[.p (.j 0) 0, .p (.j 1) 0, .t (.j 2) 1, .v, .v],[],[.bx [.z, .z, .z, .z], .bx [.t (.j 3) 8, .t (.j 4) 2, .t (.j 5) 1, .t (.j 6) 1], .ls, .ls, .ls, .ls, .ls]⟩),(4090,⟨[.p (.j 0) 0, .p (.j 1) 0, .t (.j 2) 1, .v, .v],[],[.bx [.z, .z, .z, .z], .bx [.t (.j 3) 8, .t (.j 4) 2, .t (.j 5) 1, .t (.j 6) 1], .ls, .ls, .ls, .ls, .ls]⟩),(2042,⟨[.p (.j 0) 0, .p (.j 1) 0, .p (.j 2) 0, .t (.j 3) 1, .t (.j 4) 1, .v, .v],[],[.bx [.t (.f 0) 8, .t (.f 1) 2, .t (.f 2) 1, .t (.f 3) 1], .bx [.z, .z, .z, .z], .bx [.t (.j 5) 8, .t (.j 6) 2, .t (.j 7) 1, .t (.j 8) 1], .ls, .ls, .ls, .ls, .ls, .ls]⟩),(506,⟨[.p (.j 0) 0, .p (.j 1) 0, .p (.j 2) 0, .p (.j 3) 0, .t (.f 2) 1, .v, .v],[],[.bx [.t (.f 0) 8, .t (.f 1) 2, .t (.f 2) 1, .t (.f 3) 1], .bx [.z, .z, .z, .z], .bx [.t (.j 4) 8, .t (.j 5) 2, .t (.j 6) 1, .t (.j 7) 1], .bx [.t (.j 8) 1, .t (.j 9) 1], .ls, .ls, .ls, .ls, .ls, .ls]⟩),(250,⟨[.p (.j 0) 0, .p (.j 1) 0, .p (.j 2) 0, .p (.j 3) 0, .t (.f 2) 1, .v, .v],[],[.bx [.t (.f 0) 8, .t (.f 1) 2, .t (.f 2) 1, .t (.f 3) 1], .bx [.z, .z, .z, .z], .bx [.t (.j 4) 8, .t (.j 5) 2, .t (.j 6) 1, .t (.j 7) 1], .bx [.t (.j 8) 1, .t (.j 9) 1], .ls, .ls, .ls, .ls, .ls, .ls]⟩)] Try.func188 (by kernel_rfl) (by kernel_rfl) (by kernel_rfl) h
def DS.sg:Sg:=⟨[(2,[.t 8 2, .t 2 2, .t 1 2, .t 1 2]),(1,[.v, .v, .v, .v, .v])],[(1,[.v, .v, .t 1])],[[.t 8, .t 2, .t 1, .t 1]]⟩
def DS.txt (C:Ctx) (a0 a1 a2 a3 a4:Value) (c0 c1 c2 c3:List T) (K:J2):Prop:=
 prP (bnI .eql a0 (.int .i64 1)) fun t10_1=>
 AU t10_1 (
 cl2 C 183 DR.sg [a4] [c0,c1,c2,c3] fun v2 d3=>
 K [(nx v2 0),(nx v2 1)] [(nxc d3 0),(nxc d3 1),c1,c2,(nxc d3 2)]) (
 BW (fun x5 k6=>
 AU (nx x5 1) (
 cl2 C 184 C0.sg [(nx x5 2),(nx x5 3)] [(nxc k6 0),(nxc k6 1),(nxc k6 2),(nxc k6 3)] fun v12 d13=>
 K [(nx v12 0),(nx v12 1)] [(nxc d13 0),(nxc d13 1),(nxc k6 1),(nxc d13 2),(nxc k6 3)]) (
 prP (bnI .eql (nx x5 0) (.int .i64 4)) fun t27_14=>
 AU t27_14 (
 cl2 C 185 DQ.sg [(nx x5 2),(nx x5 3),(nx x5 4),(nx x5 5),(nx x5 6)] [(nxc k6 0),(nxc k6 1),(nxc k6 2),(nxc k6 3)] fun v15 d16=>
 K [(nx v15 0),(nx v15 1)] [(nxc d16 0),(nxc d16 1),(nxc k6 1),(nxc d16 2),(nxc k6 3)]) (
 prP (bnI .eql (nx x5 0) (.int .i64 7)) fun t32_17=>
 AU t32_17 (
 cl2 C 186 EA.sg [(nx x5 3)] [(nxc k6 0),(nxc k6 1),(nxc k6 2),(nxc k6 3)] fun v18 d19=>
 K [(nx v18 0),(nx v18 1)] [(nxc d19 0),(nxc k6 0),(nxc d19 1),(nxc k6 2),(nxc k6 3)]) (
 BW (fun x21 k22=>
 AU (nx x21 1) (
 cl2 C 187 DD.sg [(nx x21 2),(nx x21 3)] [(nxc k22 0),(nxc k22 1),(nxc k22 2),(nxc k22 3)] fun v26 d27=>
 K [(nx v26 0),(nx v26 1)] [(nxc d27 0),(nxc k22 0),(nxc d27 1),(nxc k22 2),(nxc k22 3)]) (
 prP (bnI .eql (nx x21 0) (.int .i64 10)) fun t47_28=>
 AU t47_28 (
 cl2 C 188 FU.sg [] [(nxc k22 0),(nxc k22 1),(nxc k22 2),(nxc k22 3)] fun v29 d30=>
 K [(.int .i64 0),(.int .i64 0)] [(nxc d30 4),(nxc d30 0),(nxc d30 1),(nxc d30 2),(nxc d30 3)]) (
 cl2 C 143 BS.sg [(.int .i64 2)] [] fun v31 d32=>
 K [(nx v31 0),(nx v31 1)] [(nxc d32 0),(nxc k22 0),(nxc k22 1),(nxc k22 2),(nxc k22 3)]))) fun j23=>
 prP (bnI .eql (nx x5 0) (.int .i64 8)) fun t38_24=>
 AU t38_24 (
 j23 [(nx x5 0),t38_24,(nx x5 2),(nx x5 3),(nx x5 4),(nx x5 5),(nx x5 6),(nx x5 7),(nx x5 8)] [(nxc k6 0),(nxc k6 1),(nxc k6 2),(nxc k6 3)]) (
 prP (bnI .eql (nx x5 0) (.int .i64 9)) fun t39_25=>
 j23 [(nx x5 0),t39_25,(nx x5 2),(nx x5 3),(nx x5 4),(nx x5 5),(nx x5 6),(nx x5 7),(nx x5 8)] [(nxc k6 0),(nxc k6 1),(nxc k6 2),(nxc k6 3)]))))) fun j7=>
 prP (bnI .eql a0 (.int .i64 2)) fun t16_8=>
 AU t16_8 (
 j7 [a0,t16_8,a0,a1,a2,a3,a4,(.int .i64 0),(.int .i64 0)] [c0,c1,c2,c3]) (
 prP (bnI .eql a0 (.int .i64 3)) fun t17_9=>
 AU t17_9 (
 j7 [a0,t17_9,a0,a1,a2,a3,a4,(.int .i64 0),(.int .i64 0)] [c0,c1,c2,c3]) (
 prP (bnI .eql a0 (.int .i64 5)) fun t18_10=>
 AU t18_10 (
 j7 [a0,t18_10,a0,a1,a2,a3,a4,(.int .i64 0),(.int .i64 0)] [c0,c1,c2,c3]) (
 prP (bnI .eql a0 (.int .i64 6)) fun t19_11=>
 j7 [a0,t19_11,a0,a1,a2,a3,a4,(.int .i64 0),(.int .i64 0)] [c0,c1,c2,c3]))))
theorem DS.cl2 {w0:World} {a0 a1 a2 a3 a4:Value} {c0 c1 c2 c3:List T} {K:J2} (h:DS.txt ⟨Try.prog,w0⟩ a0 a1 a2 a3 a4 c0 c1 c2 c3 K):Eng.cl2 ⟨Try.prog,w0⟩ 131 DS.sg [a0,a1,a2,a3,a4] [c0,c1,c2,c3] K:=
 AE (C:=⟨Try.prog,w0⟩) (f:=131) (fn:=Try.f131) [(183,DR.sg),(184,C0.sg),(185,DQ.sg),(186,EA.sg),(187,DD.sg),(188,FU.sg),(143,BS.sg)] [] [(107,⟨[.p (.j 0) 0, .p (.j 1) 0, .p (.j 2) 0, .v, .v],[.p (.j 0) 0],[.bx [.t (.j 3) 8, .t (.j 4) 2, .t (.j 5) 1, .t (.j 6) 1], .bx [.v, .v, .v, .v, .v], .bx [.v, .v, .z], .ls, .ls, .ls, .ls]⟩),(6911,⟨[.p (.j 0) 0, .p (.j 1) 0, .p (.j 2) 0, .v, .v],[.p (.j 0) 0],[.bx [.t (.j 3) 8, .t (.j 4) 2, .t (.j 5) 1, .t (.j 6) 1], .bx [.v, .v, .v, .v, .v], .bx [.v, .v, .z], .ls, .ls, .ls, .ls]⟩)] Try.func131 (by kernel_rfl) (by kernel_rfl) (by kernel_rfl) h
def FB.sg:Sg:=⟨[(0,[.t 8 0]),(0,[.v])],[(0,[.v])],[]⟩
def FB.txt (C:Ctx) (a0:Value) (c0:List T) (K:J2):Prop:=
 BD (fun r3 x1 k2=>
 prP (bnI .lss (nx x1 1) (iv (cnt 8 c0))) fun t9_5=>
 AU t9_5 (
 ixW (cnt 8 c0) (nx x1 1) fun t14_6=>
 ldc c0 [] ((AA t14_6)*8) fun t16_7=>
 prP (bnI .rem (nx x1 0) (.int .i64 3)) fun t18_8=>
 prP (bnI .eql t18_8 (.int .i64 0)) fun t19_9=>
 prP (bnB .neq t16_7 t19_9) fun t20_10=>
 AU t20_10 (
 K [(.int .i64 (-1))] []) (
 prP (bnI .add (nx x1 0) (.int .i64 1)) fun t22_11=>
 ixW (cnt 8 c0) (nx x1 1) fun t25_12=>
 ldc c0 [] (((AA t25_12)*8)+1) fun t27_13=>
 prP (bnI .neq t27_13 t22_11) fun t29_14=>
 AU t29_14 (
 K [(.int .i64 (-1))] []) (
 prP (bnI .add t22_11 (.int .i64 1)) fun t31_15=>
 ixW (cnt 8 c0) (nx x1 1) fun t34_16=>
 ldc c0 [] (((AA t34_16)*8)+2) fun t36_17=>
 prP (bnI .neq t36_17 t31_15) fun t38_18=>
 AU t38_18 (
 K [(.int .i64 (-1))] []) (
 prP (bnI .add t31_15 (.int .i64 1)) fun t40_19=>
 ixW (cnt 8 c0) (nx x1 1) fun t43_20=>
 ldc c0 [] (((AA t43_20)*8)+3) fun t45_21=>
 prP (bnI .neq t45_21 t40_19) fun t47_22=>
 AU t47_22 (
 K [(.int .i64 (-1))] []) (
 prP (bnI .add t40_19 (.int .i64 1)) fun t49_23=>
 ixW (cnt 8 c0) (nx x1 1) fun t52_24=>
 ldc c0 [] (((AA t52_24)*8)+4) fun t54_25=>
 prP (bnI .neq t54_25 t49_23) fun t56_26=>
 AU t56_26 (
 K [(.int .i64 (-1))] []) (
 prP (bnI .add t49_23 (.int .i64 1)) fun t58_27=>
 ixW (cnt 8 c0) (nx x1 1) fun t61_28=>
 ldc c0 [] (((AA t61_28)*8)+5) fun t63_29=>
 prP (bnI .neq t63_29 t58_27) fun t65_30=>
 AU t65_30 (
 K [(.int .i64 (-1))] []) (
 prP (bnI .add t58_27 (.int .i64 1)) fun t67_31=>
 ixW (cnt 8 c0) (nx x1 1) fun t70_32=>
 ldl c0 [] (((AA t70_32)*8)+6) 1 fun t72_33=>
 cl2 C 21 CY.sg [t67_31] [(FI c0 [(((AA t70_32)*8)+6)])] fun v34 d35=>
 prP (bnI .lss (nx v34 0) (.int .i64 0)) fun t76_37=>
 AU t76_37 (
 K [(.int .i64 (-1))] []) (
 ixW (cnt 8 c0) (nx x1 1) fun t79_38=>
 ldc c0 [] (((AA t79_38)*8)+7) fun t81_39=>
 prP (bnI .rem (nx v34 0) (.int .i64 3)) fun t83_40=>
 prP (bnI .eql t83_40 (.int .i64 0)) fun t84_41=>
 prP (bnB .neq t81_39 t84_41) fun t85_42=>
 AU t85_42 (
 K [(.int .i64 (-1))] []) (
 prP (bnI .add (nx v34 0) (.int .i64 1)) fun t87_43=>
 prP (bnI .add (nx x1 1) (.int .i64 1)) fun t11_44=>
 r3 [t87_43,t11_44] []))))))))) (
 K [(nx x1 0)] [])) [a0,(.int .i64 0)] []
theorem FB.cl2 {w0:World} {a0:Value} {c0:List T} {K:J2} (h:FB.txt ⟨Try.prog,w0⟩ a0 c0 K):Eng.cl2 ⟨Try.prog,w0⟩ 132 FB.sg [a0] [c0] K:=
 AE (C:=⟨Try.prog,w0⟩) (f:=132) (fn:=Try.f132) [(21,CY.sg)] [] [(26,⟨[.t (.f 0) 8, .v, .v],[],[]⟩)] Try.func132 (by kernel_rfl) (by kernel_rfl) (by kernel_rfl) h
def D8.sg:Sg:=⟨[(0,[.t 2 0]),(0,[.v])],[(0,[.v])],[]⟩
def D8.txt (C:Ctx) (a0:Value) (c0:List T) (K:J2):Prop:=
 BD (fun r3 x1 k2=>
 prP (bnI .lss (nx x1 1) (iv (cnt 2 c0))) fun t9_5=>
 AU t9_5 (
 ixW (cnt 2 c0) (nx x1 1) fun t14_6=>
 ldc c0 [] ((AA t14_6)*2) fun t16_7=>
 prP (bnI .rem (nx x1 0) (.int .i64 3)) fun t18_8=>
 prP (bnI .eql t18_8 (.int .i64 0)) fun t19_9=>
 prP (bnB .neq t16_7 t19_9) fun t20_10=>
 AU t20_10 (
 K [(.int .i64 (-1))] []) (
 prP (bnI .add (nx x1 0) (.int .i64 1)) fun t22_11=>
 ixW (cnt 2 c0) (nx x1 1) fun t25_12=>
 ldc c0 [] (((AA t25_12)*2)+1) fun t27_13=>
 prP (bnI .neq t27_13 t22_11) fun t29_14=>
 AU t29_14 (
 K [(.int .i64 (-1))] []) (
 prP (bnI .add t22_11 (.int .i64 1)) fun t31_15=>
 prP (bnI .add (nx x1 1) (.int .i64 1)) fun t11_16=>
 r3 [t31_15,t11_16] []))) (
 K [(nx x1 0)] [])) [a0,(.int .i64 0)] []
theorem D8.cl2 {w0:World} {a0:Value} {c0:List T} {K:J2} (h:D8.txt ⟨Try.prog,w0⟩ a0 c0 K):Eng.cl2 ⟨Try.prog,w0⟩ 133 D8.sg [a0] [c0] K:=
 AE (C:=⟨Try.prog,w0⟩) (f:=133) (fn:=Try.f133) [] [] [(26,⟨[.t (.f 0) 2, .v, .v],[],[]⟩)] Try.func133 (by kernel_rfl) (by kernel_rfl) (by kernel_rfl) h
def D5.sg:Sg:=⟨[(1,[.t 8 0, .t 2 0, .t 1 0, .t 1 0]),(0,[.v])],[(0,[.v])],[]⟩
def D5.txt (C:Ctx) (a0:Value) (c0 c1 c2 c3:List T) (K:J2):Prop:=
 cl2 C 132 FB.sg [a0] [c0] fun v1 d2=>
 prP (bnI .lss (nx v1 0) (.int .i64 0)) fun t10_4=>
 AU t10_4 (
 K [(.int .i64 (-1))] []) (
 cl2 C 133 D8.sg [(nx v1 0)] [c1] fun v5 d6=>
 prP (bnI .lss (nx v5 0) (.int .i64 0)) fun t16_8=>
 AU t16_8 (
 K [(.int .i64 (-1))] []) (
 cl2 C 21 CY.sg [(nx v5 0)] [c2] fun v9 d10=>
 prP (bnI .lss (nx v9 0) (.int .i64 0)) fun t22_12=>
 AU t22_12 (
 K [(.int .i64 (-1))] []) (
 cl2 C 104 CW.sg [(nx v9 0)] [c3] fun v13 d14=>
 prP (bnI .lss (nx v13 0) (.int .i64 0)) fun t28_16=>
 AU t28_16 (
 K [(.int .i64 (-1))] []) (
 K [(nx v13 0)] []))))
theorem D5.cl2 {w0:World} {a0:Value} {c0 c1 c2 c3:List T} {K:J2} (h:D5.txt ⟨Try.prog,w0⟩ a0 c0 c1 c2 c3 K):Eng.cl2 ⟨Try.prog,w0⟩ 60 D5.sg [a0] [c0,c1,c2,c3] K:=
 AE (C:=⟨Try.prog,w0⟩) (f:=60) (fn:=Try.f60) [(132,FB.sg),(133,D8.sg),(21,CY.sg),(104,CW.sg)] [] [] Try.func60 (by kernel_rfl) (by kernel_rfl) (by kernel_rfl) h
def FY.sg:Sg:=⟨[],[(1,[.t 8, .t 2, .t 1, .t 1])],[]⟩
def FY.txt (C:Ctx) (K:J2):Prop:=
 mkW 80 (.int .i64 8) (.int .i64 8) fun n1=>
 mkW 16 (.int .i64 8) (.int .i64 8) fun n2=>
 BD (fun r5 x3 k4=>
 prP (bnI .lss (nx x3 0) (iv (cnt 8 (nxc k4 0)))) fun t10_7=>
 AU t10_7 (
 cl2 C 181 C5.sg [] [] fun v8 d9=>
 ixW (cnt 8 (nxc k4 0)) (nx x3 0) fun t17_10=>
 stg (nxc k4 0) [] (((AA t17_10)*8)+6) [T.l 1 (nxc d9 0)] fun k11=>
 prP (bnI .add (nx x3 0) (.int .i64 1)) fun t12_12=>
 r5 [t12_12] [k11,(nxc k4 1)]) (
 K [] [(nxc k4 0),(nxc k4 1),[],[]])) [(.int .i64 0)] [(QM (AA n1) [T.c (.bool false),T.c (.int .i64 0),T.c (.int .i64 0),T.c (.int .i64 0),T.c (.int .i64 0),T.c (.int .i64 0),T.l 1 [],T.c (.bool false)]),(QM (AA n2) [T.c (.bool false),T.c (.int .i64 0)])]
theorem FY.cl2 {w0:World} {K:J2} (h:FY.txt ⟨Try.prog,w0⟩ K):Eng.cl2 ⟨Try.prog,w0⟩ 128 FY.sg [] [] K:=
 AE (C:=⟨Try.prog,w0⟩) (f:=128) (fn:=Try.f128) [(181,C5.sg)] [(1,[0,0,3,0,15]),(5,[0,1,0,0,15,31,63])] [(58,⟨[.p (.j 0) 0, .p (.j 1) 0, .v],[],[.bx [.z, .z, .z, .z], .bx [.t (.j 2) 8, .t (.j 3) 2, .z, .z], .ls, .ls]⟩)] Try.func128 (by kernel_rfl) (by kernel_rfl) (by kernel_rfl) h
def IC.sg:Sg:=⟨[(0,[.t 5 0])],[(1,[.t 8, .t 2, .t 1, .t 1]),(0,[.t 3])],[]⟩
def IC.txt (C:Ctx) (c0:List T) (K:J2):Prop:=
 cl2 C 128 FY.sg [] [] fun v1 d2=>
 BD (fun r5 x3 k4=>
 prP (bnI .lss (nx x3 0) (iv (cnt 5 c0))) fun t14_7=>
 gE t14_7 (
 gP t14_7 true (prP (bnI .lss (nx x3 0) (.int .i64 400))) fun t17_8=>
 prP (pk t14_7 t17_8 (.bool false)) fun t18_9=>
 AU t18_9 (
 ixW (cnt 5 c0) (nx x3 0) fun t25_10=>
 ldg c0 [] ((AA t25_10)*5) [.c, .c, .c, .c, .c] fun ts11=>
 cl2 C 62 HI.sg [(tv (nxT ts11 0)),(tv (nxT ts11 1)),(tv (nxT ts11 2)),(tv (nxT ts11 3)),(tv (nxT ts11 4))] [(nxc k4 1),(nxc k4 2),(nxc k4 3),(nxc k4 4)] fun v12 d13=>
 apW [T.c (nx v12 0),T.c (nx v12 1),T.l 1 (nxc d13 4)] false (cnt 3 (nxc k4 0)) (cnt 3 [T.c (nx v12 0),T.c (nx v12 1),T.l 1 (nxc d13 4)]) 40 (
 prP (bnI .add (nx x3 0) (.int .i64 1)) fun t20_14=>
 r5 [t20_14] [((nxc k4 0)++[T.c (nx v12 0),T.c (nx v12 1),T.l 1 (nxc d13 4)]),(nxc d13 0),(nxc d13 1),(nxc d13 2),(nxc d13 3)])) (
 K [] [(nxc k4 1),(nxc k4 2),(nxc k4 3),(nxc k4 4),(nxc k4 0)]))) [(.int .i64 0)] [[],(nxc d2 0),(nxc d2 1),(nxc d2 2),(nxc d2 3)]
theorem IC.cl2 {w0:World} {c0:List T} {K:J2} (h:IC.txt ⟨Try.prog,w0⟩ c0 K):Eng.cl2 ⟨Try.prog,w0⟩ 58 IC.sg [] [c0] K:=
 AE (C:=⟨Try.prog,w0⟩) (f:=58) (fn:=Try.f58) [(128,FY.sg),(62,HI.sg)] [(6,[0,0,0,6,14,31,63,127,127,0,0,1791,4095])] [(122,⟨[.t (.f 0) 5, .p (.j 0) 0, .p (.j 1) 0, .t (.j 2) 3, .v],[],[.bx [.z, .z, .z, .z], .bx [.t (.j 3) 8, .t (.j 4) 2, .t (.j 5) 1, .t (.j 6) 1], .ls, .ls, .ls, .ls, .ls]⟩)] Try.func58 (by kernel_rfl) (by kernel_rfl) (by kernel_rfl) h
def FW.sg:Sg:=⟨[],[(1,[.t 8, .t 2, .t 1, .t 1])],[]⟩
def FW.txt (C:Ctx) (K:J2):Prop:=
 mkW 16 (.int .i64 8) (.int .i64 8) fun n1=>
 BD (fun r4 x2 k3=>
 prP (bnI .lss (nx x2 0) (.int .i64 8)) fun t5_11=>
 AU t5_11 (
 cl2 C 182 GM.sg [(.int .i64 0)] [] fun v12 d13=>
 apW [T.c (nx v12 0),T.c (nx v12 1),T.c (nx v12 2),T.c (nx v12 3),T.c (nx v12 4),T.c (nx v12 5),T.l 1 (nxc d13 0),T.c (nx v12 6)] false (cnt 8 (nxc k3 0)) (cnt 8 [T.c (nx v12 0),T.c (nx v12 1),T.c (nx v12 2),T.c (nx v12 3),T.c (nx v12 4),T.c (nx v12 5),T.l 1 (nxc d13 0),T.c (nx v12 6)]) 80 (
 prP (bnI .add (nx x2 0) (.int .i64 1)) fun t12_14=>
 r4 [t12_14] [((nxc k3 0)++[T.c (nx v12 0),T.c (nx v12 1),T.c (nx v12 2),T.c (nx v12 3),T.c (nx v12 4),T.c (nx v12 5),T.l 1 (nxc d13 0),T.c (nx v12 6)]),(nxc k3 1)])) (
 K [] [(nxc k3 0),(nxc k3 1),[],[]])) [(.int .i64 0)] [[],(QM (AA n1) [T.c (.bool false),T.c (.int .i64 0)])]
theorem FW.cl2 {w0:World} {K:J2} (h:FW.txt ⟨Try.prog,w0⟩ K):Eng.cl2 ⟨Try.prog,w0⟩ 129 FW.sg [] [] K:=
 AE (C:=⟨Try.prog,w0⟩) (f:=129) (fn:=Try.f129) [(182,GM.sg)] [(4,[0,1,0,4,15,31,63])] [(58,⟨[.p (.j 0) 0, .p (.j 1) 0, .v],[],[.bx [.z, .z, .z, .z], .bx [.t (.j 2) 8, .t (.j 3) 2, .z, .z], .ls, .ls]⟩)] Try.func129 (by kernel_rfl) (by kernel_rfl) (by kernel_rfl) h
def bL.sg:Sg:=⟨[(0,[.t 5 0])],[(9,[])],[]⟩
def HT.sg:Sg:=⟨[(0,[.t 5 0])],[(1,[.t 8, .t 2, .t 1, .t 1]),(0,[.t 3])],[]⟩
def HT.txt (C:Ctx) (c0:List T) (K:J2):Prop:=
 cl2 C 129 FW.sg [] [] fun v1 d2=>
 FR C 130 5 (cnt 5 c0) fun t11_3=>
 BD (fun r6 x4 k5=>
 prP (bnI .lss (nx x4 3) (nx x4 2)) fun t14_15=>
 AU t14_15 (
 ixW (AA (nx x4 0)) (nx x4 3) fun t15_16=>
 ldg c0 [] ((AA (nx x4 1))+((AA t15_16)*5)) [.c, .c, .c, .c, .c] fun ts17=>
 cl2 C 131 DS.sg [(tv (nxT ts17 0)),(tv (nxT ts17 1)),(tv (nxT ts17 2)),(tv (nxT ts17 3)),(tv (nxT ts17 4))] [(nxc k5 1),(nxc k5 2),(nxc k5 3),(nxc k5 4)] fun v18 d19=>
 apW [T.c (nx v18 0),T.c (nx v18 1),T.l 1 (nxc d19 0)] false (cnt 3 (nxc k5 0)) (cnt 3 [T.c (nx v18 0),T.c (nx v18 1),T.l 1 (nxc d19 0)]) 40 (
 prP (bnI .add (nx x4 3) (.int .i64 1)) fun t23_20=>
 r6 [(iv (AA (nx x4 0))),(iv (AA (nx x4 1))),(nx x4 2),t23_20] [((nxc k5 0)++[T.c (nx v18 0),T.c (nx v18 1),T.l 1 (nxc d19 0)]),(nxc d19 1),(nxc d19 2),(nxc d19 3),(nxc d19 4)])) (
 K [] [(nxc k5 1),(nxc k5 2),(nxc k5 3),(nxc k5 4),(nxc k5 0)])) [(iv (AA t11_3)),(iv 0),(iv (AA t11_3)),(.int .i64 0)] [[],(nxc d2 0),(nxc d2 1),(nxc d2 2),(nxc d2 3)]
theorem HT.cl2 {w0:World} {c0:List T} {K:J2} (h:HT.txt ⟨Try.prog,w0⟩ c0 K):Eng.cl2 ⟨Try.prog,w0⟩ 59 HT.sg [] [c0] K:=
 AE (C:=⟨Try.prog,w0⟩) (f:=59) (fn:=Try.f59) [(129,FW.sg),(130,bL.sg),(131,DS.sg)] [] [(122,⟨[.p (.j 0) 0, .p (.j 1) 0, .t (.j 2) 3, .s (.f 0) 0 5, .v, .v],[],[.bx [.z, .z, .z, .z], .bx [.t (.j 3) 8, .t (.j 4) 2, .t (.j 5) 1, .t (.j 6) 1], .ls, .ls, .ls, .ls, .ls]⟩)] Try.func59 (by kernel_rfl) (by kernel_rfl) (by kernel_rfl) h
def DZ.sg:Sg:=⟨[(0,[.t 5 0])],[(0,[.v])],[]⟩
def DZ.txt (C:Ctx) (c0:List T) (K:J2):Prop:=
 cl2 C 24 HM.sg [(.int .i64 1048576)] [c0] fun v1 d2=>
 prP (bnI .lss (nx v1 0) (.int .i64 0)) fun t18_4=>
 AU t18_4 (
 K [(.bool true)] []) (
 cl2 C 27 FO.sg [] [c0] fun v5 d6=>
 cl2 C 58 IC.sg [] [(nxc d6 0)] fun v7 d8=>
 cl2 C 27 FO.sg [] [c0] fun v9 d10=>
 cl2 C 59 HT.sg [] [(nxc d10 0)] fun v11 d12=>
 cl2 C 18 FE.sg [] [(nxc d12 0),(nxc d12 1),(nxc d12 2),(nxc d12 3),(nxc d8 0),(nxc d8 1),(nxc d8 2),(nxc d8 3)] fun v13 d14=>
 prP (un .not (nx v13 0)) fun t35_16=>
 gE t35_16 (
 gE t35_16 (
 gP t35_16 false ((fun K=>cl2 C 31 C9.sg [] [(nxc d12 4),(nxc d8 4)] fun v17 d18=>K (nx v17 0))) fun t39_19=>
 gP t35_16 false (prP (un .not t39_19)) fun t40_20=>
 prP (pk t35_16 (.bool true) t40_20) fun t41_21=>
 AU t41_21 (
 K [(.bool false)] []) (
 cl2 C 27 FO.sg [] [c0] fun v22 d23=>
 cl2 C 30 HN.sg [] [(nxc d10 0),(nxc d23 0)] fun v24 d25=>
 prP (un .not (nx v24 0)) fun t46_27=>
 AU t46_27 (
 K [(.bool false)] []) (
 cl2 C 45 F6.sg [(.int .i64 1)] [(nxc d10 0)] fun v28 d29=>
 prP (bnI .lss (nx v28 0) (.int .i64 0)) fun t51_30=>
 gE t51_30 (
 gE t51_30 (
 gP t51_30 false ((fun K=>cl2 C 18 FE.sg [] [(nxc d12 0),(nxc d12 1),(nxc d12 2),(nxc d12 3),(nxc d8 0),(nxc d8 1),(nxc d8 2),(nxc d8 3)] fun v31 d32=>K (nx v31 0))) fun t55_33=>
 gP t51_30 false (prP (un .not t55_33)) fun t56_34=>
 prP (pk t51_30 (.bool true) t56_34) fun t57_35=>
 gE t57_35 (
 gE t57_35 (
 gP t57_35 false ((fun K=>cl2 C 31 C9.sg [] [(nxc d12 4),(nxc d8 4)] fun v36 d37=>K (nx v36 0))) fun t61_38=>
 gP t57_35 false (prP (un .not t61_38)) fun t62_39=>
 prP (pk t57_35 (.bool true) t62_39) fun t63_40=>
 AU t63_40 (
 K [(.bool false)] []) (
 cl2 C 19 ET.sg [(.int .i64 1)] [(nxc d12 0),(nxc d12 1),(nxc d12 2),(nxc d12 3)] fun v41 d42=>
 cl2 C 46 DC.sg [(nx v41 0)] [(nxc d12 4)] fun v43 d44=>
 cl2 C 60 D5.sg [(.int .i64 1)] [(nxc d42 0),(nxc d42 1),(nxc d42 2),(nxc d42 3)] fun v45 d46=>
 prP (bnI .lss (nx v45 0) (.int .i64 0)) fun t74_48=>
 AU t74_48 (
 K [(.bool false)] []) (
 cl2 C 48 CX.sg [(nx v45 0)] [(nxc d44 0)] fun v49 d50=>
 prP (bnI .lss (nx v49 0) (.int .i64 0)) fun t79_52=>
 AU t79_52 (
 K [(.bool false)] []) (
 prP (bnI .neq (nx v49 0) (nx v43 0)) fun t82_53=>
 AU t82_53 (
 K [(.bool false)] []) (
 cl2 C 27 FO.sg [] [c0] fun v54 d55=>
 cl2 C 59 HT.sg [] [(nxc d55 0)] fun v56 d57=>
 cl2 C 18 FE.sg [] [(nxc d57 0),(nxc d57 1),(nxc d57 2),(nxc d57 3),(nxc d8 0),(nxc d8 1),(nxc d8 2),(nxc d8 3)] fun v58 d59=>
 prP (un .not (nx v58 0)) fun t92_61=>
 gE t92_61 (
 gE t92_61 (
 gP t92_61 false ((fun K=>cl2 C 31 C9.sg [] [(nxc d57 4),(nxc d8 4)] fun v62 d63=>K (nx v62 0))) fun t96_64=>
 gP t92_61 false (prP (un .not t96_64)) fun t97_65=>
 prP (pk t92_61 (.bool true) t97_65) fun t98_66=>
 AU t98_66 (
 K [(.bool false)] []) (
 cl2 C 60 D5.sg [(.int .i64 1)] [(nxc d42 0),(nxc d42 1),(nxc d42 2),(nxc d42 3)] fun v67 d68=>
 prP (bnI .lss (nx v67 0) (.int .i64 0)) fun t103_70=>
 AU t103_70 (
 K [(.bool false)] []) (
 cl2 C 48 CX.sg [(nx v67 0)] [(nxc d44 0)] fun v71 d72=>
 prP (bnI .lss (nx v71 0) (.int .i64 0)) fun t108_74=>
 AU t108_74 (
 K [(.bool false)] []) (
 prP (bnI .neq (nx v71 0) (nx v43 0)) fun t111_75=>
 AU t111_75 (
 K [(.bool false)] []) (
 K [(.bool true)] [])))))))))))))))))))
theorem DZ.cl2 {w0:World} {c0:List T} {K:J2} (h:DZ.txt ⟨Try.prog,w0⟩ c0 K):Eng.cl2 ⟨Try.prog,w0⟩ 9 DZ.sg [] [c0] K:=
 AE (C:=⟨Try.prog,w0⟩) (f:=9) (fn:=Try.f9) [(24,HM.sg),(27,FO.sg),(58,IC.sg),(59,HT.sg),(18,FE.sg),(31,C9.sg),(30,HN.sg),(45,F6.sg),(19,ET.sg),(46,DC.sg),(60,D5.sg),(48,CX.sg)] [] [] Try.func9 (by kernel_rfl) (by kernel_rfl) (by kernel_rfl) h
end Go.Proofs.Ytnhicpkhkaihoaa.P
