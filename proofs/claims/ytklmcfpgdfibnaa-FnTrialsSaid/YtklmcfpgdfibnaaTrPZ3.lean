/- A part of the proof. -/
import Derived.Test.YtklmcfpgdfibnaaChecked
import Derived.Test.YtklmcfpgdfibnaaTrPZ2
import Derived.KernelRfl
namespace Go.Proofs.Ytklmcfpgdfibnaa.P
open Go Go.Proofs.Ytklmcfpgdfibnaa Go.Proofs.Ytklmcfpgdfibnaa.Eng
set_option linter.unusedVariables false
set_option maxRecDepth 100000
def HG.sg:Sg:=⟨[(0,[.t 5 0])],[(1,[.t 8, .t 2, .t 1, .t 1]),(0,[.t 3])],[]⟩
def HG.txt (C:Ctx) (c0:List T) (K:J2):Prop:=
 cl2 C 74 DQ.sg [] [] fun v1 d2=>
 BF (fun r5 x3 k4=>
 prP (bnI .lss (nx x3 0) (iv (cnt 5 c0))) fun t14_7=>
 gE t14_7 (
 gP t14_7 true (prP (bnI .lss (nx x3 0) (.int .i64 400))) fun t17_8=>
 prP (pk t14_7 t17_8 (.bool false)) fun t18_9=>
 AX t18_9 (
 ixW (cnt 5 c0) (nx x3 0) fun t25_10=>
 ldg c0 [] ((AB t25_10)*5) [.c, .c, .c, .c, .c] fun ts11=>
 cl2 C 76 FK.sg [(tv (nxT ts11 0)),(tv (nxT ts11 1)),(tv (nxT ts11 2)),(tv (nxT ts11 3)),(tv (nxT ts11 4))] [(nxc k4 1),(nxc k4 2),(nxc k4 3),(nxc k4 4)] fun v12 d13=>
 apW [T.c (nx v12 0),T.c (nx v12 1),T.l 1 (nxc d13 4)] false (cnt 3 (nxc k4 0)) (cnt 3 [T.c (nx v12 0),T.c (nx v12 1),T.l 1 (nxc d13 4)]) 40 (
 prP (bnI .add (nx x3 0) (.int .i64 1)) fun t20_14=>
 r5 [t20_14] [((nxc k4 0)++[T.c (nx v12 0),T.c (nx v12 1),T.l 1 (nxc d13 4)]),(nxc d13 0),(nxc d13 1),(nxc d13 2),(nxc d13 3)])) (
 K [] [(nxc k4 1),(nxc k4 2),(nxc k4 3),(nxc k4 4),(nxc k4 0)]))) [(.int .i64 0)] [[],(nxc d2 0),(nxc d2 1),(nxc d2 2),(nxc d2 3)]
theorem HG.cl2 {w0:World} {c0:List T} {K:J2} (h:HG.txt ⟨Try.prog,w0⟩ c0 K):Eng.cl2 ⟨Try.prog,w0⟩ 44 HG.sg [] [c0] K:=
 AV (C:=⟨Try.prog,w0⟩) (f:=44) (fn:=Try.f44) [(74,DQ.sg),(76,FK.sg)] [(6,[0,0,0,6,14,31,63,127,127,0,0,1791,4095])] [(122,⟨[.t (.f 0) 5, .p (.j 0) 0, .p (.j 1) 0, .t (.j 2) 3, .v],[],[.bx [.z, .z, .z, .z], .bx [.t (.j 3) 8, .t (.j 4) 2, .t (.j 5) 1, .t (.j 6) 1], .ls, .ls, .ls, .ls, .ls]⟩)] Try.func44 (by kernel_rfl) (by kernel_rfl) (by kernel_rfl) h
def FC.sg:Sg:=⟨[(2,[.t 1 0, .v, .v])],[(1,[.t 8, .t 2, .t 1, .t 1])],[[.a 0, .v, .v]]⟩
def FC.txt (C:Ctx) (a0 a1:Value) (c0:List T) (K:J2):Prop:=
 cl2 C 108 GM.sg [a0,a1,(.int .i64 30)] [c0] fun v1 d2=>
 cl2 C 44 HG.sg [] [(nxc d2 0)] fun v3 d4=>
 K [(nx v1 0),(nx v1 1)] [(nxc d4 0),(nxc d4 1),(nxc d4 2),(nxc d4 3)]
theorem FC.cl2 {w0:World} {a0 a1:Value} {c0:List T} {K:J2} (h:FC.txt ⟨Try.prog,w0⟩ a0 a1 c0 K):Eng.cl2 ⟨Try.prog,w0⟩ 94 FC.sg [a0,a1] [c0] K:=
 AV (C:=⟨Try.prog,w0⟩) (f:=94) (fn:=Try.f94) [(108,GM.sg),(44,HG.sg)] [] [] Try.func94 (by kernel_rfl) (by kernel_rfl) (by kernel_rfl) h
def GH.sg:Sg:=⟨[(2,[.t 1 0, .v, .v])],[(1,[.t 8, .t 2, .t 1, .t 1])],[[.a 0, .v, .v]]⟩
def GH.txt (C:Ctx) (a0 a1:Value) (c0:List T) (K:J2):Prop:=
 cl2 C 94 FC.sg [a0,a1] [c0] fun v1 d2=>
 cl2 C 112 BQ.sg [(nx v1 0),(nx v1 1),(.int .i64 8)] [c0] fun v3 d4=>
 cl2 C 112 BQ.sg [(nx v3 1),(nx v3 2),(.int .i64 20)] [c0] fun v5 d6=>
 prP (bnI .eql (nx v5 0) (.int .i64 0)) fun t12_7=>
 AX t12_7 (
 ixW (cnt 8 (nxc d2 0)) (nx v3 0) fun t19_8=>
 ldc (nxc d2 0) [] (((AB t19_8)*8)+5) fun t21_9=>
 prP (bnI .add t21_9 (.int .i64 1)) fun t22_10=>
 ixW (cnt 8 (nxc d2 0)) (nx v3 0) fun t23_11=>
 stc (nxc d2 0) [] (((AB t23_11)*8)+5) t22_10 fun k12=>
 K [(nx v5 1),(nx v5 2)] [k12,(nxc d2 1),(nxc d2 2),(nxc d2 3)]) (
 prP (bnI .eql (nx v5 0) (.int .i64 1)) fun t26_13=>
 AX t26_13 (
 ixW (cnt 8 (nxc d2 0)) (nx v3 0) fun t30_14=>
 ldl (nxc d2 0) [] (((AB t30_14)*8)+6) 1 fun t32_15=>
 cl2 C 112 BQ.sg [(nx v5 1),(nx v5 2),(.int .i64 40)] [c0] fun v16 d17=>
 ixW (cnt 1 (F7 (nxc d2 0) [(((AB t30_14)*8)+6)])) (.int .i64 0) fun t35_18=>
 stc (nxc d2 0) [(((AB t30_14)*8)+6)] ((AB t35_18)*1) (nx v16 0) fun k19=>
 K [(nx v16 1),(nx v16 2)] [k19,(nxc d2 1),(nxc d2 2),(nxc d2 3)]) (
 prP (bnI .eql (nx v5 0) (.int .i64 2)) fun t37_20=>
 AX t37_20 (
 ixW (cnt 8 (nxc d2 0)) (nx v3 0) fun t44_21=>
 ldc (nxc d2 0) [] (((AB t44_21)*8)+1) fun t46_22=>
 cl2 C 61 B9.sg [(nx v3 0),t46_22] [] fun v23 d24=>
 apW [T.c (nx v23 0)] true (cnt 1 (nxc d2 2)) (cnt 1 [T.c (nx v23 0)]) 8 (
 K [(nx v5 1),(nx v5 2)] [(nxc d2 0),(nxc d2 1),((nxc d2 2)++[T.c (nx v23 0)]),(nxc d2 3)])) (
 prP (bnI .eql (nx v5 0) (.int .i64 3)) fun t52_26=>
 AX t52_26 (
 cl2 C 95 C6.sg [(nx v5 1),(nx v5 2),(.int .i64 2)] [c0] fun v27 d28=>
 cl2 C 140 BY.sg [(nx v27 1),(nx v27 2)] [c0,[T.c (.int .i64 0),T.c (.int .i64 9),T.c (.int .i64 (-1)),T.c (.int .i64 7)]] fun v29 d30=>
 ixW (cnt 2 (nxc d2 1)) (.int .i64 0) fun t61_31=>
 stg (nxc d2 1) [] ((AB t61_31)*2) [T.c (nx v27 0),T.c (nx v29 0)] fun k32=>
 K [(nx v29 1),(nx v29 2)] [(nxc d2 0),k32,(nxc d2 2),(nxc d2 3)]) (
 prP (bnI .eql (nx v5 0) (.int .i64 4)) fun t63_33=>
 AX t63_33 (
 cl2 C 139 DH.sg [(nx v5 1),(nx v5 2)] [c0,[T.c (.string {data:= #[]}),T.c (.string {data:= #[97]}),T.c (.string {data:= #[116,111,111,108,111,110,103,97,115,105,116,101]})]] fun v34 d35=>
 apW [T.c (nx v34 0)] true (cnt 1 (nxc d2 3)) (cnt 1 [T.c (nx v34 0)]) 16 (
 K [(nx v34 1),(nx v34 2)] [(nxc d2 0),(nxc d2 1),(nxc d2 2),((nxc d2 3)++[T.c (nx v34 0)])])) (
 prP (bnI .eql (nx v5 0) (.int .i64 5)) fun t73_36=>
 AX t73_36 (
 scW (cnt 8 (nxc d2 0)) none (some (nx v3 0)) fun l37 m38=>
 K [(nx v5 1),(nx v5 2)] [(G7 (nxc d2 0) [] ((AB l37)*8) ((AB m38)*8)),(nxc d2 1),(nxc d2 2),(nxc d2 3)]) (
 prP (bnI .eql (nx v5 0) (.int .i64 6)) fun t80_39=>
 AX t80_39 (
 cl2 C 140 BY.sg [(nx v5 1),(nx v5 2)] [c0,[T.c (.int .i64 0),T.c (.int .i64 999),T.c (.int .i64 1000)]] fun v40 d41=>
 ixW (cnt 8 (nxc d2 0)) (nx v3 0) fun t87_42=>
 stc (nxc d2 0) [] (((AB t87_42)*8)+1) (nx v40 0) fun k43=>
 K [(nx v40 1),(nx v40 2)] [k43,(nxc d2 1),(nxc d2 2),(nxc d2 3)]) (
 K [(nx v5 1),(nx v5 2)] [(nxc d2 0),(nxc d2 1),(nxc d2 2),(nxc d2 3)])))))))
theorem GH.cl2 {w0:World} {a0 a1:Value} {c0:List T} {K:J2} (h:GH.txt ⟨Try.prog,w0⟩ a0 a1 c0 K):Eng.cl2 ⟨Try.prog,w0⟩ 96 GH.sg [a0,a1] [c0] K:=
 AV (C:=⟨Try.prog,w0⟩) (f:=96) (fn:=Try.f96) [(94,FC.sg),(112,BQ.sg),(61,B9.sg),(95,C6.sg),(140,BY.sg),(139,DH.sg)] [(5,[0,1,0,0,8,0,56,120,248,504,1023,2047,4095]),(7,[0,1,0,7,15,31,0,64,255,511]),(9,[0,1,0,0,8,0,56,120,248,508,1020,2047,4095,8191]),(11,[0,1,0,4,0,0,60,124,255,511]),(13,[0,1,0,0,12,28,63,127,255]),(17,[0,1,0,0,0,24,63,127,255])] [] Try.func96 (by kernel_rfl) (by kernel_rfl) (by kernel_rfl) h
def C3.sg:Sg:=⟨[(0,[.t 1 0])],[(1,[.t 8, .t 2, .t 1, .t 1])],[]⟩
def C3.txt (C:Ctx) (c0:List T) (K:J2):Prop:=
 cl2 C 85 GG.sg [] [c0] fun v1 d2=>
 cl2 C 94 FC.sg [(nx v1 0),(nx v1 1)] [c0] fun v3 d4=>
 BS (fun x6 k7=>
 K [] [(nxc k7 0),(nxc k7 1),(nxc k7 2),(nxc k7 3)]) fun j8=>
 cl2 C 95 C6.sg [(nx v3 0),(nx v3 1),(.int .i64 8)] [c0] fun v9 d10=>
 AX (nx v9 0) (
 cl2 C 96 GH.sg [(nx v9 1),(nx v9 2)] [c0] fun v11 d12=>
 j8 [] [(nxc d12 0),(nxc d12 1),(nxc d12 2),(nxc d12 3)]) (
 j8 [] [(nxc d4 0),(nxc d4 1),(nxc d4 2),(nxc d4 3)])
theorem C3.cl2 {w0:World} {c0:List T} {K:J2} (h:C3.txt ⟨Try.prog,w0⟩ c0 K):Eng.cl2 ⟨Try.prog,w0⟩ 28 C3.sg [] [c0] K:=
 AV (C:=⟨Try.prog,w0⟩) (f:=28) (fn:=Try.f28) [(85,GG.sg),(94,FC.sg),(95,C6.sg),(96,GH.sg)] [] [(15,⟨[.p (.j 0) 0, .p (.j 1) 0],[],[.bx [.z, .z, .z, .z], .bx [.t (.j 2) 8, .t (.j 3) 2, .t (.j 4) 1, .t (.j 5) 1], .ls, .ls, .ls, .ls]⟩)] Try.func28 (by kernel_rfl) (by kernel_rfl) (by kernel_rfl) h
def FN.sg:Sg:=⟨[(1,[.t 8 0, .t 2 0, .t 1 0, .t 1 0]),(0,[.v]),(0,[.v])],[(0,[.v])],[]⟩
def FN.txt (C:Ctx) (a0 a1:Value) (c0 c1 c2 c3:List T) (K:J2):Prop:=
 ixW (cnt 8 c0) a0 fun t12_1=>
 ldc c0 [] ((AB t12_1)*8) fun t14_2=>
 prP (un .not t14_2) fun t15_3=>
 gE t15_3 (
 gE t15_3 (
 gE t15_3 (
 gP t15_3 false (ixW (cnt 8 c0) a1) fun t20_4=>
 gE t15_3 (
 gP t15_3 false (ldc c0 [] ((AB t20_4)*8)) fun t22_5=>
 gP t15_3 false (prP (un .not t22_5)) fun t23_6=>
 prP (pk t15_3 (.bool true) t23_6) fun t24_7=>
 AX t24_7 (
 K [(.int .i64 0)] []) (
 BF (fun r10 x8 k9=>
 ixW (cnt 8 c0) (nx x8 0) fun t29_12=>
 ldl c0 [] (((AB t29_12)*8)+6) 1 fun t31_13=>
 prP (bnI .lss (nx x8 3) (iv (cnt 1 (F7 c0 [(((AB t29_12)*8)+6)])))) fun t33_14=>
 AX t33_14 (
 BS (fun x16 k17=>
 prP (bnI .add (nx x16 3) (.int .i64 1)) fun t35_30=>
 r10 [(nx x16 0),(nx x16 1),(nx x16 2),t35_30] []) fun j18=>
 ixW (cnt 8 c0) (nx x8 0) fun t39_19=>
 ldl c0 [] (((AB t39_19)*8)+6) 1 fun t41_20=>
 ixW (cnt 1 (F7 c0 [(((AB t39_19)*8)+6)])) (nx x8 3) fun t43_21=>
 ldc c0 [(((AB t39_19)*8)+6)] ((AB t43_21)*1) fun t44_22=>
 ixW (cnt 8 c0) (nx x8 1) fun t49_23=>
 ldc c0 [] (((AB t49_23)*8)+1) fun t51_24=>
 cl2 C 61 B9.sg [(nx x8 1),t51_24] [] fun v25 d26=>
 prP (bnI .eql t44_22 (nx v25 0)) fun t53_28=>
 AX t53_28 (
 prP (bnI .add (nx x8 2) (.int .i64 1)) fun t55_29=>
 j18 [(nx x8 0),(nx x8 1),t55_29,(nx x8 3)] []) (
 j18 [(nx x8 0),(nx x8 1),(nx x8 2),(nx x8 3)] [])) (
 K [(nx x8 2)] [])) [a0,a1,(.int .i64 0),(.int .i64 0)] [])))))
theorem FN.cl2 {w0:World} {a0 a1:Value} {c0 c1 c2 c3:List T} {K:J2} (h:FN.txt ⟨Try.prog,w0⟩ a0 a1 c0 c1 c2 c3 K):Eng.cl2 ⟨Try.prog,w0⟩ 58 FN.sg [a0,a1] [c0,c1,c2,c3] K:=
 AV (C:=⟨Try.prog,w0⟩) (f:=58) (fn:=Try.f58) [(61,B9.sg)] [(7,[0,1,0,7,15,31,0,127,255,0,0,1024,0,7168,15360,31744,65024,131071])] [(489,⟨[.v, .v, .p (.j 0) 0, .v, .v],[],[.bx [.t (.f 0) 8, .t (.f 1) 2, .t (.f 2) 1, .t (.f 3) 1]]⟩),(122,⟨[.v, .v, .p (.j 0) 0, .v, .v],[],[.bx [.t (.f 0) 8, .t (.f 1) 2, .t (.f 2) 1, .t (.f 3) 1]]⟩)] Try.func58 (by kernel_rfl) (by kernel_rfl) (by kernel_rfl) h
def DT.sg:Sg:=⟨[(1,[.t 8 0, .t 2 0, .t 1 0, .t 1 0])],[(0,[.t 1])],[]⟩
def DT.txt (C:Ctx) (c0 c1 c2 c3:List T) (K:J2):Prop:=
 BF (fun r3 x1 k2=>
 prP (bnI .lss (nx x1 0) (iv (cnt 8 c0))) fun t10_5=>
 gE t10_5 (
 gP t10_5 true (prP (bnI .lss (nx x1 0) (.int .i64 8))) fun t13_6=>
 prP (pk t10_5 t13_6 (.bool false)) fun t14_7=>
 AX t14_7 (
 BS (fun x9 k10=>
 prP (bnI .add (nx x9 0) (.int .i64 1)) fun t16_26=>
 r3 [t16_26] [(nxc k10 0)]) fun j11=>
 ixW (cnt 8 c0) (nx x1 0) fun t20_12=>
 ldc c0 [] ((AB t20_12)*8) fun t22_13=>
 gE t22_13 (
 gE t22_13 (
 gE t22_13 (
 gP t22_13 true (ixW (cnt 8 c0) (nx x1 0)) fun t27_14=>
 gE t22_13 (
 gP t22_13 true (ldc c0 [] (((AB t27_14)*8)+3)) fun t29_15=>
 gE t22_13 (
 gE t22_13 (
 gE t22_13 (
 gP t22_13 true (ixW (cnt 8 c0) (nx x1 0)) fun t33_16=>
 gE t22_13 (
 gP t22_13 true (ldc c0 [] (((AB t33_16)*8)+4)) fun t35_17=>
 gP t22_13 true (prP (bnI .add t29_15 t35_17)) fun t36_18=>
 gP t22_13 true (prP (bnI .gtr t36_18 (.int .i64 0))) fun t37_19=>
 prP (pk t22_13 t37_19 (.bool false)) fun t38_20=>
 AX t38_20 (
 ixW (cnt 8 c0) (nx x1 0) fun t44_21=>
 ldc c0 [] (((AB t44_21)*8)+1) fun t46_22=>
 cl2 C 61 B9.sg [(nx x1 0),t46_22] [] fun v23 d24=>
 apW [T.c (nx v23 0)] true (cnt 1 (nxc k2 0)) (cnt 1 [T.c (nx v23 0)]) 8 (
 j11 [(nx x1 0)] [((nxc k2 0)++[T.c (nx v23 0)])])) (
 j11 [(nx x1 0)] [(nxc k2 0)])))))))))) (
 K [] [(nxc k2 0)]))) [(.int .i64 0)] [[]]
theorem DT.cl2 {w0:World} {c0 c1 c2 c3:List T} {K:J2} (h:DT.txt ⟨Try.prog,w0⟩ c0 c1 c2 c3 K):Eng.cl2 ⟨Try.prog,w0⟩ 33 DT.sg [] [c0,c1,c2,c3] K:=
 AV (C:=⟨Try.prog,w0⟩) (f:=33) (fn:=Try.f33) [(61,B9.sg)] [(5,[0,1,0,7,15,31,63,127,255,127,1023,2047,4095,127,8319,127,57471,123007,254079,524287,1048575,2097151])] [(233,⟨[.p (.j 0) 0, .t (.j 1) 1, .v],[],[.bx [.t (.f 0) 8, .t (.f 1) 2, .t (.f 2) 1, .t (.f 3) 1], .ls]⟩),(58,⟨[.p (.j 0) 0, .t (.j 1) 1, .v],[],[.bx [.t (.f 0) 8, .t (.f 1) 2, .t (.f 2) 1, .t (.f 3) 1], .ls]⟩)] Try.func33 (by kernel_rfl) (by kernel_rfl) (by kernel_rfl) h
def EA.sg:Sg:=⟨[(1,[.t 8 0, .t 2 0, .t 1 0, .t 1 0]),(0,[.t 1 0]),(0,[.v])],[(0,[.t 1])],[]⟩
def EA.txt (C:Ctx) (a0:Value) (c0 c1 c2 c3 c4:List T) (K:J2):Prop:=
 BF (fun r3 x1 k2=>
 prP (bnI .lss (nx x1 1) (iv (cnt 1 c4))) fun t16_5=>
 AX t16_5 (
 BS (fun x7 k8=>
 prP (bnI .add (nx x7 1) (.int .i64 1)) fun t18_29=>
 r3 [(nx x7 0),t18_29] [(nxc k8 0)]) fun j9=>
 ixW (cnt 1 c4) (nx x1 1) fun t22_10=>
 ldc c4 [] ((AB t22_10)*1) fun t23_11=>
 cl2 C 24 BH.sg [t23_11] [c0,c1,c2,c3] fun v12 d13=>
 prP (bnI .geq (nx v12 0) (.int .i64 0)) fun t25_15=>
 gE t25_15 (
 gE t25_15 (
 gE t25_15 (
 gP t25_15 true (ixW (cnt 1 c4) (nx x1 1)) fun t30_16=>
 gP t25_15 true (ldc c4 [] ((AB t30_16)*1)) fun t31_17=>
 gP t25_15 true ((fun K=>cl2 C 89 CH.sg [t31_17] [(nxc k2 0)] fun v18 d19=>K (nx v18 0))) fun t32_20=>
 gP t25_15 true (prP (un .not t32_20)) fun t33_21=>
 prP (pk t25_15 t33_21 (.bool false)) fun t34_22=>
 gE t34_22 (
 gE t34_22 (
 gP t34_22 true (ixW (cnt 1 c4) (nx x1 1)) fun t38_23=>
 gP t34_22 true (ldc c4 [] ((AB t38_23)*1)) fun t39_24=>
 gE t34_22 (
 gP t34_22 true (prP (bnI .neq t39_24 (nx x1 0))) fun t41_25=>
 prP (pk t34_22 t41_25 (.bool false)) fun t42_26=>
 AX t42_26 (
 ixW (cnt 1 c4) (nx x1 1) fun t46_27=>
 ldc c4 [] ((AB t46_27)*1) fun t47_28=>
 apW [T.c t47_28] true (cnt 1 (nxc k2 0)) (cnt 1 [T.c t47_28]) 8 (
 j9 [(nx x1 0),(nx x1 1)] [((nxc k2 0)++[T.c t47_28])])) (
 j9 [(nx x1 0),(nx x1 1)] [(nxc k2 0)])))))))) (
 BF (fun r32 x30 k31=>
 prP (bnI .lss (nx x30 1) (iv (cnt 1 (nxc k31 0)))) fun t53_34=>
 AX t53_34 (
 ixW (cnt 1 (nxc k31 0)) (nx x30 1) fun t61_35=>
 ldc (nxc k31 0) [] ((AB t61_35)*1) fun t62_36=>
 cl2 C 24 BH.sg [t62_36] [c0,c1,c2,c3] fun v37 d38=>
 ixW (cnt 8 c0) (nx v37 0) fun t64_40=>
 ldl c0 [] (((AB t64_40)*8)+6) 1 fun t66_41=>
 BF (fun r44 x42 k43=>
 prP (bnI .lss (nx x42 3) (iv (cnt 1 (F7 c0 [(AB (nx x42 2))])))) fun t70_46=>
 AX t70_46 (
 BS (fun x48 k49=>
 prP (bnI .add (nx x48 3) (.int .i64 1)) fun t72_70=>
 r44 [(nx x48 0),(nx x48 1),(iv (AB (nx x48 2))),t72_70] [(nxc k49 0)]) fun j50=>
 ixW (cnt 1 (F7 c0 [(AB (nx x42 2))])) (nx x42 3) fun t76_51=>
 ldc c0 [(AB (nx x42 2))] ((AB t76_51)*1) fun t77_52=>
 cl2 C 24 BH.sg [t77_52] [c0,c1,c2,c3] fun v53 d54=>
 prP (bnI .geq (nx v53 0) (.int .i64 0)) fun t79_56=>
 gE t79_56 (
 gE t79_56 (
 gE t79_56 (
 gP t79_56 true (ixW (cnt 1 (F7 c0 [(AB (nx x42 2))])) (nx x42 3)) fun t84_57=>
 gP t79_56 true (ldc c0 [(AB (nx x42 2))] ((AB t84_57)*1)) fun t85_58=>
 gP t79_56 true ((fun K=>cl2 C 89 CH.sg [t85_58] [(nxc k43 0)] fun v59 d60=>K (nx v59 0))) fun t86_61=>
 gP t79_56 true (prP (un .not t86_61)) fun t87_62=>
 prP (pk t79_56 t87_62 (.bool false)) fun t88_63=>
 gE t88_63 (
 gE t88_63 (
 gP t88_63 true (ixW (cnt 1 (F7 c0 [(AB (nx x42 2))])) (nx x42 3)) fun t92_64=>
 gP t88_63 true (ldc c0 [(AB (nx x42 2))] ((AB t92_64)*1)) fun t93_65=>
 gE t88_63 (
 gP t88_63 true (prP (bnI .neq t93_65 (nx x42 0))) fun t95_66=>
 prP (pk t88_63 t95_66 (.bool false)) fun t96_67=>
 AX t96_67 (
 ixW (cnt 1 (F7 c0 [(AB (nx x42 2))])) (nx x42 3) fun t100_68=>
 ldc c0 [(AB (nx x42 2))] ((AB t100_68)*1) fun t101_69=>
 apW [T.c t101_69] true (cnt 1 (nxc k43 0)) (cnt 1 [T.c t101_69]) 8 (
 j50 [(nx x42 0),(nx x42 1),(iv (AB (nx x42 2))),(nx x42 3)] [((nxc k43 0)++[T.c t101_69])])) (
 j50 [(nx x42 0),(nx x42 1),(iv (AB (nx x42 2))),(nx x42 3)] [(nxc k43 0)])))))))) (
 prP (bnI .add (nx x42 1) (.int .i64 1)) fun t55_71=>
 r32 [(nx x42 0),t55_71] [(nxc k43 0)])) [(nx x30 0),(nx x30 1),(iv (((AB t64_40)*8)+6)),(.int .i64 0)] [(nxc k31 0)]) (
 K [] [(nxc k31 0)])) [(nx x1 0),(.int .i64 0)] [(nxc k2 0)])) [a0,(.int .i64 0)] [[]]
theorem EA.cl2 {w0:World} {a0:Value} {c0 c1 c2 c3 c4:List T} {K:J2} (h:EA.txt ⟨Try.prog,w0⟩ a0 c0 c1 c2 c3 c4 K):Eng.cl2 ⟨Try.prog,w0⟩ 93 EA.sg [a0] [c0,c1,c2,c3,c4] K:=
 AV (C:=⟨Try.prog,w0⟩) (f:=93) (fn:=Try.f93) [(24,BH.sg),(89,CH.sg)] [(5,[0,0,0,6,14,31,63,127,255,255,255,1791,3839,8191,16383,32767,65535,131071,131071,524287,1048575,131071,4194303,8388607]),(10,[0,1,0,0,0,24,56,124,255,511,1023,2047]),(14,[0,0,0,6,14,31,63,127,255,255,255,1791,3839,8191,16383,32767,65535,131071,131071,524287,1048575,131071,4194303,8388607])] [(233,⟨[.t (.f 4) 1, .v, .p (.j 0) 0, .t (.j 1) 1, .v],[],[.bx [.t (.f 0) 8, .t (.f 1) 2, .t (.f 2) 1, .t (.f 3) 1], .ls]⟩),(62617,⟨[.v, .p (.j 0) 0, .t (.j 1) 1, .v, .n (.f 0) 1 1, .v],[],[.bx [.t (.f 0) 8, .t (.f 1) 2, .t (.f 2) 1, .t (.f 3) 1], .ls]⟩),(15654,⟨[.v, .p (.j 0) 0, .t (.j 1) 1, .v, .n (.f 0) 1 1, .v],[],[.bx [.t (.f 0) 8, .t (.f 1) 2, .t (.f 2) 1, .t (.f 3) 1], .ls]⟩),(122,⟨[.v, .p (.j 0) 0, .t (.j 1) 1, .v],[],[.bx [.t (.f 0) 8, .t (.f 1) 2, .t (.f 2) 1, .t (.f 3) 1], .ls]⟩),(58,⟨[.t (.f 4) 1, .v, .p (.j 0) 0, .t (.j 1) 1, .v],[],[.bx [.t (.f 0) 8, .t (.f 1) 2, .t (.f 2) 1, .t (.f 3) 1], .ls]⟩)] Try.func93 (by kernel_rfl) (by kernel_rfl) (by kernel_rfl) h
def EZ.sg:Sg:=⟨[(1,[.t 8 0, .t 2 0, .t 1 0, .t 1 0]),(0,[.t 1 0])],[(0,[.t 1])],[]⟩
def EZ.txt (C:Ctx) (c0 c1 c2 c3 c4:List T) (K:J2):Prop:=
 cl2 C 30 C4.sg [] [c0,c1,c2,c3] fun v1 d2=>
 BF (fun r5 x3 k4=>
 prP (bnI .lss (nx x3 0) (iv (cnt 1 (nxc k4 1)))) fun t14_7=>
 AX t14_7 (
 BS (fun x9 k10=>
 prP (bnI .add (nx x9 0) (.int .i64 1)) fun t16_19=>
 r5 [t16_19] [(nxc k10 0),(nxc k10 1)]) fun j11=>
 ixW (cnt 1 (nxc k4 1)) (nx x3 0) fun t20_12=>
 ldc (nxc k4 1) [] ((AB t20_12)*1) fun t21_13=>
 cl2 C 89 CH.sg [t21_13] [c4] fun v14 d15=>
 AX (nx v14 0) (
 ixW (cnt 1 (nxc k4 1)) (nx x3 0) fun t26_17=>
 ldc (nxc k4 1) [] ((AB t26_17)*1) fun t27_18=>
 apW [T.c t27_18] true (cnt 1 (nxc k4 0)) (cnt 1 [T.c t27_18]) 8 (
 j11 [(nx x3 0)] [((nxc k4 0)++[T.c t27_18]),(nxc k4 1)])) (
 j11 [(nx x3 0)] [(nxc k4 0),(nxc k4 1)])) (
 K [] [(nxc k4 0)])) [(.int .i64 0)] [[],(nxc d2 0)]
theorem EZ.cl2 {w0:World} {c0 c1 c2 c3 c4:List T} {K:J2} (h:EZ.txt ⟨Try.prog,w0⟩ c0 c1 c2 c3 c4 K):Eng.cl2 ⟨Try.prog,w0⟩ 101 EZ.sg [] [c0,c1,c2,c3,c4] K:=
 AV (C:=⟨Try.prog,w0⟩) (f:=101) (fn:=Try.f101) [(30,C4.sg),(89,CH.sg)] [] [(489,⟨[.t (.f 4) 1, .t (.j 0) 1, .t (.j 1) 1, .v],[],[.ls, .ls]⟩),(122,⟨[.t (.f 4) 1, .t (.j 0) 1, .t (.j 1) 1, .v],[],[.ls, .ls]⟩)] Try.func101 (by kernel_rfl) (by kernel_rfl) (by kernel_rfl) h
def DN.sg:Sg:=⟨[(1,[.t 8 0, .t 2 0, .t 1 0, .t 1 0]),(0,[.t 1 0])],[(0,[.t 1])],[]⟩
def DN.txt (C:Ctx) (c0 c1 c2 c3 c4:List T) (K:J2):Prop:=
 prP (bnI .neq (iv (cnt 8 c0)) (.int .i64 8)) fun t8_1=>
 AX t8_1 (
 K [] [[]]) (
 cl2 C 93 EA.sg [(.int .i64 (-1))] [c0,c1,c2,c3,c4] fun v2 d3=>
 cl2 C 101 EZ.sg [] [c0,c1,c2,c3,(nxc d3 0)] fun v4 d5=>
 K [] [(nxc d5 0)])
theorem DN.cl2 {w0:World} {c0 c1 c2 c3 c4:List T} {K:J2} (h:DN.txt ⟨Try.prog,w0⟩ c0 c1 c2 c3 c4 K):Eng.cl2 ⟨Try.prog,w0⟩ 32 DN.sg [] [c0,c1,c2,c3,c4] K:=
 AV (C:=⟨Try.prog,w0⟩) (f:=32) (fn:=Try.f32) [(93,EA.sg),(101,EZ.sg)] [(3,[0,0,0,6,15,31])] [] Try.func32 (by kernel_rfl) (by kernel_rfl) (by kernel_rfl) h
def FU.sg:Sg:=⟨[(1,[.t 8 0, .t 2 0, .t 1 0, .t 1 0])],[(0,[.t 1])],[]⟩
def FU.txt (C:Ctx) (c0 c1 c2 c3:List T) (K:J2):Prop:=
 prP (bnI .neq (iv (cnt 8 c0)) (.int .i64 8)) fun t11_1=>
 AX t11_1 (
 K [] [[]]) (
 cl2 C 33 DT.sg [] [c0,c1,c2,c3] fun v2 d3=>
 cl2 C 32 DN.sg [] [c0,c1,c2,c3,(nxc d3 0)] fun v4 d5=>
 cl2 C 30 C4.sg [] [c0,c1,c2,c3] fun v6 d7=>
 BF (fun r10 x8 k9=>
 prP (bnI .lss (nx x8 0) (iv (cnt 1 (nxc k9 2)))) fun t22_12=>
 AX t22_12 (
 BS (fun x14 k15=>
 prP (bnI .add (nx x14 0) (.int .i64 1)) fun t24_25=>
 r10 [t24_25] [(nxc k15 0),(nxc k15 1),(nxc k15 2)]) fun j16=>
 ixW (cnt 1 (nxc k9 2)) (nx x8 0) fun t28_17=>
 ldc (nxc k9 2) [] ((AB t28_17)*1) fun t29_18=>
 cl2 C 89 CH.sg [t29_18] [(nxc k9 1)] fun v19 d20=>
 prP (un .not (nx v19 0)) fun t31_22=>
 AX t31_22 (
 ixW (cnt 1 (nxc k9 2)) (nx x8 0) fun t35_23=>
 ldc (nxc k9 2) [] ((AB t35_23)*1) fun t36_24=>
 apW [T.c t36_24] true (cnt 1 (nxc k9 0)) (cnt 1 [T.c t36_24]) 8 (
 j16 [(nx x8 0)] [((nxc k9 0)++[T.c t36_24]),(nxc k9 1),(nxc k9 2)])) (
 j16 [(nx x8 0)] [(nxc k9 0),(nxc k9 1),(nxc k9 2)])) (
 K [] [(nxc k9 0)])) [(.int .i64 0)] [[],(nxc d5 0),(nxc d7 0)])
theorem FU.cl2 {w0:World} {c0 c1 c2 c3:List T} {K:J2} (h:FU.txt ⟨Try.prog,w0⟩ c0 c1 c2 c3 K):Eng.cl2 ⟨Try.prog,w0⟩ 22 FU.sg [] [c0,c1,c2,c3] K:=
 AV (C:=⟨Try.prog,w0⟩) (f:=22) (fn:=Try.f22) [(33,DT.sg),(32,DN.sg),(30,C4.sg),(89,CH.sg)] [(4,[0,0,2,7,15])] [(2025,⟨[.t (.j 0) 1, .t (.j 1) 1, .t (.j 2) 1, .v],[],[.ls, .ls, .ls]⟩),(506,⟨[.t (.j 0) 1, .t (.j 1) 1, .t (.j 2) 1, .v],[],[.ls, .ls, .ls]⟩)] Try.func22 (by kernel_rfl) (by kernel_rfl) (by kernel_rfl) h
def EE.sg:Sg:=⟨[(0,[.t 1 0]),(0,[.t 1 0])],[(0,[.v])],[]⟩
def EE.txt (C:Ctx) (c0 c1:List T) (K:J2):Prop:=
 prP (bnI .neq (iv (cnt 1 c0)) (iv (cnt 1 c1))) fun t10_1=>
 AX t10_1 (
 K [(.bool false)] []) (
 BF (fun r4 x2 k3=>
 prP (bnI .lss (nx x2 0) (iv (cnt 1 c0))) fun t14_6=>
 AX t14_6 (
 ixW (cnt 1 c0) (nx x2 0) fun t19_7=>
 ldc c0 [] ((AB t19_7)*1) fun t20_8=>
 ixW (cnt 1 c1) (nx x2 0) fun t23_9=>
 ldc c1 [] ((AB t23_9)*1) fun t24_10=>
 prP (bnI .neq t20_8 t24_10) fun t25_11=>
 AX t25_11 (
 K [(.bool false)] []) (
 prP (bnI .add (nx x2 0) (.int .i64 1)) fun t16_12=>
 r4 [t16_12] [])) (
 K [(.bool true)] [])) [(.int .i64 0)] [])
theorem EE.cl2 {w0:World} {c0 c1:List T} {K:J2} (h:EE.txt ⟨Try.prog,w0⟩ c0 c1 K):Eng.cl2 ⟨Try.prog,w0⟩ 31 EE.sg [] [c0,c1] K:=
 AV (C:=⟨Try.prog,w0⟩) (f:=31) (fn:=Try.f31) [] [(6,[0,0,3,7,0,0,48,112,255])] [(58,⟨[.t (.f 0) 1, .t (.f 1) 1, .v],[],[]⟩)] Try.func31 (by kernel_rfl) (by kernel_rfl) (by kernel_rfl) h
def IL.sg:Sg:=⟨[(0,[.t 1 0]),(0,[.v])],[(0,[.v])],[]⟩
def IL.txt (C:Ctx) (a0:Value) (c0:List T) (K:J2):Prop:=
 BF (fun r3 x1 k2=>
 prP (bnI .lss (nx x1 1) (iv (cnt 1 c0))) fun t9_5=>
 AX t9_5 (
 ixW (cnt 1 c0) (nx x1 1) fun t14_6=>
 ldc c0 [] ((AB t14_6)*1) fun t15_7=>
 prP (bnI .eql t15_7 (nx x1 0)) fun t17_8=>
 AX t17_8 (
 K [(.bool true)] []) (
 prP (bnI .add (nx x1 1) (.int .i64 1)) fun t11_9=>
 r3 [(nx x1 0),t11_9] [])) (
 K [(.bool false)] [])) [a0,(.int .i64 0)] []
theorem IL.cl2 {w0:World} {a0:Value} {c0:List T} {K:J2} (h:IL.txt ⟨Try.prog,w0⟩ a0 c0 K):Eng.cl2 ⟨Try.prog,w0⟩ 25 IL.sg [a0] [c0] K:=
 AV (C:=⟨Try.prog,w0⟩) (f:=25) (fn:=Try.f25) [] [] [(26,⟨[.t (.f 0) 1, .v, .v],[],[]⟩)] Try.func25 (by kernel_rfl) (by kernel_rfl) (by kernel_rfl) h
def FF.sg:Sg:=⟨[(0,[.t 1 0])],[(0,[.v])],[]⟩
def FF.txt (C:Ctx) (c0:List T) (K:J2):Prop:=
 cl2 C 17 IQ.sg [] [c0] fun v1 d2=>
 AX (nx v1 0) (
 K [(.bool true)] []) (
 cl2 C 28 C3.sg [] [c0] fun v4 d5=>
 cl2 C 19 EJ.sg [] [(nxc d5 0),(nxc d5 1),(nxc d5 2),(nxc d5 3)] fun v6 d7=>
 prP (un .not (nx v6 0)) fun t22_9=>
 AX t22_9 (
 K [(.bool true)] []) (
 cl2 C 56 EB.sg [] [(nxc d5 0),(nxc d5 1),(nxc d5 2),(nxc d5 3)] fun v10 d11=>
 BF (fun r14 x12 k13=>
 prP (bnI .lss (nx x12 0) (iv (cnt 1 (nxc k13 2)))) fun t29_16=>
 AX t29_16 (
 ixW (cnt 1 (nxc k13 2)) (nx x12 0) fun t38_17=>
 ldc (nxc k13 2) [] ((AB t38_17)*1) fun t39_18=>
 cl2 C 24 BH.sg [t39_18] [(nxc k13 0),(nxc k13 1),(nxc k13 2),(nxc k13 3)] fun v19 d20=>
 cl2 C 57 EF.sg [(nx v19 0)] [(nxc k13 0),(nxc k13 1),(nxc k13 2),(nxc k13 3),(nxc k13 4),(nxc k13 5)] fun v22 d23=>
 prP (bnI .add (nx x12 0) (.int .i64 1)) fun t31_24=>
 r14 [t31_24] [(nxc k13 0),(nxc k13 1),(nxc k13 2),(nxc k13 3),(nxc d23 0),(nxc d23 1)]) (
 prP (bnI .neq (iv (cnt 1 (nxc k13 4))) (.int .i64 8)) fun t45_25=>
 gE t45_25 (
 gE t45_25 (
 gE t45_25 (
 gP t45_25 false (prP (bnI .neq (iv (cnt 1 (nxc k13 5))) (.int .i64 8))) fun t50_26=>
 prP (pk t45_25 (.bool true) t50_26) fun t51_27=>
 AX t51_27 (
 K [(.bool false)] []) (
 BF (fun r30 x28 k29=>
 prP (bnI .lss (nx x28 0) (.int .i64 8)) fun t53_32=>
 AX t53_32 (
 ixW (cnt 8 (nxc k29 0)) (nx x28 0) fun t59_33=>
 ldc (nxc k29 0) [] (((AB t59_33)*8)+5) fun t61_34=>
 BF (fun r37 x35 k36=>
 prP (bnI .lss (nx x35 2) (.int .i64 8)) fun t63_39=>
 AX t63_39 (
 BS (fun x41 k42=>
 prP (bnI .add (nx x41 2) (.int .i64 1)) fun t65_51=>
 r37 [(nx x41 0),(nx x41 1),t65_51] [(nxc k42 0),(nxc k42 1),(nxc k42 2),(nxc k42 3),(nxc k42 4),(nxc k42 5)]) fun j43=>
 ixW (cnt 1 (nxc k36 5)) (nx x35 2) fun t69_44=>
 ldc (nxc k36 5) [] ((AB t69_44)*1) fun t70_45=>
 prP (bnI .eql t70_45 (.int .i64 1)) fun t71_46=>
 AX t71_46 (
 cl2 C 58 FN.sg [(nx x35 2),(nx x35 0)] [(nxc k36 0),(nxc k36 1),(nxc k36 2),(nxc k36 3)] fun v47 d48=>
 prP (bnI .sub (nx x35 1) (nx v47 0)) fun t77_50=>
 j43 [(nx x35 0),t77_50,(nx x35 2)] [(nxc k36 0),(nxc k36 1),(nxc k36 2),(nxc k36 3),(nxc k36 4),(nxc k36 5)]) (
 j43 [(nx x35 0),(nx x35 1),(nx x35 2)] [(nxc k36 0),(nxc k36 1),(nxc k36 2),(nxc k36 3),(nxc k36 4),(nxc k36 5)])) (
 ixW (cnt 1 (nxc k36 4)) (nx x35 0) fun t81_52=>
 ldc (nxc k36 4) [] ((AB t81_52)*1) fun t82_53=>
 prP (bnI .neq t82_53 (nx x35 1)) fun t84_54=>
 AX t84_54 (
 K [(.bool false)] []) (
 prP (bnI .add (nx x35 0) (.int .i64 1)) fun t55_55=>
 r30 [t55_55] [(nxc k36 0),(nxc k36 1),(nxc k36 2),(nxc k36 3),(nxc k36 4),(nxc k36 5)]))) [(nx x28 0),t61_34,(.int .i64 0)] [(nxc k29 0),(nxc k29 1),(nxc k29 2),(nxc k29 3),(nxc k29 4),(nxc k29 5)]) (
 BF (fun r58 x56 k57=>
 prP (bnI .lss (nx x56 0) (iv (cnt 1 (nxc k57 2)))) fun t89_60=>
 AX t89_60 (
 ixW (cnt 1 (nxc k57 2)) (nx x56 0) fun t98_61=>
 ldc (nxc k57 2) [] ((AB t98_61)*1) fun t99_62=>
 cl2 C 24 BH.sg [t99_62] [(nxc k57 0),(nxc k57 1),(nxc k57 2),(nxc k57 3)] fun v63 d64=>
 cl2 C 59 D7.sg [(nx v63 0)] [(nxc k57 0),(nxc k57 1),(nxc k57 2),(nxc k57 3),(nxc k57 4),(nxc k57 5)] fun v66 d67=>
 prP (bnI .add (nx x56 0) (.int .i64 1)) fun t91_68=>
 r58 [t91_68] [(nxc k57 0),(nxc k57 1),(nxc k57 2),(nxc k57 3),(nxc d67 0),(nxc d67 1)]) (
 cl2 C 60 FW.sg [] [(nxc k57 4),(nxc k57 5)] fun v69 d70=>
 BF (fun r73 x71 k72=>
 prP (bnI .lss (nx x71 0) (iv (cnt 1 (nxc k72 0)))) fun t108_75=>
 AX t108_75 (
 ixW (cnt 1 (nxc k72 0)) (nx x71 0) fun t113_76=>
 ldc (nxc k72 0) [] ((AB t113_76)*1) fun t114_77=>
 prP (bnI .lss t114_77 (.int .i64 0)) fun t115_78=>
 gE t115_78 (
 gE t115_78 (
 gP t115_78 false (ixW (cnt 1 (nxc k72 0)) (nx x71 0)) fun t119_79=>
 gP t115_78 false (ldc (nxc k72 0) [] ((AB t119_79)*1)) fun t120_80=>
 gP t115_78 false (prP (bnI .geq t120_80 (.int .i64 8))) fun t121_81=>
 prP (pk t115_78 (.bool true) t121_81) fun t122_82=>
 gE t122_82 (
 gE t122_82 (
 gE t122_82 (
 gP t122_82 false (prP (bnI .neq (iv (cnt 1 (nxc k72 6))) (.int .i64 8))) fun t127_83=>
 prP (pk t122_82 (.bool true) t127_83) fun t128_84=>
 AX t128_84 (
 K [(.bool false)] []) (
 ixW (cnt 1 (nxc k72 0)) (nx x71 0) fun t132_85=>
 ldc (nxc k72 0) [] ((AB t132_85)*1) fun t133_86=>
 ixW (cnt 1 (nxc k72 0)) (nx x71 0) fun t138_87=>
 ldc (nxc k72 0) [] ((AB t138_87)*1) fun t139_88=>
 ixW (cnt 8 (nxc k72 2)) t139_88 fun t140_89=>
 ldc (nxc k72 2) [] (((AB t140_89)*8)+1) fun t142_90=>
 cl2 C 61 B9.sg [t133_86,t142_90] [] fun v91 d92=>
 apW [T.c (nx v91 0)] true (cnt 1 (nxc k72 1)) (cnt 1 [T.c (nx v91 0)]) 8 (
 prP (bnI .add (nx x71 0) (.int .i64 1)) fun t110_94=>
 r73 [t110_94] [(nxc k72 0),((nxc k72 1)++[T.c (nx v91 0)]),(nxc k72 2),(nxc k72 3),(nxc k72 4),(nxc k72 5),(nxc k72 6),(nxc k72 7)])))))))) (
 cl2 C 22 FU.sg [] [(nxc k72 2),(nxc k72 3),(nxc k72 4),(nxc k72 5)] fun v95 d96=>
 cl2 C 31 EE.sg [] [(nxc k72 1),(nxc d96 0)] fun v97 d98=>
 prP (un .not (nx v97 0)) fun t150_100=>
 gE t150_100 (
 gE t150_100 (
 gE t150_100 (
 gP t150_100 false (prP (bnI .neq (iv (cnt 1 (nxc k72 6))) (.int .i64 8))) fun t155_101=>
 prP (pk t150_100 (.bool true) t155_101) fun t156_102=>
 AX t156_102 (
 K [(.bool false)] []) (
 BF (fun r105 x103 k104=>
 prP (bnI .lss (nx x103 0) (.int .i64 8)) fun t158_107=>
 AX t158_107 (
 ixW (cnt 8 (nxc k104 1)) (nx x103 0) fun t164_108=>
 ldc (nxc k104 1) [] (((AB t164_108)*8)+5) fun t166_109=>
 BF (fun r112 x110 k111=>
 prP (bnI .lss (nx x110 2) (iv (cnt 1 (nxc k111 0)))) fun t170_114=>
 AX t170_114 (
 ixW (cnt 1 (nxc k111 0)) (nx x110 2) fun t177_115=>
 ldc (nxc k111 0) [] ((AB t177_115)*1) fun t178_116=>
 cl2 C 58 FN.sg [t178_116,(nx x110 0)] [(nxc k111 1),(nxc k111 2),(nxc k111 3),(nxc k111 4)] fun v117 d118=>
 prP (bnI .sub (nx x110 1) (nx v117 0)) fun t181_120=>
 prP (bnI .add (nx x110 2) (.int .i64 1)) fun t172_121=>
 r112 [(nx x110 0),t181_120,t172_121] [(nxc k111 0),(nxc k111 1),(nxc k111 2),(nxc k111 3),(nxc k111 4),(nxc k111 5),(nxc k111 6)]) (
 cl2 C 25 IL.sg [(nx x110 0)] [(nxc k111 0)] fun v122 d123=>
 prP (un .not (nx v122 0)) fun t185_125=>
 gE t185_125 (
 gE t185_125 (
 gE t185_125 (
 gP t185_125 true (ixW (cnt 1 (nxc k111 5)) (nx x110 0)) fun t190_126=>
 gP t185_125 true (ldc (nxc k111 5) [] ((AB t190_126)*1)) fun t191_127=>
 gE t185_125 (
 gP t185_125 true (prP (bnI .neq t191_127 (nx x110 1))) fun t193_128=>
 prP (pk t185_125 t193_128 (.bool false)) fun t194_129=>
 AX t194_129 (
 K [(.bool false)] []) (
 prP (bnI .add (nx x110 0) (.int .i64 1)) fun t160_130=>
 r105 [t160_130] [(nxc k111 0),(nxc k111 1),(nxc k111 2),(nxc k111 3),(nxc k111 4),(nxc k111 5),(nxc k111 6)]))))))) [(nx x103 0),t166_109,(.int .i64 0)] [(nxc k104 0),(nxc k104 1),(nxc k104 2),(nxc k104 3),(nxc k104 4),(nxc k104 5),(nxc k104 6)]) (
 K [(.bool true)] [])) [(.int .i64 0)] [(nxc k72 0),(nxc k72 2),(nxc k72 3),(nxc k72 4),(nxc k72 5),(nxc k72 6),(nxc k72 7)])))))) [(.int .i64 0)] [(nxc d70 0),[],(nxc k57 0),(nxc k57 1),(nxc k57 2),(nxc k57 3),(nxc k57 4),(nxc k57 5)])) [(.int .i64 0)] [(nxc k29 0),(nxc k29 1),(nxc k29 2),(nxc k29 3),(nxc k29 4),(nxc k29 5)])) [(.int .i64 0)] [(nxc k13 0),(nxc k13 1),(nxc k13 2),(nxc k13 3),(nxc k13 4),(nxc k13 5)])))))) [(.int .i64 0)] [(nxc d5 0),(nxc d5 1),(nxc d5 2),(nxc d5 3),(nxc d11 0),(nxc d11 1)]))
theorem FF.cl2 {w0:World} {c0:List T} {K:J2} (h:FF.txt ⟨Try.prog,w0⟩ c0 K):Eng.cl2 ⟨Try.prog,w0⟩ 9 FF.sg [] [c0] K:=
 AV (C:=⟨Try.prog,w0⟩) (f:=9) (fn:=Try.f9) [(17,IQ.sg),(28,C3.sg),(19,EJ.sg),(56,EB.sg),(24,BH.sg),(57,EF.sg),(58,FN.sg),(59,D7.sg),(60,FW.sg),(61,B9.sg),(22,FU.sg),(31,EE.sg),(25,IL.sg)] [(10,[0,0,0,0,8,0,56,120,252,511,1023]),(27,[0,0,0,0,8,0,56,120,252,511,1023]),(35,[0,0,0,6,14,0,32,0,0,384,896,2016,4064,8160,16382,32766,65535,131071]),(45,[0,0,0,0,12,28,0,126,255,511])] [(2091305,⟨[.p (.j 0) 0, .p (.j 1) 0, .v, .v, .v],[],[.bx [.t (.j 2) 8, .t (.j 3) 2, .t (.j 4) 1, .t (.j 5) 1], .bx [.t (.j 6) 1, .t (.j 7) 1], .ls, .ls, .ls, .ls, .ls, .ls]⟩),(522826,⟨[.p (.j 0) 0, .p (.j 1) 0, .v, .v, .v],[],[.bx [.t (.j 2) 8, .t (.j 3) 2, .t (.j 4) 1, .t (.j 5) 1], .bx [.t (.j 6) 1, .t (.j 7) 1], .ls, .ls, .ls, .ls, .ls, .ls]⟩),(33552970,⟨[.p (.j 0) 0, .p (.j 1) 0, .t (.j 2) 1, .v, .v, .v],[],[.bx [.t (.j 3) 8, .t (.j 4) 2, .t (.j 5) 1, .t (.j 6) 1], .bx [.t (.j 7) 1, .t (.j 8) 1], .ls, .ls, .ls, .ls, .ls, .ls, .ls]⟩),(131066,⟨[.p (.j 0) 0, .p (.j 1) 0, .t (.j 2) 1, .v],[],[.bx [.t (.j 3) 8, .t (.j 4) 2, .t (.j 5) 1, .t (.j 6) 1], .bx [.t (.j 7) 1, .t (.j 8) 1], .ls, .ls, .ls, .ls, .ls, .ls, .ls]⟩),(32762,⟨[.p (.j 0) 0, .p (.j 1) 0, .t (.j 2) 1, .t (.j 3) 1, .v],[],[.bx [.t (.j 4) 8, .t (.j 5) 2, .t (.j 6) 1, .t (.j 7) 1], .bx [.t (.j 8) 1, .t (.j 9) 1], .ls, .ls, .ls, .ls, .ls, .ls, .ls, .ls]⟩),(4090,⟨[.p (.j 0) 0, .p (.j 1) 0, .v],[],[.bx [.t (.j 2) 8, .t (.j 3) 2, .t (.j 4) 1, .t (.j 5) 1], .bx [.t (.j 6) 1, .t (.j 7) 1], .ls, .ls, .ls, .ls, .ls, .ls]⟩),(2042,⟨[.p (.j 0) 0, .p (.j 1) 0, .v],[],[.bx [.t (.j 2) 8, .t (.j 3) 2, .t (.j 4) 1, .t (.j 5) 1], .bx [.t (.j 6) 1, .t (.j 7) 1], .ls, .ls, .ls, .ls, .ls, .ls]⟩),(506,⟨[.p (.j 0) 0, .p (.j 1) 0, .v],[],[.bx [.t (.j 2) 8, .t (.j 3) 2, .t (.j 4) 1, .t (.j 5) 1], .bx [.t (.j 6) 1, .t (.j 7) 1], .ls, .ls, .ls, .ls, .ls, .ls]⟩)] Try.func9 (by kernel_rfl) (by kernel_rfl) (by kernel_rfl) h
end Go.Proofs.Ytklmcfpgdfibnaa.P
