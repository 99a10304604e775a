/- A part of the proof. -/
import Derived.Test.YtklmcfpgdfibnaaChecked
import Derived.Test.YtklmcfpgdfibnaaRtPZ2
import Derived.KernelRfl
namespace Go.Proofs.Ytklmcfpgdfibnaa.P
open Go Go.Proofs.Ytklmcfpgdfibnaa Go.Proofs.Ytklmcfpgdfibnaa.Eng
set_option linter.unusedVariables false
set_option maxRecDepth 100000
def IK.sg:Sg:=⟨[(0,[.t 5 0])],[(1,[.t 8, .t 2, .t 1, .t 1]),(0,[.t 3])],[]⟩
def IK.txt (C:Ctx) (c0:List T) (K:J2):Prop:=
 cl2 C 74 EE.sg [] [] fun v1 d2=>
 BN (fun r5 x3 k4=>
 prP (bnI .lss (nx x3 0) (iv (cnt 5 c0))) fun t14_7=>
 gE t14_7 (
 gP t14_7 true (prP (bnI .lss (nx x3 0) (.int .i64 400))) fun t17_8=>
 prP (pk t14_7 t17_8 (.bool false)) fun t18_9=>
 AX t18_9 (
 ixW (cnt 5 c0) (nx x3 0) fun t25_10=>
 ldg c0 [] ((AA t25_10)*5) [.c, .c, .c, .c, .c] fun ts11=>
 cl2 C 76 EU.sg [(tv (nxT ts11 0)),(tv (nxT ts11 1)),(tv (nxT ts11 2)),(tv (nxT ts11 3)),(tv (nxT ts11 4))] [(nxc k4 1),(nxc k4 2),(nxc k4 3),(nxc k4 4)] fun v12 d13=>
 apW [T.c (nx v12 0),T.c (nx v12 1),T.l 1 (nxc d13 4)] false (cnt 3 (nxc k4 0)) (cnt 3 [T.c (nx v12 0),T.c (nx v12 1),T.l 1 (nxc d13 4)]) 40 (
 prP (bnI .add (nx x3 0) (.int .i64 1)) fun t20_14=>
 r5 [t20_14] [((nxc k4 0)++[T.c (nx v12 0),T.c (nx v12 1),T.l 1 (nxc d13 4)]),(nxc d13 0),(nxc d13 1),(nxc d13 2),(nxc d13 3)])) (
 K [] [(nxc k4 1),(nxc k4 2),(nxc k4 3),(nxc k4 4),(nxc k4 0)]))) [(.int .i64 0)] [[],(nxc d2 0),(nxc d2 1),(nxc d2 2),(nxc d2 3)]
theorem IK.cl2 {w0:World} {c0:List T} {K:J2} (h:IK.txt ⟨Try.prog,w0⟩ c0 K):Eng.cl2 ⟨Try.prog,w0⟩ 44 IK.sg [] [c0] K:=
 AU (C:=⟨Try.prog,w0⟩) (f:=44) (fn:=Try.f44) [(74,EE.sg),(76,EU.sg)] [(6,[0,0,0,6,14,31,63,127,127,0,0,1791,4095])] [(122,⟨[.t (.f 0) 5, .p (.j 0) 0, .p (.j 1) 0, .t (.j 2) 3, .v],[],[.bx [.z, .z, .z, .z], .bx [.t (.j 3) 8, .t (.j 4) 2, .t (.j 5) 1, .t (.j 6) 1], .ls, .ls, .ls, .ls, .ls]⟩)] Try.func44 (by kernel_rfl) (by kernel_rfl) (by kernel_rfl) h
def GC.sg:Sg:=⟨[(2,[.t 1 0, .v, .v])],[(1,[.t 8, .t 2, .t 1, .t 1])],[[.a 0, .v, .v]]⟩
def GC.txt (C:Ctx) (a0 a1:Value) (c0:List T) (K:J2):Prop:=
 cl2 C 108 HL.sg [a0,a1,(.int .i64 30)] [c0] fun v1 d2=>
 cl2 C 44 IK.sg [] [(nxc d2 0)] fun v3 d4=>
 K [(nx v1 0),(nx v1 1)] [(nxc d4 0),(nxc d4 1),(nxc d4 2),(nxc d4 3)]
theorem GC.cl2 {w0:World} {a0 a1:Value} {c0:List T} {K:J2} (h:GC.txt ⟨Try.prog,w0⟩ a0 a1 c0 K):Eng.cl2 ⟨Try.prog,w0⟩ 94 GC.sg [a0,a1] [c0] K:=
 AU (C:=⟨Try.prog,w0⟩) (f:=94) (fn:=Try.f94) [(108,HL.sg),(44,IK.sg)] [] [] Try.func94 (by kernel_rfl) (by kernel_rfl) (by kernel_rfl) h
def HT.sg:Sg:=⟨[(2,[.t 1 0, .v, .v])],[(1,[.t 8, .t 2, .t 1, .t 1])],[[.a 0, .v, .v]]⟩
def HT.txt (C:Ctx) (a0 a1:Value) (c0:List T) (K:J2):Prop:=
 cl2 C 94 GC.sg [a0,a1] [c0] fun v1 d2=>
 cl2 C 112 BT.sg [(nx v1 0),(nx v1 1),(.int .i64 8)] [c0] fun v3 d4=>
 cl2 C 112 BT.sg [(nx v3 1),(nx v3 2),(.int .i64 20)] [c0] fun v5 d6=>
 prP (bnI .eql (nx v5 0) (.int .i64 0)) fun t12_7=>
 AX t12_7 (
 ixW (cnt 8 (nxc d2 0)) (nx v3 0) fun t19_8=>
 ldc (nxc d2 0) [] (((AA t19_8)*8)+5) fun t21_9=>
 prP (bnI .add t21_9 (.int .i64 1)) fun t22_10=>
 ixW (cnt 8 (nxc d2 0)) (nx v3 0) fun t23_11=>
 stc (nxc d2 0) [] (((AA t23_11)*8)+5) t22_10 fun k12=>
 K [(nx v5 1),(nx v5 2)] [k12,(nxc d2 1),(nxc d2 2),(nxc d2 3)]) (
 prP (bnI .eql (nx v5 0) (.int .i64 1)) fun t26_13=>
 AX t26_13 (
 ixW (cnt 8 (nxc d2 0)) (nx v3 0) fun t30_14=>
 ldl (nxc d2 0) [] (((AA t30_14)*8)+6) 1 fun t32_15=>
 cl2 C 112 BT.sg [(nx v5 1),(nx v5 2),(.int .i64 40)] [c0] fun v16 d17=>
 ixW (cnt 1 (GL (nxc d2 0) [(((AA t30_14)*8)+6)])) (.int .i64 0) fun t35_18=>
 stc (nxc d2 0) [(((AA t30_14)*8)+6)] ((AA t35_18)*1) (nx v16 0) fun k19=>
 K [(nx v16 1),(nx v16 2)] [k19,(nxc d2 1),(nxc d2 2),(nxc d2 3)]) (
 prP (bnI .eql (nx v5 0) (.int .i64 2)) fun t37_20=>
 AX t37_20 (
 ixW (cnt 8 (nxc d2 0)) (nx v3 0) fun t44_21=>
 ldc (nxc d2 0) [] (((AA t44_21)*8)+1) fun t46_22=>
 cl2 C 61 DI.sg [(nx v3 0),t46_22] [] fun v23 d24=>
 apW [T.c (nx v23 0)] true (cnt 1 (nxc d2 2)) (cnt 1 [T.c (nx v23 0)]) 8 (
 K [(nx v5 1),(nx v5 2)] [(nxc d2 0),(nxc d2 1),((nxc d2 2)++[T.c (nx v23 0)]),(nxc d2 3)])) (
 prP (bnI .eql (nx v5 0) (.int .i64 3)) fun t52_26=>
 AX t52_26 (
 cl2 C 95 DN.sg [(nx v5 1),(nx v5 2),(.int .i64 2)] [c0] fun v27 d28=>
 cl2 C 140 B3.sg [(nx v27 1),(nx v27 2)] [c0,[T.c (.int .i64 0),T.c (.int .i64 9),T.c (.int .i64 (-1)),T.c (.int .i64 7)]] fun v29 d30=>
 ixW (cnt 2 (nxc d2 1)) (.int .i64 0) fun t61_31=>
 stg (nxc d2 1) [] ((AA t61_31)*2) [T.c (nx v27 0),T.c (nx v29 0)] fun k32=>
 K [(nx v29 1),(nx v29 2)] [(nxc d2 0),k32,(nxc d2 2),(nxc d2 3)]) (
 prP (bnI .eql (nx v5 0) (.int .i64 4)) fun t63_33=>
 AX t63_33 (
 cl2 C 139 EA.sg [(nx v5 1),(nx v5 2)] [c0,[T.c (.string {data:= #[]}),T.c (.string {data:= #[97]}),T.c (.string {data:= #[116,111,111,108,111,110,103,97,115,105,116,101]})]] fun v34 d35=>
 apW [T.c (nx v34 0)] true (cnt 1 (nxc d2 3)) (cnt 1 [T.c (nx v34 0)]) 16 (
 K [(nx v34 1),(nx v34 2)] [(nxc d2 0),(nxc d2 1),(nxc d2 2),((nxc d2 3)++[T.c (nx v34 0)])])) (
 prP (bnI .eql (nx v5 0) (.int .i64 5)) fun t73_36=>
 AX t73_36 (
 scW (cnt 8 (nxc d2 0)) none (some (nx v3 0)) fun l37 m38=>
 K [(nx v5 1),(nx v5 2)] [(GM (nxc d2 0) [] ((AA l37)*8) ((AA m38)*8)),(nxc d2 1),(nxc d2 2),(nxc d2 3)]) (
 prP (bnI .eql (nx v5 0) (.int .i64 6)) fun t80_39=>
 AX t80_39 (
 cl2 C 140 B3.sg [(nx v5 1),(nx v5 2)] [c0,[T.c (.int .i64 0),T.c (.int .i64 999),T.c (.int .i64 1000)]] fun v40 d41=>
 ixW (cnt 8 (nxc d2 0)) (nx v3 0) fun t87_42=>
 stc (nxc d2 0) [] (((AA t87_42)*8)+1) (nx v40 0) fun k43=>
 K [(nx v40 1),(nx v40 2)] [k43,(nxc d2 1),(nxc d2 2),(nxc d2 3)]) (
 K [(nx v5 1),(nx v5 2)] [(nxc d2 0),(nxc d2 1),(nxc d2 2),(nxc d2 3)])))))))
theorem HT.cl2 {w0:World} {a0 a1:Value} {c0:List T} {K:J2} (h:HT.txt ⟨Try.prog,w0⟩ a0 a1 c0 K):Eng.cl2 ⟨Try.prog,w0⟩ 96 HT.sg [a0,a1] [c0] K:=
 AU (C:=⟨Try.prog,w0⟩) (f:=96) (fn:=Try.f96) [(94,GC.sg),(112,BT.sg),(61,DI.sg),(95,DN.sg),(140,B3.sg),(139,EA.sg)] [(5,[0,1,0,0,8,0,56,120,248,504,1023,2047,4095]),(7,[0,1,0,7,15,31,0,64,255,511]),(9,[0,1,0,0,8,0,56,120,248,508,1020,2047,4095,8191]),(11,[0,1,0,4,0,0,60,124,255,511]),(13,[0,1,0,0,12,28,63,127,255]),(17,[0,1,0,0,0,24,63,127,255])] [] Try.func96 (by kernel_rfl) (by kernel_rfl) (by kernel_rfl) h
def J5.sg:Sg:=⟨[(0,[.t 1 0]),(0,[.v])],[(0,[.v])],[]⟩
def J5.txt (C:Ctx) (a0:Value) (c0:List T) (K:J2):Prop:=
 BN (fun r3 x1 k2=>
 prP (bnI .lss (nx x1 1) (iv (cnt 1 c0))) fun t9_5=>
 AX t9_5 (
 ixW (cnt 1 c0) (nx x1 1) fun t14_6=>
 ldc c0 [] ((AA t14_6)*1) fun t15_7=>
 prP (bnI .eql t15_7 (nx x1 0)) fun t17_8=>
 AX t17_8 (
 K [(.bool true)] []) (
 prP (bnI .add (nx x1 1) (.int .i64 1)) fun t11_9=>
 r3 [(nx x1 0),t11_9] [])) (
 K [(.bool false)] [])) [a0,(.int .i64 0)] []
theorem J5.cl2 {w0:World} {a0:Value} {c0:List T} {K:J2} (h:J5.txt ⟨Try.prog,w0⟩ a0 c0 K):Eng.cl2 ⟨Try.prog,w0⟩ 25 J5.sg [a0] [c0] K:=
 AU (C:=⟨Try.prog,w0⟩) (f:=25) (fn:=Try.f25) [] [] [(26,⟨[.t (.f 0) 1, .v, .v],[],[]⟩)] Try.func25 (by kernel_rfl) (by kernel_rfl) (by kernel_rfl) h
def FW.sg:Sg:=⟨[(1,[.t 8 0, .t 2 0, .t 1 0, .t 1 0])],[(0,[.t 1])],[]⟩
def FW.txt (C:Ctx) (c0 c1 c2 c3:List T) (K:J2):Prop:=
 BN (fun r3 x1 k2=>
 prP (bnI .lss (nx x1 1) (nx x1 0)) fun t10_19=>
 AX t10_19 (
 BV (fun x21 k22=>
 prP (bnI .add (nx x21 1) (.int .i64 1)) fun t27_31=>
 r3 [(nx x21 0),t27_31] [(nxc k22 0)]) fun j23=>
 ixW (cnt 8 c0) (nx x1 1) fun t12_24=>
 ldg c0 [] ((AA t12_24)*8) [.c, .c, .c, .c, .c, .c, .l 1, .c] fun ts25=>
 prP (bnI .lss (nx x1 1) (.int .i64 8)) fun t15_26=>
 gE t15_26 (
 gE t15_26 (
 prP (pk t15_26 (tv (nxT ts25 0)) (.bool false)) fun t19_27=>
 AX t19_27 (
 cl2 C 98 DY.sg [(nx x1 1),(tv (nxT ts25 1))] [] fun v28 d29=>
 apW [T.c (nx v28 0)] true (cnt 1 (nxc k2 0)) (cnt 1 [T.c (nx v28 0)]) 8 (
 j23 [(nx x1 0),(nx x1 1)] [((nxc k2 0)++[T.c (nx v28 0)])])) (
 j23 [(nx x1 0),(nx x1 1)] [(nxc k2 0)])))) (
 K [] [(nxc k2 0)])) [(iv (cnt 8 c0)),(.int .i64 0)] [[]]
theorem FW.cl2 {w0:World} {c0 c1 c2 c3:List T} {K:J2} (h:FW.txt ⟨Try.prog,w0⟩ c0 c1 c2 c3 K):Eng.cl2 ⟨Try.prog,w0⟩ 40 FW.sg [] [c0,c1,c2,c3] K:=
 AU (C:=⟨Try.prog,w0⟩) (f:=40) (fn:=Try.f40) [(98,DY.sg)] [] [(467,⟨[.t (.j 0) 1, .t (.f 0) 8, .v, .v],[],[.ls]⟩),(58,⟨[.t (.j 0) 1, .t (.f 0) 8, .v, .v],[],[.ls]⟩)] Try.func40 (by kernel_rfl) (by kernel_rfl) (by kernel_rfl) h
end Go.Proofs.Ytklmcfpgdfibnaa.P
