/- A part of the proof. -/
import Derived.Test.YthapfcoajahegaaDoorChecked
import Derived.Test.YthapfcoajahegaaDoorReEngM5
import Derived.KernelRfl
namespace Go.Proofs.YthapfcoajahegaaDoor.P
open Go Go.Proofs.YthapfcoajahegaaDoor Go.Proofs.YthapfcoajahegaaDoor.Eng
set_option linter.unusedVariables false
set_option maxRecDepth 100000
def KD.sg:Sg:=⟨[(0,[.t 1 0])],[(0,[.v])],[]⟩
def KD.txt (C:Ctx) (c0:List T) (K:J2):Prop:=
 prP (bnI .gtr (iv (cnt 1 c0)) (.int .i64 1048576)) fun t5_1=>
 K [t5_1] []
theorem KD.cl2 {w0:World} {c0:List T} {K:J2} (h:KD.txt ⟨Tryd.prog,w0⟩ c0 K):Eng.cl2 ⟨Tryd.prog,w0⟩ 4 KD.sg [] [c0] K:=
 AX (C:=⟨Tryd.prog,w0⟩) (f:=4) (fn:=Tryd.f4) [] [] [] Tryd.func4 (by kernel_rfl) (by kernel_rfl) (by kernel_rfl) h
def JR.sg:Sg:=⟨[(0,[.t 1 0]),(0,[.v])],[(0,[.v])],[]⟩
def JR.txt (C:Ctx) (a0:Value) (c0:List T) (K:J2):Prop:=
 prP (bnI .lss a0 (iv (cnt 1 c0))) fun t8_1=>
 AY t8_1 (
 ixW (cnt 1 c0) a0 fun t11_2=>
 ldc c0 [] ((AB t11_2)*1) fun t12_3=>
 prP (cvI .i64 t12_3) fun t13_4=>
 K [t13_4] []) (
 prP (bnI .mul a0 (.int .i64 37)) fun t15_5=>
 prP (bnI .mul (iv (cnt 1 c0)) (.int .i64 11)) fun t18_6=>
 prP (bnI .add t15_5 t18_6) fun t19_7=>
 prP (bnI .rem t19_7 (.int .i64 256)) fun t20_8=>
 K [t20_8] [])
theorem JR.cl2 {w0:World} {a0:Value} {c0:List T} {K:J2} (h:JR.txt ⟨Tryd.prog,w0⟩ a0 c0 K):Eng.cl2 ⟨Tryd.prog,w0⟩ 5 JR.sg [a0] [c0] K:=
 AX (C:=⟨Tryd.prog,w0⟩) (f:=5) (fn:=Tryd.f5) [] [] [] Tryd.func5 (by kernel_rfl) (by kernel_rfl) (by kernel_rfl) h
def G9.sg:Sg:=⟨[(0,[.v])],[(1,[.v, .v, .v, .v, .v, .v, .t 1, .v])],[]⟩
def G9.txt (C:Ctx) (a0:Value) (K:J2):Prop:=
 K [(.bool false),a0,(.int .i64 0),(.int .i64 0),(.int .i64 0),(.int .i64 0),(.bool false)] [[T.c (.int .i64 (-1)),T.c (.int .i64 (-1)),T.c (.int .i64 (-1))]]
theorem G9.cl2 {w0:World} {a0:Value} {K:J2} (h:G9.txt ⟨Tryd.prog,w0⟩ a0 K):Eng.cl2 ⟨Tryd.prog,w0⟩ 13 G9.sg [a0] [] K:=
 AX (C:=⟨Tryd.prog,w0⟩) (f:=13) (fn:=Tryd.f13) [] [] [] Tryd.func13 (by kernel_rfl) (by kernel_rfl) (by kernel_rfl) h
def GR.sg:Sg:=⟨[],[(1,[.t 8, .t 2, .t 1, .t 1])],[]⟩
def GR.txt (C:Ctx) (K:J2):Prop:=
 mkW 16 (.int .i64 8) (.int .i64 8) fun n1=>
 A6 (fun r4 x2 k3=>
 prP (bnI .lss (nx x2 0) (.int .i64 8)) fun t5_11=>
 AY t5_11 (
 cl2 C 13 G9.sg [(.int .i64 0)] [] fun v12 d13=>
 apW [T.c (nx v12 0),T.c (nx v12 1),T.c (nx v12 2),T.c (nx v12 3),T.c (nx v12 4),T.c (nx v12 5),T.l 1 (nxc d13 0),T.c (nx v12 6)] false (cnt 8 (nxc k3 0)) (cnt 8 [T.c (nx v12 0),T.c (nx v12 1),T.c (nx v12 2),T.c (nx v12 3),T.c (nx v12 4),T.c (nx v12 5),T.l 1 (nxc d13 0),T.c (nx v12 6)]) 80 (
 prP (bnI .add (nx x2 0) (.int .i64 1)) fun t12_14=>
 r4 [t12_14] [((nxc k3 0)++[T.c (nx v12 0),T.c (nx v12 1),T.c (nx v12 2),T.c (nx v12 3),T.c (nx v12 4),T.c (nx v12 5),T.l 1 (nxc d13 0),T.c (nx v12 6)]),(nxc k3 1)])) (
 K [] [(nxc k3 0),(nxc k3 1),[],[]])) [(.int .i64 0)] [[],(VE (AB n1) [T.c (.bool false),T.c (.int .i64 0)])]
theorem GR.cl2 {w0:World} {K:J2} (h:GR.txt ⟨Tryd.prog,w0⟩ K):Eng.cl2 ⟨Tryd.prog,w0⟩ 8 GR.sg [] [] K:=
 AX (C:=⟨Tryd.prog,w0⟩) (f:=8) (fn:=Tryd.f8) [(13,G9.sg)] [(4,[0,1,0,4,15,31,63])] [(58,⟨[.p (.j 0) 0, .p (.j 1) 0, .v],[],[.bx [.z, .z, .z, .z], .bx [.t (.j 2) 8, .t (.j 3) 2, .z, .z], .ls, .ls]⟩)] Tryd.func8 (by kernel_rfl) (by kernel_rfl) (by kernel_rfl) h
def YF.sg:Sg:=⟨[(0,[.t 5 0])],[(9,[])],[]⟩
def GB.sg:Sg:=⟨[(1,[.t 8 0, .t 2 0, .t 1 0, .t 1 0])],[(0,[.v])],[]⟩
def GB.txt (C:Ctx) (c0 c1 c2 c3:List T) (K:J2):Prop:=
 A6 (fun r3 x1 k2=>
 prP (bnI .lss (nx x1 1) (nx x1 0)) fun t9_5=>
 AY t9_5 (
 ixW (cnt 8 c0) (nx x1 1) fun t11_6=>
 ldg c0 [] ((AB t11_6)*8) [.c, .c, .c, .c, .c, .c, .l 1, .c] fun ts7=>
 prP (bnI .lss (nx x1 1) (.int .i64 8)) fun t14_8=>
 gE t14_8 (
 gE t14_8 (
 gP t14_8 true (prP (un .not (tv (nxT ts7 0)))) fun t18_9=>
 prP (pk t14_8 t18_9 (.bool false)) fun t19_10=>
 gE t19_10 (
 gE t19_10 (
 gP t19_10 true (prP (bnI .lss (tv (nxT ts7 1)) (.int .i64 999))) fun t23_11=>
 prP (pk t19_10 t23_11 (.bool false)) fun t24_12=>
 AY t24_12 (
 K [(nx x1 1)] []) (
 prP (bnI .add (nx x1 1) (.int .i64 1)) fun t26_13=>
 r3 [(nx x1 0),t26_13] [])))))) (
 K [(.int .i64 (-1))] [])) [(iv (cnt 8 c0)),(.int .i64 0)] []
theorem GB.cl2 {w0:World} {c0 c1 c2 c3:List T} {K:J2} (h:GB.txt ⟨Tryd.prog,w0⟩ c0 c1 c2 c3 K):Eng.cl2 ⟨Tryd.prog,w0⟩ 22 GB.sg [] [c0,c1,c2,c3] K:=
 AX (C:=⟨Tryd.prog,w0⟩) (f:=22) (fn:=Tryd.f22) [] [] [(26,⟨[.t (.f 0) 8, .v, .v],[],[]⟩)] Tryd.func22 (by kernel_rfl) (by kernel_rfl) (by kernel_rfl) h
def HJ.sg:Sg:=⟨[(0,[.t 1 0]),(0,[.v])],[(0,[.v])],[]⟩
def HJ.txt (C:Ctx) (a0:Value) (c0:List T) (K:J2):Prop:=
 A6 (fun r3 x1 k2=>
 prP (bnI .lss (nx x1 2) (nx x1 1)) fun t10_5=>
 AY t10_5 (
 ixW (cnt 1 c0) (nx x1 2) fun t12_6=>
 ldc c0 [] ((AB t12_6)*1) fun t13_7=>
 prP (bnS .eql t13_7 (nx x1 0)) fun t16_8=>
 AY t16_8 (
 K [(nx x1 2)] []) (
 prP (bnI .add (nx x1 2) (.int .i64 1)) fun t18_9=>
 r3 [(nx x1 0),(nx x1 1),t18_9] [])) (
 K [(.int .i64 (-1))] [])) [a0,(iv (cnt 1 c0)),(.int .i64 0)] []
theorem HJ.cl2 {w0:World} {a0:Value} {c0:List T} {K:J2} (h:HJ.txt ⟨Tryd.prog,w0⟩ a0 c0 K):Eng.cl2 ⟨Tryd.prog,w0⟩ 23 HJ.sg [a0] [c0] K:=
 AX (C:=⟨Tryd.prog,w0⟩) (f:=23) (fn:=Tryd.f23) [] [] [(26,⟨[.v, .t (.f 0) 1, .v, .v],[],[]⟩)] Tryd.func23 (by kernel_rfl) (by kernel_rfl) (by kernel_rfl) h
def GL.sg:Sg:=⟨[(0,[.v]),(0,[.v]),(0,[.v])],[(0,[.v])],[]⟩
def GL.txt (C:Ctx) (a0 a1 a2:Value) (K:J2):Prop:=
 prP (bnI .geq a0 a1) fun t9_1=>
 gE t9_1 (
 gE t9_1 (
 gP t9_1 true (prP (bnI .leq a0 a2)) fun t13_2=>
 prP (pk t9_1 t13_2 (.bool false)) fun t14_3=>
 K [t14_3] []))
theorem GL.cl2 {w0:World} {a0 a1 a2:Value} {K:J2} (h:GL.txt ⟨Tryd.prog,w0⟩ a0 a1 a2 K):Eng.cl2 ⟨Tryd.prog,w0⟩ 11 GL.sg [a0,a1,a2] [] K:=
 AX (C:=⟨Tryd.prog,w0⟩) (f:=11) (fn:=Tryd.f11) [] [] [] Tryd.func11 (by kernel_rfl) (by kernel_rfl) (by kernel_rfl) h
def BK.sg:Sg:=⟨[(0,[.v])],[(1,[.v, .v, .t 1])],[]⟩
def BK.txt (C:Ctx) (a0:Value) (K:J2):Prop:=
 K [a0,(.int .i64 0)] [[]]
theorem BK.cl2 {w0:World} {a0:Value} {K:J2} (h:BK.txt ⟨Tryd.prog,w0⟩ a0 K):Eng.cl2 ⟨Tryd.prog,w0⟩ 20 BK.sg [a0] [] K:=
 AX (C:=⟨Tryd.prog,w0⟩) (f:=20) (fn:=Tryd.f20) [] [] [] Tryd.func20 (by kernel_rfl) (by kernel_rfl) (by kernel_rfl) h
def GX.sg:Sg:=⟨[(0,[.v]),(0,[.v])],[(0,[.v])],[]⟩
def GX.txt (C:Ctx) (a0 a1:Value) (K:J2):Prop:=
 cl2 C 11 GL.sg [a0,(.int .i64 0),(.int .i64 7)] [] fun v1 d2=>
 prP (un .not (nx v1 0)) fun t7_4=>
 gE t7_4 (
 gP t7_4 false ((fun K=>cl2 C 11 GL.sg [a1,(.int .i64 1),(.int .i64 999)] [] fun v5 d6=>K (nx v5 0))) fun t10_7=>
 gP t7_4 false (prP (un .not t10_7)) fun t11_8=>
 prP (pk t7_4 (.bool true) t11_8) fun t12_9=>
 AY t12_9 (
 K [(.int .i64 (-1))] []) (
 prP (bnI .mul (.int .i64 8) a1) fun t15_10=>
 prP (bnI .add a0 t15_10) fun t16_11=>
 K [t16_11] []))
theorem GX.cl2 {w0:World} {a0 a1:Value} {K:J2} (h:GX.txt ⟨Tryd.prog,w0⟩ a0 a1 K):Eng.cl2 ⟨Tryd.prog,w0⟩ 24 GX.sg [a0,a1] [] K:=
 AX (C:=⟨Tryd.prog,w0⟩) (f:=24) (fn:=Tryd.f24) [(11,GL.sg)] [] [] Tryd.func24 (by kernel_rfl) (by kernel_rfl) (by kernel_rfl) h
def EH.sg:Sg:=⟨[(2,[.t 8 2, .t 2 0, .t 1 0, .t 1 2]),(0,[.v])],[(1,[.v, .v, .t 1])],[[.t 8, .a 1, .a 2, .t 1]]⟩
def EH.txt (C:Ctx) (a0:Value) (c0 c1 c2 c3:List T) (K:J2):Prop:=
 cl2 C 22 GB.sg [] [c0,c1,c2,c3] fun v1 d2=>
 cl2 C 23 HJ.sg [a0] [c3] fun v4 d5=>
 BL (fun x8 k9=>
 ixW (cnt 8 (nxc k9 0)) (nx x8 0) fun t63_27=>
 ldc (nxc k9 0) [] (((AB t63_27)*8)+1) fun t65_28=>
 prP (bnI .add t65_28 (.int .i64 1)) fun t66_29=>
 ixW (cnt 8 (nxc k9 0)) (nx x8 0) fun t76_30=>
 stg (nxc k9 0) [] ((AB t76_30)*8) [T.c (.bool true),T.c t66_29,T.c (nx x8 1),T.c (.int .i64 1),T.c (.int .i64 0),T.c (.int .i64 1),T.l 1 [T.c (.int .i64 (-1)),T.c (.int .i64 (-1)),T.c (.int .i64 (-1))],T.c (.bool false)] fun k31=>
 cl2 C 24 GX.sg [(nx x8 0),t66_29] [] fun v32 d33=>
 K [(.int .i64 0),(nx v32 0)] [[],k31,(nxc k9 1)]) fun j10=>
 prP (lnS a0) fun t20_11=>
 cl2 C 11 GL.sg [t20_11,(.int .i64 1),(.int .i64 8)] [] fun v12 d13=>
 prP (un .not (nx v12 0)) fun t22_15=>
 AY t22_15 (
 cl2 C 20 BK.sg [(.int .i64 2)] [] fun v16 d17=>
 K [(nx v16 0),(nx v16 1)] [(nxc d17 0),c0,c3]) (
 prP (bnI .lss (nx v1 0) (.int .i64 0)) fun t26_18=>
 AY t26_18 (
 cl2 C 20 BK.sg [(.int .i64 3)] [] fun v19 d20=>
 K [(nx v19 0),(nx v19 1)] [(nxc d20 0),c0,c3]) (
 prP (bnI .lss (nx v4 0) (.int .i64 0)) fun t30_21=>
 gE t30_21 (
 gE t30_21 (
 gE t30_21 (
 gE t30_21 (
 gE t30_21 (
 gP t30_21 true (prP (bnI .geq (iv (cnt 1 c3)) (.int .i64 6))) fun t37_22=>
 prP (pk t30_21 t37_22 (.bool false)) fun t38_23=>
 AY t38_23 (
 cl2 C 20 BK.sg [(.int .i64 6)] [] fun v24 d25=>
 K [(nx v24 0),(nx v24 1)] [(nxc d25 0),c0,c3]) (
 prP (bnI .lss (nx v4 0) (.int .i64 0)) fun t42_26=>
 AY t42_26 (
 apW [T.c a0] true (cnt 1 c3) (cnt 1 [T.c a0]) 16 (
 j10 [(nx v1 0),(iv (cnt 1 c3)),(.int .i64 0),(.int .i64 0)] [c0,(c3++[T.c a0])])) (
 j10 [(nx v1 0),(nx v4 0),(.int .i64 0),(.int .i64 0)] [c0,c3])))))))))
theorem EH.cl2 {w0:World} {a0:Value} {c0 c1 c2 c3:List T} {K:J2} (h:EH.txt ⟨Tryd.prog,w0⟩ a0 c0 c1 c2 c3 K):Eng.cl2 ⟨Tryd.prog,w0⟩ 14 EH.sg [a0] [c0,c1,c2,c3] K:=
 AX (C:=⟨Tryd.prog,w0⟩) (f:=14) (fn:=Tryd.f14) [(22,GB.sg),(23,HJ.sg),(11,GL.sg),(20,BK.sg),(24,GX.sg)] [] [(15,⟨[.p (.j 0) 0, .p (.j 1) 0, .v, .v],[.p (.j 0) 0, .w, .t (.f 0) 2, .t (.f 1) 1, .w],[.bx [.t (.j 2) 8, .t (.f 0) 2, .t (.f 1) 1, .t (.j 3) 1], .bx [.v, .v, .z], .ls, .ls]⟩)] Tryd.func14 (by kernel_rfl) (by kernel_rfl) (by kernel_rfl) h
def BM.sg:Sg:=⟨[(1,[.t 8 0, .t 2 0, .t 1 0, .t 1 0]),(0,[.v])],[(0,[.v])],[]⟩
def BM.txt (C:Ctx) (a0:Value) (c0 c1 c2 c3:List T) (K:J2):Prop:=
 prP (bnI .lss a0 (.int .i64 8)) fun t8_1=>
 gE t8_1 (
 gE t8_1 (
 gE t8_1 (
 gP t8_1 false (prP (bnI .neq (iv (cnt 8 c0)) (.int .i64 8))) fun t13_2=>
 prP (pk t8_1 (.bool true) t13_2) fun t14_3=>
 AY t14_3 (
 K [(.int .i64 (-1))] []) (
 prP (bnI .rem a0 (.int .i64 8)) fun t16_4=>
 ixW (cnt 8 c0) t16_4 fun t20_5=>
 ldg c0 [] ((AB t20_5)*8) [.c, .c, .c, .c, .c, .c, .l 1, .c] fun ts6=>
 prP (un .not (tv (nxT ts6 0))) fun t24_7=>
 gE t24_7 (
 gE t24_7 (
 gE t24_7 (
 gP t24_7 false (prP (bnI .quo a0 (.int .i64 8))) fun t29_8=>
 gP t24_7 false (prP (bnI .neq (tv (nxT ts6 1)) t29_8)) fun t30_9=>
 prP (pk t24_7 (.bool true) t30_9) fun t31_10=>
 AY t31_10 (
 K [(.int .i64 (-1))] []) (
 K [t16_4] []))))))))
theorem BM.cl2 {w0:World} {a0:Value} {c0 c1 c2 c3:List T} {K:J2} (h:BM.txt ⟨Tryd.prog,w0⟩ a0 c0 c1 c2 c3 K):Eng.cl2 ⟨Tryd.prog,w0⟩ 25 BM.sg [a0] [c0,c1,c2,c3] K:=
 AX (C:=⟨Tryd.prog,w0⟩) (f:=25) (fn:=Tryd.f25) [] [] [] Tryd.func25 (by kernel_rfl) (by kernel_rfl) (by kernel_rfl) h
def DW.sg:Sg:=⟨[(2,[.t 8 2, .t 2 0, .t 1 0, .t 1 0]),(0,[.v])],[],[[.t 8, .a 1, .a 2, .a 3]]⟩
def DW.txt (C:Ctx) (a0:Value) (c0 c1 c2 c3:List T) (K:J2):Prop:=
 cl2 C 25 BM.sg [a0] [c0,c1,c2,c3] fun v1 d2=>
 prP (bnI .geq (nx v1 0) (.int .i64 0)) fun t11_4=>
 AY t11_4 (
 ixW (cnt 8 c0) (nx v1 0) fun t17_5=>
 ldc c0 [] (((AB t17_5)*8)+5) fun t19_6=>
 prP (bnI .add t19_6 (.int .i64 1)) fun t20_7=>
 ixW (cnt 8 c0) (nx v1 0) fun t21_8=>
 stc c0 [] (((AB t21_8)*8)+5) t20_7 fun k9=>
 K [] [k9]) (
 K [] [c0])
theorem DW.cl2 {w0:World} {a0:Value} {c0 c1 c2 c3:List T} {K:J2} (h:DW.txt ⟨Tryd.prog,w0⟩ a0 c0 c1 c2 c3 K):Eng.cl2 ⟨Tryd.prog,w0⟩ 26 DW.sg [a0] [c0,c1,c2,c3] K:=
 AX (C:=⟨Tryd.prog,w0⟩) (f:=26) (fn:=Tryd.f26) [(25,BM.sg)] [] [] Tryd.func26 (by kernel_rfl) (by kernel_rfl) (by kernel_rfl) h
def CA.sg:Sg:=⟨[(0,[.t 1 0])],[(0,[.t 1])],[]⟩
def CA.txt (C:Ctx) (c0:List T) (K:J2):Prop:=
 apW c0 true 0 (cnt 1 c0) 8 (
 K [] [([]++c0)])
theorem CA.cl2 {w0:World} {c0:List T} {K:J2} (h:CA.txt ⟨Tryd.prog,w0⟩ c0 K):Eng.cl2 ⟨Tryd.prog,w0⟩ 38 CA.sg [] [c0] K:=
 AX (C:=⟨Tryd.prog,w0⟩) (f:=38) (fn:=Tryd.f38) [] [] [] Tryd.func38 (by kernel_rfl) (by kernel_rfl) (by kernel_rfl) h
def GS.sg:Sg:=⟨[(0,[.t 1 0]),(0,[.v])],[(0,[.t 1])],[]⟩
def GS.txt (C:Ctx) (a0:Value) (c0:List T) (K:J2):Prop:=
 A6 (fun r3 x1 k2=>
 prP (bnI .lss (nx x1 2) (nx x1 1)) fun t11_15=>
 AY t11_15 (
 BL (fun x17 k18=>
 prP (bnI .add (nx x17 2) (.int .i64 1)) fun t21_23=>
 r3 [(nx x17 0),(nx x17 1),t21_23] [(nxc k18 0)]) fun j19=>
 ixW (cnt 1 c0) (nx x1 2) fun t12_20=>
 ldc c0 [] ((AB t12_20)*1) fun t13_21=>
 prP (bnI .neq t13_21 (nx x1 0)) fun t16_22=>
 AY t16_22 (
 apW [T.c t13_21] true (cnt 1 (nxc k2 0)) (cnt 1 [T.c t13_21]) 8 (
 j19 [(nx x1 0),(nx x1 1),(nx x1 2)] [((nxc k2 0)++[T.c t13_21])])) (
 j19 [(nx x1 0),(nx x1 1),(nx x1 2)] [(nxc k2 0)])) (
 K [] [(nxc k2 0)])) [a0,(iv (cnt 1 c0)),(.int .i64 0)] [[]]
theorem GS.cl2 {w0:World} {a0:Value} {c0:List T} {K:J2} (h:GS.txt ⟨Tryd.prog,w0⟩ a0 c0 K):Eng.cl2 ⟨Tryd.prog,w0⟩ 39 GS.sg [a0] [c0] K:=
 AX (C:=⟨Tryd.prog,w0⟩) (f:=39) (fn:=Tryd.f39) [] [] [(467,⟨[.v, .t (.j 0) 1, .t (.f 0) 1, .v, .v],[],[.ls]⟩),(58,⟨[.v, .t (.j 0) 1, .t (.f 0) 1, .v, .v],[],[.ls]⟩)] Tryd.func39 (by kernel_rfl) (by kernel_rfl) (by kernel_rfl) h
def DY.sg:Sg:=⟨[(2,[.t 8 2, .t 2 0, .t 1 2, .t 1 0]),(0,[.t 1 0])],[(0,[.t 1])],[[.t 8, .a 1, .t 1, .a 3]]⟩
def DY.txt (C:Ctx) (c0 c1 c2 c3 c4:List T) (K:J2):Prop:=
 cl2 C 38 CA.sg [] [c4] fun v1 d2=>
 A6 (fun r5 x3 k4=>
 prP (bnI .gtr (iv (AB (nx x3 0))) (.int .i64 0)) fun t16_51=>
 gE t16_51 (
 gE t16_51 (
 gP t16_51 true (prP (bnI .leq (iv (cnt 1 (nxc k4 0))) (.int .i64 8))) fun t20_52=>
 prP (pk t16_51 t20_52 (.bool false)) fun t21_53=>
 AY t21_53 (
 ixW (AB (nx x3 0)) (.int .i64 0) fun t23_54=>
 ldc (nxc k4 1) [] ((AB (nx x3 1))+((AB t23_54)*1)) fun t24_55=>
 scW (AB (nx x3 0)) (some (.int .i64 1)) none fun l56 m57=>
 cl2 C 25 BM.sg [t24_55] [(nxc k4 2),c1,(nxc k4 3),c3] fun v58 d59=>
 prP (bnI .lss (nx v58 0) (.int .i64 0)) fun t33_61=>
 AY t33_61 (
 r5 [(iv (AB m57)),(iv ((AB (nx x3 1))+((AB l56)*1)))] [(nxc k4 0),(nxc k4 1),(nxc k4 2),(nxc k4 3)]) (
 ixW (cnt 8 (nxc k4 2)) (nx v58 0) fun t39_62=>
 ldc (nxc k4 2) [] (((AB t39_62)*8)+5) fun t43_63=>
 prP (bnI .sub t43_63 (.int .i64 1)) fun t44_64=>
 stc (nxc k4 2) [] (((AB t39_62)*8)+5) t44_64 fun k65=>
 ldc k65 [] (((AB t39_62)*8)+5) fun t51_66=>
 prP (bnI .gtr t51_66 (.int .i64 0)) fun t52_67=>
 gE t52_67 (
 gE t52_67 (
 gE t52_67 (
 gP t52_67 true (ldc k65 [] (((AB t39_62)*8)+7)) fun t57_68=>
 gP t52_67 true (prP (un .not t57_68)) fun t58_69=>
 prP (pk t52_67 t58_69 (.bool false)) fun t59_70=>
 AY t59_70 (
 stc k65 [] (((AB t39_62)*8)+7) (.bool true) fun k71=>
 apW [T.c t24_55] true (cnt 1 (nxc k4 3)) (cnt 1 [T.c t24_55]) 8 (
 r5 [(iv (AB m57)),(iv ((AB (nx x3 1))+((AB l56)*1)))] [(nxc k4 0),(nxc k4 1),k71,((nxc k4 3)++[T.c t24_55])])) (
 ldc k65 [] (((AB t39_62)*8)+5) fun t77_72=>
 prP (bnI .leq t77_72 (.int .i64 0)) fun t78_73=>
 AY t78_73 (
 apW [T.c t24_55] true (cnt 1 (nxc k4 0)) (cnt 1 [T.c t24_55]) 8 (
 ldl k65 [] (((AB t39_62)*8)+6) 1 fun t86_74=>
 A6 (fun r77 x75 k76=>
 prP (bnI .lss (nx x75 6) (nx x75 5)) fun t89_79=>
 AY t89_79 (
 BL (fun x81 k82=>
 prP (bnI .add (nx x81 6) (.int .i64 1)) fun t98_87=>
 r77 [(iv (AB (nx x81 0))),(iv (AB (nx x81 1))),(nx x81 2),(iv (AB (nx x81 3))),(iv (AB (nx x81 4))),(nx x81 5),t98_87] [(nxc k82 0),(nxc k82 1),(nxc k82 2),(nxc k82 3)]) fun j83=>
 ixW (cnt 1 (L5 (nxc k76 2) [(AB (nx x75 4))])) (nx x75 6) fun t90_84=>
 ldc (nxc k76 2) [(AB (nx x75 4))] ((AB t90_84)*1) fun t91_85=>
 prP (bnI .geq t91_85 (.int .i64 0)) fun t93_86=>
 AY t93_86 (
 apW [T.c t91_85] true (AB (nx x75 0)) (cnt 1 [T.c t91_85]) 8 (
 j83 [(iv (cnt 1 ((MJ (nxc k76 1) [] (AB (nx x75 1)) ((AB (nx x75 0))*1))++[T.c t91_85]))),(iv 0),(nx x75 2),(iv (AB (nx x75 3))),(iv (AB (nx x75 4))),(nx x75 5),(nx x75 6)] [(nxc k76 0),((MJ (nxc k76 1) [] (AB (nx x75 1)) ((AB (nx x75 0))*1))++[T.c t91_85]),(nxc k76 2),(nxc k76 3)])) (
 j83 [(iv (AB (nx x75 0))),(iv (AB (nx x75 1))),(nx x75 2),(iv (AB (nx x75 3))),(iv (AB (nx x75 4))),(nx x75 5),(nx x75 6)] [(nxc k76 0),(nxc k76 1),(nxc k76 2),(nxc k76 3)])) (
 cl2 C 39 GS.sg [(nx x75 2)] [(nxc k76 3)] fun v88 d89=>
 ldc (nxc k76 2) [] ((AB (nx x75 3))+1) fun t112_90=>
 cl2 C 13 G9.sg [t112_90] [] fun v91 d92=>
 stg (nxc k76 2) [] (AB (nx x75 3)) [T.c (nx v91 0),T.c (nx v91 1),T.c (nx v91 2),T.c (nx v91 3),T.c (nx v91 4),T.c (nx v91 5),T.l 1 (nxc d92 0),T.c (nx v91 6)] fun k93=>
 r5 [(iv (AB (nx x75 0))),(iv (AB (nx x75 1)))] [(nxc k76 0),(nxc k76 1),k93,(nxc d89 0)])) [(iv (AB m57)),(iv ((AB (nx x3 1))+((AB l56)*1))),t24_55,(iv ((AB t39_62)*8)),(iv (((AB t39_62)*8)+6)),(iv (cnt 1 (L5 k65 [(((AB t39_62)*8)+6)]))),(.int .i64 0)] [((nxc k4 0)++[T.c t24_55]),(nxc k4 1),k65,(nxc k4 3)])) (
 r5 [(iv (AB m57)),(iv ((AB (nx x3 1))+((AB l56)*1)))] [(nxc k4 0),(nxc k4 1),k65,(nxc k4 3)]))))))) (
 K [] [(nxc k4 0),(nxc k4 2),(nxc k4 3)])))) [(iv (cnt 1 (nxc d2 0))),(iv 0)] [[],(nxc d2 0),c0,c2]
theorem DY.cl2 {w0:World} {c0 c1 c2 c3 c4:List T} {K:J2} (h:DY.txt ⟨Tryd.prog,w0⟩ c0 c1 c2 c3 c4 K):Eng.cl2 ⟨Tryd.prog,w0⟩ 27 DY.sg [] [c0,c1,c2,c3,c4] K:=
 AX (C:=⟨Tryd.prog,w0⟩) (f:=27) (fn:=Tryd.f27) [(38,CA.sg),(25,BM.sg),(39,GS.sg),(13,G9.sg)] [] [(126613331,⟨[.p (.j 0) 0, .t (.j 1) 1, .s (.j 2) 0 1, .v, .e (.j 3) 0, .n (.j 3) 1 1, .v, .v],[.p (.j 0) 0, .w, .t (.f 0) 2, .w, .t (.f 1) 1, .t (.f 2) 1],[.bx [.t (.j 3) 8, .t (.f 0) 2, .t (.j 4) 1, .t (.f 1) 1], .ls, .ls, .ls, .ls]⟩),(15826666,⟨[.p (.j 0) 0, .t (.j 1) 1, .s (.j 2) 0 1, .v, .e (.j 3) 0, .n (.j 3) 1 1, .v, .v],[.p (.j 0) 0, .w, .t (.f 0) 2, .w, .t (.f 1) 1, .t (.f 2) 1],[.bx [.t (.j 3) 8, .t (.f 0) 2, .t (.j 4) 1, .t (.f 1) 1], .ls, .ls, .ls, .ls]⟩),(60,⟨[.p (.j 0) 0, .t (.j 1) 1, .s (.j 2) 0 1],[.p (.j 0) 0, .w, .t (.f 0) 2, .w, .t (.f 1) 1, .t (.f 2) 1],[.bx [.t (.j 3) 8, .t (.f 0) 2, .t (.j 4) 1, .t (.f 1) 1], .ls, .ls, .ls, .ls]⟩)] Tryd.func27 (by kernel_rfl) (by kernel_rfl) (by kernel_rfl) h
def DE.sg:Sg:=⟨[(2,[.t 8 2, .t 2 0, .t 1 2, .t 1 0]),(0,[.v]),(0,[.v])],[(1,[.v, .v, .t 1])],[[.t 8, .a 1, .t 1, .a 3]]⟩
def DE.txt (C:Ctx) (a0 a1:Value) (c0 c1 c2 c3:List T) (K:J2):Prop:=
 cl2 C 25 BM.sg [a1] [c0,c1,c2,c3] fun v1 d2=>
 prP (bnI .lss (nx v1 0) (.int .i64 0)) fun t15_4=>
 AY t15_4 (
 cl2 C 20 BK.sg [(.int .i64 1)] [] fun v5 d6=>
 K [(nx v5 0),(nx v5 1)] [(nxc d6 0),c0,c2]) (
 ixW (cnt 8 c0) (nx v1 0) fun t22_7=>
 BL (fun x9 k10=>
 prP (bnI .eql (nx x9 0) (.int .i64 2)) fun t38_16=>
 gE t38_16 (
 gP t38_16 false (prP (bnI .eql (nx x9 0) (.int .i64 5))) fun t41_17=>
 prP (pk t38_16 (.bool true) t41_17) fun t42_18=>
 AY t42_18 (
 ldc (nxc k10 0) [] (AB (nx x9 2)) fun t45_19=>
 prP (bnI .eql t45_19 (.int .i64 20)) fun t46_20=>
 AY t46_20 (
 cl2 C 20 BK.sg [(.int .i64 4)] [] fun v21 d22=>
 K [(nx v21 0),(nx v21 1)] [(nxc d22 0),(nxc k10 0),(nxc k10 1)]) (
 ldc (nxc k10 0) [] (AB (nx x9 2)) fun t50_23=>
 prP (bnI .add t50_23 (.int .i64 1)) fun t51_24=>
 stc (nxc k10 0) [] (AB (nx x9 2)) t51_24 fun k25=>
 cl2 C 26 DW.sg [(nx x9 1)] [k25,c1,(nxc k10 1),c3] fun v26 d27=>
 K [(.int .i64 0),(.int .i64 0)] [[],(nxc d27 0),(nxc k10 1)])) (
 ldc (nxc k10 0) [] (AB (nx x9 2)) fun t59_28=>
 prP (bnI .eql t59_28 (.int .i64 0)) fun t60_29=>
 AY t60_29 (
 cl2 C 20 BK.sg [(.int .i64 5)] [] fun v30 d31=>
 K [(nx v30 0),(nx v30 1)] [(nxc d31 0),(nxc k10 0),(nxc k10 1)]) (
 ldc (nxc k10 0) [] (AB (nx x9 2)) fun t64_32=>
 prP (bnI .sub t64_32 (.int .i64 1)) fun t65_33=>
 stc (nxc k10 0) [] (AB (nx x9 2)) t65_33 fun k34=>
 cl2 C 27 DY.sg [] [k34,c1,(nxc k10 1),c3,[T.c (nx x9 1)]] fun v35 d36=>
 K [(.int .i64 0),(.int .i64 0)] [(nxc d36 0),(nxc d36 1),(nxc d36 2)])))) fun j11=>
 prP (bnI .eql a0 (.int .i64 5)) fun t25_12=>
 gE t25_12 (
 gP t25_12 false (prP (bnI .eql a0 (.int .i64 6))) fun t28_13=>
 prP (pk t25_12 (.bool true) t28_13) fun t29_14=>
 AY t29_14 (
 ixW (cnt 8 c0) (nx v1 0) fun t35_15=>
 j11 [a0,a1,(iv (((AB t35_15)*8)+4)),(.int .i64 0),(.int .i64 0)] [c0,c2]) (
 j11 [a0,a1,(iv (((AB t22_7)*8)+3)),(.int .i64 0),(.int .i64 0)] [c0,c2])))
theorem DE.cl2 {w0:World} {a0 a1:Value} {c0 c1 c2 c3:List T} {K:J2} (h:DE.txt ⟨Tryd.prog,w0⟩ a0 a1 c0 c1 c2 c3 K):Eng.cl2 ⟨Tryd.prog,w0⟩ 15 DE.sg [a0,a1] [c0,c1,c2,c3] K:=
 AX (C:=⟨Tryd.prog,w0⟩) (f:=15) (fn:=Tryd.f15) [(25,BM.sg),(20,BK.sg),(26,DW.sg),(27,DY.sg)] [] [(31,⟨[.p (.j 0) 0, .v, .v, .p (.j 1) 0, .e (.j 2) 0],[.p (.j 0) 0, .w, .t (.f 0) 2, .w, .t (.f 1) 1],[.bx [.t (.j 2) 8, .t (.f 0) 2, .t (.j 3) 1, .t (.f 1) 1], .bx [.v, .v, .z], .ls, .ls]⟩)] Tryd.func15 (by kernel_rfl) (by kernel_rfl) (by kernel_rfl) h
def EJ.sg:Sg:=⟨[(2,[.t 8 2, .t 2 0, .t 1 2, .t 1 0]),(1,[.v, .v, .v, .v, .v])],[(1,[.v, .v, .t 1])],[[.t 8, .a 1, .t 1, .a 3]]⟩
def EJ.txt (C:Ctx) (a0 a1 a2 a3 a4:Value) (c0 c1 c2 c3:List T) (K:J2):Prop:=
 cl2 C 25 BM.sg [a1] [c0,c1,c2,c3] fun v1 d2=>
 prP (bnI .lss (nx v1 0) (.int .i64 0)) fun t15_4=>
 gE t15_4 (
 gE t15_4 (
 gP t15_4 false (prP (bnI .neq a3 (.int .i64 (-1)))) fun t19_5=>
 gE t15_4 (
 gE (BX t15_4 false t19_5) (
 gE (BX t15_4 false t19_5) (
 gE (BX t15_4 false t19_5) (
 gE (BX t15_4 false t19_5) (
 gE (BX t15_4 false t19_5) (
 gP (BX t15_4 false t19_5) true ((fun K=>cl2 C 25 BM.sg [a3] [c0,c1,c2,c3] fun v6 d7=>K (nx v6 0))) fun t26_8=>
 gP (BX t15_4 false t19_5) true (prP (bnI .lss t26_8 (.int .i64 0))) fun t27_9=>
 gP t15_4 false (prP (pk t19_5 t27_9 (.bool false))) fun t28_10=>
 prP (pk t15_4 (.bool true) t28_10) fun t29_11=>
 AY t29_11 (
 cl2 C 20 BK.sg [(.int .i64 1)] [] fun v12 d13=>
 K [(nx v12 0),(nx v12 1)] [(nxc d13 0),c0,c2]) (
 cl2 C 11 GL.sg [a2,(.int .i64 0),(.int .i64 2)] [] fun v14 d15=>
 prP (un .not (nx v14 0)) fun t35_17=>
 AY t35_17 (
 cl2 C 20 BK.sg [(.int .i64 2)] [] fun v18 d19=>
 K [(nx v18 0),(nx v18 1)] [(nxc d19 0),c0,c2]) (
 cl2 C 26 DW.sg [a3] [c0,c1,c2,c3] fun v20 d21=>
 ixW (cnt 8 (nxc d21 0)) (nx v1 0) fun t46_22=>
 ldl (nxc d21 0) [] (((AB t46_22)*8)+6) 1 fun t48_23=>
 ixW (cnt 1 (L5 (nxc d21 0) [(((AB t46_22)*8)+6)])) a2 fun t51_24=>
 ldc (nxc d21 0) [(((AB t46_22)*8)+6)] ((AB t51_24)*1) fun t52_25=>
 ixW (cnt 8 (nxc d21 0)) (nx v1 0) fun t58_26=>
 ldl (nxc d21 0) [] (((AB t58_26)*8)+6) 1 fun t60_27=>
 ixW (cnt 1 (L5 (nxc d21 0) [(((AB t58_26)*8)+6)])) a2 fun t65_28=>
 stc (nxc d21 0) [(((AB t58_26)*8)+6)] ((AB t65_28)*1) a3 fun k29=>
 prP (bnI .eql t52_25 (.int .i64 (-1))) fun t67_30=>
 AY t67_30 (
 K [(.int .i64 0),(.int .i64 0)] [[],k29,c2]) (
 cl2 C 27 DY.sg [] [k29,c1,c2,c3,[T.c t52_25]] fun v31 d32=>
 K [(.int .i64 0),(.int .i64 0)] [(nxc d32 0),(nxc d32 1),(nxc d32 2)])))))))))))
theorem EJ.cl2 {w0:World} {a0 a1 a2 a3 a4:Value} {c0 c1 c2 c3:List T} {K:J2} (h:EJ.txt ⟨Tryd.prog,w0⟩ a0 a1 a2 a3 a4 c0 c1 c2 c3 K):Eng.cl2 ⟨Tryd.prog,w0⟩ 16 EJ.sg [a0,a1,a2,a3,a4] [c0,c1,c2,c3] K:=
 AX (C:=⟨Tryd.prog,w0⟩) (f:=16) (fn:=Tryd.f16) [(25,BM.sg),(20,BK.sg),(11,GL.sg),(26,DW.sg),(27,DY.sg)] [(1,[0,1,3,0,8,31,63]),(2,[0,1,3,7,15,31,63,127,255,511,127,1151,4095,8191,16383,32767,65535]),(7,[0,1,3,7,0,31,63,127,0,256,1023,2047,4095]),(8,[0,1,3,7,0,31,63,127,0,256,0,1024,4095,8191])] [] Tryd.func16 (by kernel_rfl) (by kernel_rfl) (by kernel_rfl) h
def GA.sg:Sg:=⟨[(0,[.t 2 0])],[(0,[.v])],[]⟩
def GA.txt (C:Ctx) (c0:List T) (K:J2):Prop:=
 A6 (fun r3 x1 k2=>
 prP (bnI .lss (nx x1 1) (nx x1 0)) fun t8_5=>
 AY t8_5 (
 ixW (cnt 2 c0) (nx x1 1) fun t10_6=>
 ldg c0 [] ((AB t10_6)*2) [.c, .c] fun ts7=>
 prP (un .not (tv (nxT ts7 0))) fun t14_8=>
 AY t14_8 (
 K [(nx x1 1)] []) (
 prP (bnI .add (nx x1 1) (.int .i64 1)) fun t16_9=>
 r3 [(nx x1 0),t16_9] [])) (
 K [(.int .i64 (-1))] [])) [(iv (cnt 2 c0)),(.int .i64 0)] []
theorem GA.cl2 {w0:World} {c0:List T} {K:J2} (h:GA.txt ⟨Tryd.prog,w0⟩ c0 K):Eng.cl2 ⟨Tryd.prog,w0⟩ 28 GA.sg [] [c0] K:=
 AX (C:=⟨Tryd.prog,w0⟩) (f:=28) (fn:=Tryd.f28) [] [] [(26,⟨[.t (.f 0) 2, .v, .v],[],[]⟩)] Tryd.func28 (by kernel_rfl) (by kernel_rfl) (by kernel_rfl) h
def FA.sg:Sg:=⟨[(2,[.t 8 0, .t 2 2, .t 1 0, .t 1 0]),(0,[.v])],[(1,[.v, .v, .t 1])],[[.a 0, .t 2, .a 2, .a 3]]⟩
def FA.txt (C:Ctx) (a0:Value) (c0 c1 c2 c3:List T) (K:J2):Prop:=
 cl2 C 28 GA.sg [] [c1] fun v1 d2=>
 cl2 C 25 BM.sg [a0] [c0,c1,c2,c3] fun v4 d5=>
 prP (bnI .lss (nx v4 0) (.int .i64 0)) fun t17_7=>
 AY t17_7 (
 cl2 C 20 BK.sg [(.int .i64 1)] [] fun v8 d9=>
 K [(nx v8 0),(nx v8 1)] [(nxc d9 0),c1]) (
 prP (bnI .lss (nx v1 0) (.int .i64 0)) fun t21_10=>
 AY t21_10 (
 cl2 C 20 BK.sg [(.int .i64 3)] [] fun v11 d12=>
 K [(nx v11 0),(nx v11 1)] [(nxc d12 0),c1]) (
 ixW (cnt 2 c1) (nx v1 0) fun t30_13=>
 stg c1 [] ((AB t30_13)*2) [T.c (.bool true),T.c a0] fun k14=>
 K [(.int .i64 0),(nx v1 0)] [[],k14]))
theorem FA.cl2 {w0:World} {a0:Value} {c0 c1 c2 c3:List T} {K:J2} (h:FA.txt ⟨Tryd.prog,w0⟩ a0 c0 c1 c2 c3 K):Eng.cl2 ⟨Tryd.prog,w0⟩ 17 FA.sg [a0] [c0,c1,c2,c3] K:=
 AX (C:=⟨Tryd.prog,w0⟩) (f:=17) (fn:=Tryd.f17) [(28,GA.sg),(25,BM.sg),(20,BK.sg)] [] [] Tryd.func17 (by kernel_rfl) (by kernel_rfl) (by kernel_rfl) h
def D7.sg:Sg:=⟨[(2,[.t 8 0, .t 2 2, .t 1 0, .t 1 0]),(0,[.v]),(0,[.v])],[(1,[.v, .v, .t 1])],[[.a 0, .t 2, .a 2, .a 3]]⟩
def D7.txt (C:Ctx) (a0 a1:Value) (c0 c1 c2 c3:List T) (K:J2):Prop:=
 prP (bnI .sub (iv (cnt 2 c1)) (.int .i64 1)) fun t13_1=>
 cl2 C 11 GL.sg [a1,(.int .i64 0),t13_1] [] fun v2 d3=>
 prP (un .not (nx v2 0)) fun t15_5=>
 gE t15_5 (
 gE t15_5 (
 gE t15_5 (
 gE t15_5 (
 gE t15_5 (
 gP t15_5 false (ixW (cnt 2 c1) a1) fun t22_6=>
 gE t15_5 (
 gP t15_5 false (ldc c1 [] ((AB t22_6)*2)) fun t24_7=>
 gP t15_5 false (prP (un .not t24_7)) fun t25_8=>
 prP (pk t15_5 (.bool true) t25_8) fun t26_9=>
 AY t26_9 (
 cl2 C 20 BK.sg [(.int .i64 2)] [] fun v10 d11=>
 K [(nx v10 0),(nx v10 1)] [(nxc d11 0),c1]) (
 prP (bnI .eql a0 (.int .i64 9)) fun t29_12=>
 AY t29_12 (
 ixW (cnt 2 c1) a1 fun t36_13=>
 stg c1 [] ((AB t36_13)*2) [T.c (.bool false),T.c (.int .i64 0)] fun k14=>
 K [(.int .i64 0),(.int .i64 0)] [[],k14]) (
 ixW (cnt 2 c1) a1 fun t46_15=>
 ldc c1 [] (((AB t46_15)*2)+1) fun t48_16=>
 cl2 C 25 BM.sg [t48_16] [c0,c1,c2,c3] fun v17 d18=>
 prP (bnI .lss (nx v17 0) (.int .i64 0)) fun t50_20=>
 AY t50_20 (
 K [(.int .i64 0),(.int .i64 (-1))] [[],c1]) (
 ixW (cnt 2 c1) a1 fun t57_21=>
 ldc c1 [] (((AB t57_21)*2)+1) fun t59_22=>
 K [(.int .i64 0),t59_22] [[],c1])))))))))
theorem D7.cl2 {w0:World} {a0 a1:Value} {c0 c1 c2 c3:List T} {K:J2} (h:D7.txt ⟨Tryd.prog,w0⟩ a0 a1 c0 c1 c2 c3 K):Eng.cl2 ⟨Tryd.prog,w0⟩ 18 D7.sg [a0,a1] [c0,c1,c2,c3] K:=
 AX (C:=⟨Tryd.prog,w0⟩) (f:=18) (fn:=Tryd.f18) [(11,GL.sg),(20,BK.sg),(25,BM.sg)] [(6,[0,1,3,0,8,24,56,0,248,504,1016,2047,4095])] [] Tryd.func18 (by kernel_rfl) (by kernel_rfl) (by kernel_rfl) h
def E9.sg:Sg:=⟨[(0,[.t 1 0])],[(0,[.t 1])],[]⟩
def E9.txt (C:Ctx) (c0:List T) (K:J2):Prop:=
 apW c0 true 0 (cnt 1 c0) 16 (
 K [] [([]++c0)])
theorem E9.cl2 {w0:World} {c0:List T} {K:J2} (h:E9.txt ⟨Tryd.prog,w0⟩ c0 K):Eng.cl2 ⟨Tryd.prog,w0⟩ 40 E9.sg [] [c0] K:=
 AX (C:=⟨Tryd.prog,w0⟩) (f:=40) (fn:=Tryd.f40) [] [] [] Tryd.func40 (by kernel_rfl) (by kernel_rfl) (by kernel_rfl) h
def F8.sg:Sg:=⟨[(1,[.t 8 0, .t 2 0, .t 1 0, .t 1 0])],[(1,[.t 8, .t 2, .t 1, .t 1])],[]⟩
def F8.txt (C:Ctx) (c0 c1 c2 c3:List T) (K:J2):Prop:=
 apW c1 true 0 (cnt 2 c1) 16 (
 cl2 C 38 CA.sg [] [c2] fun v1 d2=>
 cl2 C 40 E9.sg [] [c3] fun v3 d4=>
 A6 (fun r7 x5 k6=>
 prP (bnI .lss (nx x5 1) (nx x5 0)) fun t20_16=>
 AY t20_16 (
 ixW (cnt 8 c0) (nx x5 1) fun t21_17=>
 ldg c0 [] ((AB t21_17)*8) [.c, .c, .c, .c, .c, .c, .l 1, .c] fun ts18=>
 cl2 C 38 CA.sg [] [(L5 c0 [(((AB t21_17)*8)+6)])] fun v19 d20=>
 apW [T.c (tv (nxT ts18 0)),T.c (tv (nxT ts18 1)),T.c (tv (nxT ts18 2)),T.c (tv (nxT ts18 3)),T.c (tv (nxT ts18 4)),T.c (tv (nxT ts18 5)),T.l 1 (nxc d20 0),T.c (tv (nxT ts18 7))] false (cnt 8 (nxc k6 0)) (cnt 8 [T.c (tv (nxT ts18 0)),T.c (tv (nxT ts18 1)),T.c (tv (nxT ts18 2)),T.c (tv (nxT ts18 3)),T.c (tv (nxT ts18 4)),T.c (tv (nxT ts18 5)),T.l 1 (nxc d20 0),T.c (tv (nxT ts18 7))]) 80 (
 prP (bnI .add (nx x5 1) (.int .i64 1)) fun t33_21=>
 r7 [(nx x5 0),t33_21] [((nxc k6 0)++[T.c (tv (nxT ts18 0)),T.c (tv (nxT ts18 1)),T.c (tv (nxT ts18 2)),T.c (tv (nxT ts18 3)),T.c (tv (nxT ts18 4)),T.c (tv (nxT ts18 5)),T.l 1 (nxc d20 0),T.c (tv (nxT ts18 7))]),(nxc k6 1),(nxc k6 2),(nxc k6 3)])) (
 K [] [(nxc k6 0),(nxc k6 1),(nxc k6 2),(nxc k6 3)])) [(iv (cnt 8 c0)),(.int .i64 0)] [[],([]++c1),(nxc d2 0),(nxc d4 0)])
theorem F8.cl2 {w0:World} {c0 c1 c2 c3:List T} {K:J2} (h:F8.txt ⟨Tryd.prog,w0⟩ c0 c1 c2 c3 K):Eng.cl2 ⟨Tryd.prog,w0⟩ 29 F8.sg [] [c0,c1,c2,c3] K:=
 AX (C:=⟨Tryd.prog,w0⟩) (f:=29) (fn:=Tryd.f29) [(38,CA.sg),(40,E9.sg)] [(1,[0,1,3,0,8,31,0,64,255,511,0,2047])] [(58,⟨[.p (.j 0) 0, .p (.j 1) 0, .t (.f 0) 8, .v, .v],[],[.bx [.z, .z, .z, .z], .bx [.t (.j 2) 8, .t (.j 3) 2, .t (.j 4) 1, .t (.j 5) 1], .ls, .ls, .ls, .ls]⟩)] Tryd.func29 (by kernel_rfl) (by kernel_rfl) (by kernel_rfl) h
def F9.sg:Sg:=⟨[(1,[.t 8 0, .t 2 0, .t 1 0, .t 1 0])],[(1,[.t 1, .t 1])],[]⟩
def F9.txt (C:Ctx) (c0 c1 c2 c3:List T) (K:J2):Prop:=
 A6 (fun r3 x1 k2=>
 prP (bnI .lss (nx x1 1) (nx x1 0)) fun t10_15=>
 AY t10_15 (
 BL (fun x17 k18=>
 prP (bnI .add (nx x17 1) (.int .i64 1)) fun t28_23=>
 r3 [(nx x17 0),t28_23] [(nxc k18 0),(nxc k18 1)]) fun j19=>
 ixW (cnt 8 c0) (nx x1 1) fun t12_20=>
 ldg c0 [] ((AB t12_20)*8) [.c, .c, .c, .c, .c, .c, .l 1, .c] fun ts21=>
 prP (bnI .lss (nx x1 1) (.int .i64 8)) fun t15_22=>
 AY t15_22 (
 apW [T.c (tv (nxT ts21 5))] true (cnt 1 (nxc k2 0)) (cnt 1 [T.c (tv (nxT ts21 5))]) 8 (
 apW [T.c (.int .i64 0)] true (cnt 1 (nxc k2 1)) (cnt 1 [T.c (.int .i64 0)]) 8 (
 j19 [(nx x1 0),(nx x1 1)] [((nxc k2 0)++[T.c (tv (nxT ts21 5))]),((nxc k2 1)++[T.c (.int .i64 0)])]))) (
 j19 [(nx x1 0),(nx x1 1)] [(nxc k2 0),(nxc k2 1)])) (
 K [] [(nxc k2 0),(nxc k2 1)])) [(iv (cnt 8 c0)),(.int .i64 0)] [[],[]]
theorem F9.cl2 {w0:World} {c0 c1 c2 c3:List T} {K:J2} (h:F9.txt ⟨Tryd.prog,w0⟩ c0 c1 c2 c3 K):Eng.cl2 ⟨Tryd.prog,w0⟩ 30 F9.sg [] [c0,c1,c2,c3] K:=
 AX (C:=⟨Tryd.prog,w0⟩) (f:=30) (fn:=Tryd.f30) [] [] [(467,⟨[.p (.j 0) 0, .p (.j 1) 0, .t (.f 0) 8, .v, .v],[],[.bx [.z, .z], .bx [.t (.j 2) 1, .t (.j 3) 1], .ls, .ls]⟩),(58,⟨[.p (.j 0) 0, .p (.j 1) 0, .t (.f 0) 8, .v, .v],[],[.bx [.z, .z], .bx [.t (.j 2) 1, .t (.j 3) 1], .ls, .ls]⟩)] Tryd.func30 (by kernel_rfl) (by kernel_rfl) (by kernel_rfl) h
def DT.sg:Sg:=⟨[(1,[.t 1 0, .t 1 0])],[(1,[.t 1, .t 1])],[]⟩
def DT.txt (C:Ctx) (c0 c1:List T) (K:J2):Prop:=
 cl2 C 38 CA.sg [] [c0] fun v1 d2=>
 cl2 C 38 CA.sg [] [c1] fun v3 d4=>
 K [] [(nxc d2 0),(nxc d4 0)]
theorem DT.cl2 {w0:World} {c0 c1:List T} {K:J2} (h:DT.txt ⟨Tryd.prog,w0⟩ c0 c1 K):Eng.cl2 ⟨Tryd.prog,w0⟩ 41 DT.sg [] [c0,c1] K:=
 AX (C:=⟨Tryd.prog,w0⟩) (f:=41) (fn:=Tryd.f41) [(38,CA.sg)] [(1,[0,1,3,0,8,31,63,127])] [] Tryd.func41 (by kernel_rfl) (by kernel_rfl) (by kernel_rfl) h
def GJ.sg:Sg:=⟨[(1,[.t 8 0, .t 2 0, .t 1 0, .t 1 0]),(1,[.t 1 0, .t 1 0]),(0,[.v])],[(0,[.v])],[]⟩
def GJ.txt (C:Ctx) (a0:Value) (c0 c1 c2 c3 c4 c5:List T) (K:J2):Prop:=
 prP (bnI .eql (iv (cnt 8 c0)) (.int .i64 8)) fun t10_1=>
 gE t10_1 (
 gE t10_1 (
 gE t10_1 (
 gP t10_1 true (prP (bnI .eql (iv (cnt 1 c4)) (.int .i64 8))) fun t15_2=>
 prP (pk t10_1 t15_2 (.bool false)) fun t16_3=>
 gE t16_3 (
 gE t16_3 (
 gE t16_3 (
 gP t16_3 true (prP (bnI .eql (iv (cnt 1 c5)) (.int .i64 8))) fun t21_4=>
 prP (pk t16_3 t21_4 (.bool false)) fun t22_5=>
 gE t22_5 (
 gP t22_5 true ((fun K=>cl2 C 11 GL.sg [a0,(.int .i64 0),(.int .i64 7)] [] fun v6 d7=>K (nx v6 0))) fun t25_8=>
 prP (pk t22_5 t25_8 (.bool false)) fun t26_9=>
 gE t26_9 (
 gE t26_9 (
 gE t26_9 (
 gP t26_9 true (ixW (cnt 8 c0) a0) fun t31_10=>
 gE t26_9 (
 gP t26_9 true (ldc c0 [] ((AB t31_10)*8)) fun t33_11=>
 prP (pk t26_9 t33_11 (.bool false)) fun t34_12=>
 K [t34_12] [])))))))))))
theorem GJ.cl2 {w0:World} {a0:Value} {c0 c1 c2 c3 c4 c5:List T} {K:J2} (h:GJ.txt ⟨Tryd.prog,w0⟩ a0 c0 c1 c2 c3 c4 c5 K):Eng.cl2 ⟨Tryd.prog,w0⟩ 42 GJ.sg [a0] [c0,c1,c2,c3,c4,c5] K:=
 AX (C:=⟨Tryd.prog,w0⟩) (f:=42) (fn:=Tryd.f42) [(11,GL.sg)] [] [] Tryd.func42 (by kernel_rfl) (by kernel_rfl) (by kernel_rfl) h
def EZ.sg:Sg:=⟨[(1,[.t 8 0, .t 2 0, .t 1 0, .t 1 0]),(0,[.v])],[(0,[.t 1])],[]⟩
def EZ.txt (C:Ctx) (a0:Value) (c0 c1 c2 c3:List T) (K:J2):Prop:=
 ixW (cnt 8 c0) a0 fun t12_1=>
 ldl c0 [] (((AB t12_1)*8)+6) 1 fun t14_2=>
 A6 (fun r5 x3 k4=>
 prP (bnI .lss (nx x3 2) (nx x3 1)) fun t17_20=>
 AY t17_20 (
 BL (fun x22 k23=>
 prP (bnI .add (nx x22 2) (.int .i64 1)) fun t29_31=>
 r5 [(iv (AB (nx x22 0))),(nx x22 1),t29_31] [(nxc k23 0)]) fun j24=>
 ixW (cnt 1 (L5 c0 [(AB (nx x3 0))])) (nx x3 2) fun t18_25=>
 ldc c0 [(AB (nx x3 0))] ((AB t18_25)*1) fun t19_26=>
 cl2 C 25 BM.sg [t19_26] [c0,c1,c2,c3] fun v27 d28=>
 prP (bnI .geq (nx v27 0) (.int .i64 0)) fun t24_30=>
 AY t24_30 (
 apW [T.c (nx v27 0)] true (cnt 1 (nxc k4 0)) (cnt 1 [T.c (nx v27 0)]) 8 (
 j24 [(iv (AB (nx x3 0))),(nx x3 1),(nx x3 2)] [((nxc k4 0)++[T.c (nx v27 0)])])) (
 j24 [(iv (AB (nx x3 0))),(nx x3 1),(nx x3 2)] [(nxc k4 0)])) (
 K [] [(nxc k4 0)])) [(iv (((AB t12_1)*8)+6)),(iv (cnt 1 (L5 c0 [(((AB t12_1)*8)+6)]))),(.int .i64 0)] [[]]
theorem EZ.cl2 {w0:World} {a0:Value} {c0 c1 c2 c3:List T} {K:J2} (h:EZ.txt ⟨Tryd.prog,w0⟩ a0 c0 c1 c2 c3 K):Eng.cl2 ⟨Tryd.prog,w0⟩ 49 EZ.sg [a0] [c0,c1,c2,c3] K:=
 AX (C:=⟨Tryd.prog,w0⟩) (f:=49) (fn:=Tryd.f49) [(25,BM.sg)] [] [(467,⟨[.p (.j 0) 0, .t (.j 1) 1, .n (.f 0) 1 1, .v, .v],[],[.bx [.t (.f 0) 8, .t (.f 1) 2, .t (.f 2) 1, .t (.f 3) 1], .ls]⟩),(58,⟨[.p (.j 0) 0, .t (.j 1) 1, .n (.f 0) 1 1, .v, .v],[],[.bx [.t (.f 0) 8, .t (.f 1) 2, .t (.f 2) 1, .t (.f 3) 1], .ls]⟩)] Tryd.func49 (by kernel_rfl) (by kernel_rfl) (by kernel_rfl) h
def BN.sg:Sg:=⟨[(2,[.t 1 2, .t 1 2]),(1,[.t 8 0, .t 2 0, .t 1 0, .t 1 0]),(0,[.v]),(0,[.v]),(0,[.v])],[],[[.t 1, .t 1]]⟩
def BN.txt (C:Ctx) (a0 a1 a2:Value) (c0 c1 c2 c3 c4 c5:List T) (K:J2):Prop:=
 ixW (cnt 1 c1) a0 fun t17_1=>
 ldc c1 [] ((AB t17_1)*1) fun t18_2=>
 prP (bnI .eql t18_2 a1) fun t20_3=>
 AY t20_3 (
 K [] [c0,c1]) (
 ixW (cnt 1 c1) a0 fun t27_4=>
 stc c1 [] ((AB t27_4)*1) a1 fun k5=>
 cl2 C 49 EZ.sg [a0] [c2,c3,c4,c5] fun v6 d7=>
 A6 (fun r10 x8 k9=>
 prP (bnI .lss (nx x8 3) (nx x8 2)) fun t33_12=>
 AY t33_12 (
 ixW (cnt 1 (nxc k9 0)) (nx x8 3) fun t34_13=>
 ldc (nxc k9 0) [] ((AB t34_13)*1) fun t35_14=>
 ixW (cnt 1 (nxc k9 1)) t35_14 fun t41_15=>
 ldc (nxc k9 1) [] ((AB t41_15)*1) fun t42_16=>
 prP (bnI .add t42_16 (nx x8 1)) fun t44_17=>
 ixW (cnt 1 (nxc k9 1)) t35_14 fun t45_18=>
 stc (nxc k9 1) [] ((AB t45_18)*1) t44_17 fun k19=>
 cl2 C 43 BN.sg [t35_14,(nx x8 0),(nx x8 1)] [k19,(nxc k9 2),c2,c3,c4,c5] fun v20 d21=>
 prP (bnI .add (nx x8 3) (.int .i64 1)) fun t52_22=>
 r10 [(nx x8 0),(nx x8 1),(nx x8 2),t52_22] [(nxc k9 0),(nxc d21 0),(nxc d21 1)]) (
 K [] [(nxc k9 1),(nxc k9 2)])) [a1,a2,(iv (cnt 1 (nxc d7 0))),(.int .i64 0)] [(nxc d7 0),c0,k5])
theorem BN.cl2 {w0:World} {a0 a1 a2:Value} {c0 c1 c2 c3 c4 c5:List T} {K:J2} (h:BN.txt ⟨Tryd.prog,w0⟩ a0 a1 a2 c0 c1 c2 c3 c4 c5 K):Eng.cl2 ⟨Tryd.prog,w0⟩ 43 BN.sg [a0,a1,a2] [c0,c1,c2,c3,c4,c5] K:=
 AX (C:=⟨Tryd.prog,w0⟩) (f:=43) (fn:=Tryd.f43) [(49,EZ.sg),(43,BN.sg)] [] [(62,⟨[.p (.j 0) 0, .v, .v, .p (.j 1) 0, .t (.j 2) 1, .v, .v],[.p (.j 0) 0],[.bx [.t (.j 3) 1, .t (.j 4) 1], .bx [.t (.f 0) 8, .t (.f 1) 2, .t (.f 2) 1, .t (.f 3) 1], .ls, .ls, .ls]⟩)] Tryd.func43 (by kernel_rfl) (by kernel_rfl) (by kernel_rfl) h
def GC.sg:Sg:=⟨[(1,[.t 8 0, .t 2 0, .t 1 0, .t 1 0]),(1,[.t 1 0, .t 1 0]),(0,[.v])],[(1,[.t 1, .t 1])],[]⟩
def GC.txt (C:Ctx) (a0:Value) (c0 c1 c2 c3 c4 c5:List T) (K:J2):Prop:=
 cl2 C 41 DT.sg [] [c4,c5] fun v1 d2=>
 BL (fun x4 k5=>
 K [] [(nxc k5 0),(nxc k5 1)]) fun j6=>
 cl2 C 42 GJ.sg [a0] [c0,c1,c2,c3,c4,c5] fun v7 d8=>
 AY (nx v7 0) (
 cl2 C 43 BN.sg [a0,(.int .i64 1),(.int .i64 (-1))] [(nxc d2 0),(nxc d2 1),c0,c1,c2,c3] fun v10 d11=>
 j6 [] [(nxc d11 0),(nxc d11 1)]) (
 j6 [] [(nxc d2 0),(nxc d2 1)])
theorem GC.cl2 {w0:World} {a0:Value} {c0 c1 c2 c3 c4 c5:List T} {K:J2} (h:GC.txt ⟨Tryd.prog,w0⟩ a0 c0 c1 c2 c3 c4 c5 K):Eng.cl2 ⟨Tryd.prog,w0⟩ 31 GC.sg [a0] [c0,c1,c2,c3,c4,c5] K:=
 AX (C:=⟨Tryd.prog,w0⟩) (f:=31) (fn:=Tryd.f31) [(41,DT.sg),(42,GJ.sg),(43,BN.sg)] [] [(7,⟨[.p (.j 0) 0, .p (.j 1) 0],[],[.bx [.z, .z], .bx [.t (.j 2) 1, .t (.j 3) 1], .ls, .ls]⟩)] Tryd.func31 (by kernel_rfl) (by kernel_rfl) (by kernel_rfl) h
def B4.sg:Sg:=⟨[(2,[.t 1 2, .t 1 2]),(1,[.t 8 0, .t 2 0, .t 1 0, .t 1 0]),(0,[.v])],[],[[.t 1, .t 1]]⟩
def B4.txt (C:Ctx) (a0:Value) (c0 c1 c2 c3 c4 c5:List T) (K:J2):Prop:=
 ixW (cnt 1 c1) a0 fun t13_1=>
 ldc c1 [] ((AB t13_1)*1) fun t14_2=>
 prP (bnI .neq t14_2 (.int .i64 1)) fun t15_3=>
 AY t15_3 (
 K [] [c0,c1]) (
 ixW (cnt 1 c0) a0 fun t21_4=>
 ldc c0 [] ((AB t21_4)*1) fun t22_5=>
 prP (bnI .gtr t22_5 (.int .i64 0)) fun t23_6=>
 AY t23_6 (
 cl2 C 43 BN.sg [a0,(.int .i64 0),(.int .i64 1)] [c0,c1,c2,c3,c4,c5] fun v7 d8=>
 K [] [(nxc d8 0),(nxc d8 1)]) (
 ixW (cnt 1 c1) a0 fun t33_9=>
 stc c1 [] ((AB t33_9)*1) (.int .i64 2) fun k10=>
 cl2 C 49 EZ.sg [a0] [c2,c3,c4,c5] fun v11 d12=>
 A6 (fun r15 x13 k14=>
 prP (bnI .lss (nx x13 1) (nx x13 0)) fun t39_17=>
 AY t39_17 (
 ixW (cnt 1 (nxc k14 0)) (nx x13 1) fun t40_18=>
 ldc (nxc k14 0) [] ((AB t40_18)*1) fun t41_19=>
 cl2 C 44 B4.sg [t41_19] [(nxc k14 1),(nxc k14 2),c2,c3,c4,c5] fun v20 d21=>
 prP (bnI .add (nx x13 1) (.int .i64 1)) fun t46_22=>
 r15 [(nx x13 0),t46_22] [(nxc k14 0),(nxc d21 0),(nxc d21 1)]) (
 K [] [(nxc k14 1),(nxc k14 2)])) [(iv (cnt 1 (nxc d12 0))),(.int .i64 0)] [(nxc d12 0),c0,k10]))
theorem B4.cl2 {w0:World} {a0:Value} {c0 c1 c2 c3 c4 c5:List T} {K:J2} (h:B4.txt ⟨Tryd.prog,w0⟩ a0 c0 c1 c2 c3 c4 c5 K):Eng.cl2 ⟨Tryd.prog,w0⟩ 44 B4.sg [a0] [c0,c1,c2,c3,c4,c5] K:=
 AX (C:=⟨Tryd.prog,w0⟩) (f:=44) (fn:=Tryd.f44) [(43,BN.sg),(49,EZ.sg),(44,B4.sg)] [] [(126,⟨[.p (.j 0) 0, .p (.j 1) 0, .t (.j 2) 1, .v, .v],[.p (.j 0) 0],[.bx [.t (.j 3) 1, .t (.j 4) 1], .bx [.t (.f 0) 8, .t (.f 1) 2, .t (.f 2) 1, .t (.f 3) 1], .ls, .ls, .ls]⟩)] Tryd.func44 (by kernel_rfl) (by kernel_rfl) (by kernel_rfl) h
def F7.sg:Sg:=⟨[(1,[.t 8 0, .t 2 0, .t 1 0, .t 1 0]),(1,[.t 1 0, .t 1 0]),(0,[.v])],[(1,[.t 1, .t 1])],[]⟩
def F7.txt (C:Ctx) (a0:Value) (c0 c1 c2 c3 c4 c5:List T) (K:J2):Prop:=
 cl2 C 41 DT.sg [] [c4,c5] fun v1 d2=>
 BL (fun x4 k5=>
 K [] [(nxc k5 0),(nxc k5 1)]) fun j6=>
 cl2 C 42 GJ.sg [a0] [c0,c1,c2,c3,c4,c5] fun v7 d8=>
 AY (nx v7 0) (
 cl2 C 44 B4.sg [a0] [(nxc d2 0),(nxc d2 1),c0,c1,c2,c3] fun v10 d11=>
 j6 [] [(nxc d11 0),(nxc d11 1)]) (
 j6 [] [(nxc d2 0),(nxc d2 1)])
theorem F7.cl2 {w0:World} {a0:Value} {c0 c1 c2 c3 c4 c5:List T} {K:J2} (h:F7.txt ⟨Tryd.prog,w0⟩ a0 c0 c1 c2 c3 c4 c5 K):Eng.cl2 ⟨Tryd.prog,w0⟩ 32 F7.sg [a0] [c0,c1,c2,c3,c4,c5] K:=
 AX (C:=⟨Tryd.prog,w0⟩) (f:=32) (fn:=Tryd.f32) [(41,DT.sg),(42,GJ.sg),(44,B4.sg)] [] [(7,⟨[.p (.j 0) 0, .p (.j 1) 0],[],[.bx [.z, .z], .bx [.t (.j 2) 1, .t (.j 3) 1], .ls, .ls]⟩)] Tryd.func32 (by kernel_rfl) (by kernel_rfl) (by kernel_rfl) h
def HL.sg:Sg:=⟨[(1,[.t 1 0, .t 1 0])],[(0,[.t 1])],[]⟩
def HL.txt (C:Ctx) (c0 c1:List T) (K:J2):Prop:=
 A6 (fun r3 x1 k2=>
 prP (bnI .lss (nx x1 1) (nx x1 0)) fun t10_15=>
 AY t10_15 (
 BL (fun x17 k18=>
 prP (bnI .add (nx x17 1) (.int .i64 1)) fun t20_23=>
 r3 [(nx x17 0),t20_23] [(nxc k18 0)]) fun j19=>
 ixW (cnt 1 c1) (nx x1 1) fun t12_20=>
 ldc c1 [] ((AB t12_20)*1) fun t13_21=>
 prP (bnI .eql t13_21 (.int .i64 2)) fun t15_22=>
 AY t15_22 (
 apW [T.c (nx x1 1)] true (cnt 1 (nxc k2 0)) (cnt 1 [T.c (nx x1 1)]) 8 (
 j19 [(nx x1 0),(nx x1 1)] [((nxc k2 0)++[T.c (nx x1 1)])])) (
 j19 [(nx x1 0),(nx x1 1)] [(nxc k2 0)])) (
 K [] [(nxc k2 0)])) [(iv (cnt 1 c1)),(.int .i64 0)] [[]]
theorem HL.cl2 {w0:World} {c0 c1:List T} {K:J2} (h:HL.txt ⟨Tryd.prog,w0⟩ c0 c1 K):Eng.cl2 ⟨Tryd.prog,w0⟩ 33 HL.sg [] [c0,c1] K:=
 AX (C:=⟨Tryd.prog,w0⟩) (f:=33) (fn:=Tryd.f33) [] [] [(467,⟨[.t (.j 0) 1, .t (.f 1) 1, .v, .v],[],[.ls]⟩),(58,⟨[.t (.j 0) 1, .t (.f 1) 1, .v, .v],[],[.ls]⟩)] Tryd.func33 (by kernel_rfl) (by kernel_rfl) (by kernel_rfl) h
def GO.sg:Sg:=⟨[(1,[.t 8 0, .t 2 0, .t 1 0, .t 1 0]),(0,[.v])],[(0,[.v])],[]⟩
def GO.txt (C:Ctx) (a0:Value) (c0 c1 c2 c3:List T) (K:J2):Prop:=
 prP (bnI .sub (iv (cnt 8 c0)) (.int .i64 1)) fun t15_1=>
 cl2 C 11 GL.sg [a0,(.int .i64 0),t15_1] [] fun v2 d3=>
 prP (un .not (nx v2 0)) fun t17_5=>
 gE t17_5 (
 gE t17_5 (
 gE t17_5 (
 gP t17_5 false (ixW (cnt 8 c0) a0) fun t22_6=>
 gE t17_5 (
 gP t17_5 false (ldc c0 [] ((AB t22_6)*8)) fun t24_7=>
 gP t17_5 false (prP (un .not t24_7)) fun t25_8=>
 prP (pk t17_5 (.bool true) t25_8) fun t26_9=>
 AY t26_9 (
 K [(.int .i64 0)] []) (
 ixW (cnt 8 c0) a0 fun t31_10=>
 ldc c0 [] (((AB t31_10)*8)+1) fun t33_11=>
 cl2 C 24 GX.sg [a0,t33_11] [] fun v12 d13=>
 A6 (fun r17 x15 k16=>
 prP (bnI .lss (nx x15 3) (nx x15 2)) fun t39_19=>
 AY t39_19 (
 ixW (cnt 8 c0) (nx x15 3) fun t40_20=>
 ldg c0 [] ((AB t40_20)*8) [.c, .c, .c, .c, .c, .c, .l 1, .c] fun ts21=>
 A6 (fun r24 x22 k23=>
 prP (bnI .lss (nx x22 6) (nx x22 5)) fun t46_26=>
 AY t46_26 (
 BL (fun x28 k29=>
 prP (bnI .add (nx x28 6) (.int .i64 1)) fun t58_36=>
 r24 [(nx x28 0),(nx x28 1),(nx x28 2),(nx x28 3),(iv (AB (nx x28 4))),(nx x28 5),t58_36,(nx x28 7),(nx x28 8),(nx x28 9),(nx x28 10),(nx x28 11),(nx x28 12),(iv (AB (nx x28 13))),(nx x28 14)] []) fun j30=>
 ixW (cnt 1 (L5 c0 [(AB (nx x22 4))])) (nx x22 6) fun t47_31=>
 ldc c0 [(AB (nx x22 4))] ((AB t47_31)*1) fun t48_32=>
 gE (nx x22 7) (
 gE (nx x22 7) (
 gP (nx x22 7) true (prP (bnI .eql t48_32 (nx x22 0))) fun t54_33=>
 prP (pk (nx x22 7) t54_33 (.bool false)) fun t55_34=>
 AY t55_34 (
 prP (bnI .add (nx x22 1) (.int .i64 1)) fun t57_35=>
 j30 [(nx x22 0),t57_35,(nx x22 2),(nx x22 3),(iv (AB (nx x22 4))),(nx x22 5),(nx x22 6),(nx x22 7),(nx x22 8),(nx x22 9),(nx x22 10),(nx x22 11),(nx x22 12),(iv (AB (nx x22 13))),(nx x22 14)] []) (
 j30 [(nx x22 0),(nx x22 1),(nx x22 2),(nx x22 3),(iv (AB (nx x22 4))),(nx x22 5),(nx x22 6),(nx x22 7),(nx x22 8),(nx x22 9),(nx x22 10),(nx x22 11),(nx x22 12),(iv (AB (nx x22 13))),(nx x22 14)] [])))) (
 prP (bnI .add (nx x22 3) (.int .i64 1)) fun t59_37=>
 r17 [(nx x22 0),(nx x22 1),(nx x22 2),t59_37] [])) [(nx x15 0),(nx x15 1),(nx x15 2),(nx x15 3),(iv (((AB t40_20)*8)+6)),(iv (cnt 1 (L5 c0 [(((AB t40_20)*8)+6)]))),(.int .i64 0),(tv (nxT ts21 0)),(tv (nxT ts21 1)),(tv (nxT ts21 2)),(tv (nxT ts21 3)),(tv (nxT ts21 4)),(tv (nxT ts21 5)),(iv (((AB t40_20)*8)+6)),(tv (nxT ts21 7))] []) (
 K [(nx x15 1)] [])) [(nx v12 0),(.int .i64 0),(iv (cnt 8 c0)),(.int .i64 0)] [])))))
theorem GO.cl2 {w0:World} {a0:Value} {c0 c1 c2 c3:List T} {K:J2} (h:GO.txt ⟨Tryd.prog,w0⟩ a0 c0 c1 c2 c3 K):Eng.cl2 ⟨Tryd.prog,w0⟩ 34 GO.sg [a0] [c0,c1,c2,c3] K:=
 AX (C:=⟨Tryd.prog,w0⟩) (f:=34) (fn:=Tryd.f34) [(11,GL.sg),(24,GX.sg)] [] [(512819,⟨[.v, .v, .p (.j 0) 0, .t (.f 0) 8, .v, .v, .n (.f 0) 1 1, .v, .v],[],[.bx [.v, .v, .v, .v, .v, .v, .n (.f 0) 1 1, .v]]⟩),(64102,⟨[.v, .v, .p (.j 0) 0, .t (.f 0) 8, .v, .v, .n (.f 0) 1 1, .v, .v],[],[.bx [.v, .v, .v, .v, .v, .v, .n (.f 0) 1 1, .v]]⟩),(250,⟨[.v, .v, .t (.f 0) 8, .v, .v],[],[]⟩)] Tryd.func34 (by kernel_rfl) (by kernel_rfl) (by kernel_rfl) h
def GQ.sg:Sg:=⟨[(1,[.t 8 0, .t 2 0, .t 1 0, .t 1 0])],[(1,[.t 8, .t 2, .t 1, .t 1]),(0,[.t 1])],[]⟩
def GQ.txt (C:Ctx) (c0 c1 c2 c3:List T) (K:J2):Prop:=
 cl2 C 29 F8.sg [] [c0,c1,c2,c3] fun v1 d2=>
 prP (bnI .neq (iv (cnt 8 c0)) (.int .i64 8)) fun t20_3=>
 AY t20_3 (
 K [] [(nxc d2 0),(nxc d2 1),(nxc d2 2),(nxc d2 3),[]]) (
 cl2 C 30 F9.sg [] [c0,c1,c2,c3] fun v4 d5=>
 A6 (fun r8 x6 k7=>
 prP (bnI .lss (nx x6 1) (nx x6 0)) fun t28_10=>
 AY t28_10 (
 ixW (cnt 1 c2) (nx x6 1) fun t29_11=>
 ldc c2 [] ((AB t29_11)*1) fun t30_12=>
 cl2 C 25 BM.sg [t30_12] [c0,c1,c2,c3] fun v13 d14=>
 cl2 C 31 GC.sg [(nx v13 0)] [c0,c1,c2,c3,(nxc k7 4),(nxc k7 5)] fun v16 d17=>
 prP (bnI .add (nx x6 1) (.int .i64 1)) fun t37_18=>
 r8 [(nx x6 0),t37_18] [(nxc k7 0),(nxc k7 1),(nxc k7 2),(nxc k7 3),(nxc d17 0),(nxc d17 1)]) (
 A6 (fun r21 x19 k20=>
 prP (bnI .lss (nx x19 1) (nx x19 0)) fun t42_23=>
 AY t42_23 (
 ixW (cnt 1 c2) (nx x19 1) fun t43_24=>
 ldc c2 [] ((AB t43_24)*1) fun t44_25=>
 cl2 C 25 BM.sg [t44_25] [c0,c1,c2,c3] fun v26 d27=>
 cl2 C 32 F7.sg [(nx v26 0)] [c0,c1,c2,c3,(nxc k20 4),(nxc k20 5)] fun v29 d30=>
 prP (bnI .add (nx x19 1) (.int .i64 1)) fun t51_31=>
 r21 [(nx x19 0),t51_31] [(nxc k20 0),(nxc k20 1),(nxc k20 2),(nxc k20 3),(nxc d30 0),(nxc d30 1)]) (
 cl2 C 33 HL.sg [] [(nxc k20 4),(nxc k20 5)] fun v32 d33=>
 A6 (fun r36 x34 k35=>
 prP (bnI .lss (nx x34 1) (nx x34 0)) fun t56_75=>
 AY t56_75 (
 ixW (cnt 1 (nxc k35 1)) (nx x34 1) fun t57_76=>
 ldc (nxc k35 1) [] ((AB t57_76)*1) fun t58_77=>
 ixW (cnt 8 c0) t58_77 fun t64_78=>
 ldc c0 [] (((AB t64_78)*8)+1) fun t66_79=>
 cl2 C 24 GX.sg [t58_77,t66_79] [] fun v80 d81=>
 apW [T.c (nx v80 0)] true (cnt 1 (nxc k35 0)) (cnt 1 [T.c (nx v80 0)]) 8 (
 ixW (cnt 8 c0) t58_77 fun t76_83=>
 ldc c0 [] (((AB t76_83)*8)+1) fun t78_84=>
 cl2 C 13 G9.sg [t78_84] [] fun v85 d86=>
 ixW (cnt 8 (nxc k35 2)) t58_77 fun t80_87=>
 stg (nxc k35 2) [] ((AB t80_87)*8) [T.c (nx v85 0),T.c (nx v85 1),T.c (nx v85 2),T.c (nx v85 3),T.c (nx v85 4),T.c (nx v85 5),T.l 1 (nxc d86 0),T.c (nx v85 6)] fun k88=>
 prP (bnI .add (nx x34 1) (.int .i64 1)) fun t81_89=>
 r36 [(nx x34 0),t81_89] [((nxc k35 0)++[T.c (nx v80 0)]),(nxc k35 1),k88,(nxc k35 3),(nxc k35 4),(nxc k35 5)])) (
 A6 (fun r92 x90 k91=>
 prP (bnI .lss (nx x90 1) (nx x90 0)) fun t86_94=>
 AY t86_94 (
 BL (fun x96 k97=>
 prP (bnI .add (nx x96 1) (.int .i64 1)) fun t115_110=>
 r92 [(nx x96 0),t115_110] [(nxc k97 0),(nxc k97 1),(nxc k97 2),(nxc k97 3),(nxc k97 4)]) fun j98=>
 ixW (cnt 8 (nxc k91 1)) (nx x90 1) fun t91_99=>
 stc (nxc k91 1) [] (((AB t91_99)*8)+7) (.bool false) fun k100=>
 ldc k100 [] ((AB t91_99)*8) fun t98_101=>
 AY t98_101 (
 ldc k100 [] (((AB t91_99)*8)+3) fun t103_102=>
 ldc k100 [] (((AB t91_99)*8)+4) fun t107_103=>
 prP (bnI .add t103_102 t107_103) fun t108_104=>
 cl2 C 34 GO.sg [(nx x90 1)] [k100,(nxc k91 2),(nxc k91 3),(nxc k91 4)] fun v105 d106=>
 prP (bnI .add t108_104 (nx v105 0)) fun t112_108=>
 stc k100 [] (((AB t91_99)*8)+5) t112_108 fun k109=>
 j98 [(nx x90 0),(nx x90 1)] [(nxc k91 0),k109,(nxc k91 2),(nxc k91 3),(nxc k91 4)]) (
 j98 [(nx x90 0),(nx x90 1)] [(nxc k91 0),k100,(nxc k91 2),(nxc k91 3),(nxc k91 4)])) (
 K [] [(nxc k91 1),(nxc k91 2),[],(nxc k91 4),(nxc k91 0)])) [(iv (cnt 8 (nxc k35 2))),(.int .i64 0)] [(nxc k35 0),(nxc k35 2),(nxc k35 3),(nxc k35 4),(nxc k35 5)])) [(iv (cnt 1 (nxc d33 0))),(.int .i64 0)] [[],(nxc d33 0),(nxc k20 0),(nxc k20 1),(nxc k20 2),(nxc k20 3)])) [(iv (cnt 1 c2)),(.int .i64 0)] [(nxc k7 0),(nxc k7 1),(nxc k7 2),(nxc k7 3),(nxc k7 4),(nxc k7 5)])) [(iv (cnt 1 c2)),(.int .i64 0)] [(nxc d2 0),(nxc d2 1),(nxc d2 2),(nxc d2 3),(nxc d5 0),(nxc d5 1)])
theorem GQ.cl2 {w0:World} {c0 c1 c2 c3:List T} {K:J2} (h:GQ.txt ⟨Tryd.prog,w0⟩ c0 c1 c2 c3 K):Eng.cl2 ⟨Tryd.prog,w0⟩ 19 GQ.sg [] [c0,c1,c2,c3] K:=
 AX (C:=⟨Tryd.prog,w0⟩) (f:=19) (fn:=Tryd.f19) [(29,F8.sg),(30,F9.sg),(25,BM.sg),(31,GC.sg),(32,F7.sg),(33,HL.sg),(24,GX.sg),(13,G9.sg),(34,GO.sg)] [(8,[0,0,0,0,12,31,63]),(13,[0,0,0,0,12,31,63]),(20,[0,1,0,0,8,0,56,120,248,504,1023,2047]),(28,[0,0,2,6,14,0,32,96,224,510,0,0,3072,8190,16383,32767,65535])] [(32723,⟨[.p (.j 0) 0, .p (.j 1) 0, .t (.j 2) 1, .v, .v],[],[.bx [.z, .z, .z, .z], .bx [.t (.j 3) 8, .t (.j 4) 2, .t (.j 5) 1, .t (.j 6) 1], .ls, .ls, .ls, .ls, .ls]⟩),(4090,⟨[.p (.j 0) 0, .p (.j 1) 0, .t (.j 2) 1, .v, .v],[],[.bx [.z, .z, .z, .z], .bx [.t (.j 3) 8, .t (.j 4) 2, .t (.j 5) 1, .t (.j 6) 1], .ls, .ls, .ls, .ls, .ls]⟩),(2042,⟨[.p (.j 0) 0, .p (.j 1) 0, .p (.j 2) 0, .t (.j 3) 1, .t (.j 4) 1, .v, .v],[],[.bx [.t (.f 0) 8, .t (.f 1) 2, .t (.f 2) 1, .t (.f 3) 1], .bx [.z, .z, .z, .z], .bx [.t (.j 5) 8, .t (.j 6) 2, .t (.j 7) 1, .t (.j 8) 1], .ls, .ls, .ls, .ls, .ls, .ls]⟩),(506,⟨[.p (.j 0) 0, .p (.j 1) 0, .p (.j 2) 0, .p (.j 3) 0, .t (.f 2) 1, .v, .v],[],[.bx [.t (.f 0) 8, .t (.f 1) 2, .t (.f 2) 1, .t (.f 3) 1], .bx [.z, .z, .z, .z], .bx [.t (.j 4) 8, .t (.j 5) 2, .t (.j 6) 1, .t (.j 7) 1], .bx [.t (.j 8) 1, .t (.j 9) 1], .ls, .ls, .ls, .ls, .ls, .ls]⟩),(250,⟨[.p (.j 0) 0, .p (.j 1) 0, .p (.j 2) 0, .p (.j 3) 0, .t (.f 2) 1, .v, .v],[],[.bx [.t (.f 0) 8, .t (.f 1) 2, .t (.f 2) 1, .t (.f 3) 1], .bx [.z, .z, .z, .z], .bx [.t (.j 4) 8, .t (.j 5) 2, .t (.j 6) 1, .t (.j 7) 1], .bx [.t (.j 8) 1, .t (.j 9) 1], .ls, .ls, .ls, .ls, .ls, .ls]⟩)] Tryd.func19 (by kernel_rfl) (by kernel_rfl) (by kernel_rfl) h
def EI.sg:Sg:=⟨[(2,[.t 8 2, .t 2 2, .t 1 2, .t 1 2]),(1,[.v, .v, .v, .v, .v])],[(1,[.v, .v, .t 1])],[[.t 8, .t 2, .t 1, .t 1]]⟩
def EI.txt (C:Ctx) (a0 a1 a2 a3 a4:Value) (c0 c1 c2 c3:List T) (K:J2):Prop:=
 prP (bnI .eql a0 (.int .i64 1)) fun t10_1=>
 AY t10_1 (
 cl2 C 14 EH.sg [a4] [c0,c1,c2,c3] fun v2 d3=>
 K [(nx v2 0),(nx v2 1)] [(nxc d3 0),(nxc d3 1),c1,c2,(nxc d3 2)]) (
 BL (fun x5 k6=>
 AY (nx x5 1) (
 cl2 C 15 DE.sg [(nx x5 2),(nx x5 3)] [(nxc k6 0),(nxc k6 1),(nxc k6 2),(nxc k6 3)] fun v12 d13=>
 K [(nx v12 0),(nx v12 1)] [(nxc d13 0),(nxc d13 1),(nxc k6 1),(nxc d13 2),(nxc k6 3)]) (
 prP (bnI .eql (nx x5 0) (.int .i64 4)) fun t27_14=>
 AY t27_14 (
 cl2 C 16 EJ.sg [(nx x5 2),(nx x5 3),(nx x5 4),(nx x5 5),(nx x5 6)] [(nxc k6 0),(nxc k6 1),(nxc k6 2),(nxc k6 3)] fun v15 d16=>
 K [(nx v15 0),(nx v15 1)] [(nxc d16 0),(nxc d16 1),(nxc k6 1),(nxc d16 2),(nxc k6 3)]) (
 prP (bnI .eql (nx x5 0) (.int .i64 7)) fun t32_17=>
 AY t32_17 (
 cl2 C 17 FA.sg [(nx x5 3)] [(nxc k6 0),(nxc k6 1),(nxc k6 2),(nxc k6 3)] fun v18 d19=>
 K [(nx v18 0),(nx v18 1)] [(nxc d19 0),(nxc k6 0),(nxc d19 1),(nxc k6 2),(nxc k6 3)]) (
 BL (fun x21 k22=>
 AY (nx x21 1) (
 cl2 C 18 D7.sg [(nx x21 2),(nx x21 3)] [(nxc k22 0),(nxc k22 1),(nxc k22 2),(nxc k22 3)] fun v26 d27=>
 K [(nx v26 0),(nx v26 1)] [(nxc d27 0),(nxc k22 0),(nxc d27 1),(nxc k22 2),(nxc k22 3)]) (
 prP (bnI .eql (nx x21 0) (.int .i64 10)) fun t47_28=>
 AY t47_28 (
 cl2 C 19 GQ.sg [] [(nxc k22 0),(nxc k22 1),(nxc k22 2),(nxc k22 3)] fun v29 d30=>
 K [(.int .i64 0),(.int .i64 0)] [(nxc d30 4),(nxc d30 0),(nxc d30 1),(nxc d30 2),(nxc d30 3)]) (
 cl2 C 20 BK.sg [(.int .i64 2)] [] fun v31 d32=>
 K [(nx v31 0),(nx v31 1)] [(nxc d32 0),(nxc k22 0),(nxc k22 1),(nxc k22 2),(nxc k22 3)]))) fun j23=>
 prP (bnI .eql (nx x5 0) (.int .i64 8)) fun t38_24=>
 AY t38_24 (
 j23 [(nx x5 0),t38_24,(nx x5 2),(nx x5 3),(nx x5 4),(nx x5 5),(nx x5 6),(nx x5 7),(nx x5 8)] [(nxc k6 0),(nxc k6 1),(nxc k6 2),(nxc k6 3)]) (
 prP (bnI .eql (nx x5 0) (.int .i64 9)) fun t39_25=>
 j23 [(nx x5 0),t39_25,(nx x5 2),(nx x5 3),(nx x5 4),(nx x5 5),(nx x5 6),(nx x5 7),(nx x5 8)] [(nxc k6 0),(nxc k6 1),(nxc k6 2),(nxc k6 3)]))))) fun j7=>
 prP (bnI .eql a0 (.int .i64 2)) fun t16_8=>
 AY t16_8 (
 j7 [a0,t16_8,a0,a1,a2,a3,a4,(.int .i64 0),(.int .i64 0)] [c0,c1,c2,c3]) (
 prP (bnI .eql a0 (.int .i64 3)) fun t17_9=>
 AY t17_9 (
 j7 [a0,t17_9,a0,a1,a2,a3,a4,(.int .i64 0),(.int .i64 0)] [c0,c1,c2,c3]) (
 prP (bnI .eql a0 (.int .i64 5)) fun t18_10=>
 AY t18_10 (
 j7 [a0,t18_10,a0,a1,a2,a3,a4,(.int .i64 0),(.int .i64 0)] [c0,c1,c2,c3]) (
 prP (bnI .eql a0 (.int .i64 6)) fun t19_11=>
 j7 [a0,t19_11,a0,a1,a2,a3,a4,(.int .i64 0),(.int .i64 0)] [c0,c1,c2,c3]))))
theorem EI.cl2 {w0:World} {a0 a1 a2 a3 a4:Value} {c0 c1 c2 c3:List T} {K:J2} (h:EI.txt ⟨Tryd.prog,w0⟩ a0 a1 a2 a3 a4 c0 c1 c2 c3 K):Eng.cl2 ⟨Tryd.prog,w0⟩ 10 EI.sg [a0,a1,a2,a3,a4] [c0,c1,c2,c3] K:=
 AX (C:=⟨Tryd.prog,w0⟩) (f:=10) (fn:=Tryd.f10) [(14,EH.sg),(15,DE.sg),(16,EJ.sg),(17,FA.sg),(18,D7.sg),(19,GQ.sg),(20,BK.sg)] [] [(107,⟨[.p (.j 0) 0, .p (.j 1) 0, .p (.j 2) 0, .v, .v],[.p (.j 0) 0],[.bx [.t (.j 3) 8, .t (.j 4) 2, .t (.j 5) 1, .t (.j 6) 1], .bx [.v, .v, .v, .v, .v], .bx [.v, .v, .z], .ls, .ls, .ls, .ls]⟩),(6911,⟨[.p (.j 0) 0, .p (.j 1) 0, .p (.j 2) 0, .v, .v],[.p (.j 0) 0],[.bx [.t (.j 3) 8, .t (.j 4) 2, .t (.j 5) 1, .t (.j 6) 1], .bx [.v, .v, .v, .v, .v], .bx [.v, .v, .z], .ls, .ls, .ls, .ls]⟩)] Tryd.func10 (by kernel_rfl) (by kernel_rfl) (by kernel_rfl) h
def JB.sg:Sg:=⟨[(0,[.t 5 0])],[(1,[.t 8, .t 2, .t 1, .t 1]),(0,[.t 3])],[]⟩
def JB.txt (C:Ctx) (c0:List T) (K:J2):Prop:=
 cl2 C 8 GR.sg [] [] fun v1 d2=>
 C5 C 9 5 (cnt 5 c0) fun t11_3=>
 A6 (fun r6 x4 k5=>
 prP (bnI .lss (nx x4 3) (nx x4 2)) fun t14_15=>
 AY t14_15 (
 ixW (AB (nx x4 0)) (nx x4 3) fun t15_16=>
 ldg c0 [] ((AB (nx x4 1))+((AB t15_16)*5)) [.c, .c, .c, .c, .c] fun ts17=>
 cl2 C 10 EI.sg [(tv (nxT ts17 0)),(tv (nxT ts17 1)),(tv (nxT ts17 2)),(tv (nxT ts17 3)),(tv (nxT ts17 4))] [(nxc k5 1),(nxc k5 2),(nxc k5 3),(nxc k5 4)] fun v18 d19=>
 apW [T.c (nx v18 0),T.c (nx v18 1),T.l 1 (nxc d19 0)] false (cnt 3 (nxc k5 0)) (cnt 3 [T.c (nx v18 0),T.c (nx v18 1),T.l 1 (nxc d19 0)]) 40 (
 prP (bnI .add (nx x4 3) (.int .i64 1)) fun t23_20=>
 r6 [(iv (AB (nx x4 0))),(iv (AB (nx x4 1))),(nx x4 2),t23_20] [((nxc k5 0)++[T.c (nx v18 0),T.c (nx v18 1),T.l 1 (nxc d19 0)]),(nxc d19 1),(nxc d19 2),(nxc d19 3),(nxc d19 4)])) (
 K [] [(nxc k5 1),(nxc k5 2),(nxc k5 3),(nxc k5 4),(nxc k5 0)])) [(iv (AB t11_3)),(iv 0),(iv (AB t11_3)),(.int .i64 0)] [[],(nxc d2 0),(nxc d2 1),(nxc d2 2),(nxc d2 3)]
theorem JB.cl2 {w0:World} {c0:List T} {K:J2} (h:JB.txt ⟨Tryd.prog,w0⟩ c0 K):Eng.cl2 ⟨Tryd.prog,w0⟩ 6 JB.sg [] [c0] K:=
 AX (C:=⟨Tryd.prog,w0⟩) (f:=6) (fn:=Tryd.f6) [(8,GR.sg),(9,YF.sg),(10,EI.sg)] [] [(122,⟨[.p (.j 0) 0, .p (.j 1) 0, .t (.j 2) 3, .s (.f 0) 0 5, .v, .v],[],[.bx [.z, .z, .z, .z], .bx [.t (.j 3) 8, .t (.j 4) 2, .t (.j 5) 1, .t (.j 6) 1], .ls, .ls, .ls, .ls, .ls]⟩)] Tryd.func6 (by kernel_rfl) (by kernel_rfl) (by kernel_rfl) h
end Go.Proofs.YthapfcoajahegaaDoor.P
