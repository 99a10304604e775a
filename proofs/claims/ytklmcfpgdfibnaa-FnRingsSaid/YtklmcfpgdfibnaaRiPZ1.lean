/- A part of the proof. -/
import Derived.Test.YtklmcfpgdfibnaaChecked
import Derived.Test.YtklmcfpgdfibnaaRiPZ0
import Derived.KernelRfl
namespace Go.Proofs.Ytklmcfpgdfibnaa.P
open Go Go.Proofs.Ytklmcfpgdfibnaa Go.Proofs.Ytklmcfpgdfibnaa.Eng
set_option linter.unusedVariables false
set_option maxRecDepth 100000
def IQ.sg:Sg:=⟨[(0,[.t 1 0]),(0,[.v])],[(0,[.v])],[]⟩
def IQ.txt (C:Ctx) (a0:Value) (c0:List T) (K:J2):Prop:=
 prP (bnI .lss a0 (iv (cnt 1 c0))) fun t8_1=>
 AW t8_1 (
 ixW (cnt 1 c0) a0 fun t11_2=>
 ldc c0 [] ((AD t11_2)*1) fun t12_3=>
 prP (cvI .i64 t12_3) fun t13_4=>
 K [t13_4] []) (
 prP (bnI .mul a0 (.int .i64 37)) fun t15_5=>
 prP (bnI .mul (iv (cnt 1 c0)) (.int .i64 11)) fun t18_6=>
 prP (bnI .add t15_5 t18_6) fun t19_7=>
 prP (bnI .rem t19_7 (.int .i64 256)) fun t20_8=>
 K [t20_8] [])
theorem IQ.cl2 {w0:World} {a0:Value} {c0:List T} {K:J2} (h:IQ.txt ⟨Try.prog,w0⟩ a0 c0 K):Eng.cl2 ⟨Try.prog,w0⟩ 38 IQ.sg [a0] [c0] K:=
 AV (C:=⟨Try.prog,w0⟩) (f:=38) (fn:=Try.f38) [] [] [] Try.func38 (by kernel_rfl) (by kernel_rfl) (by kernel_rfl) h
def FH.sg:Sg:=⟨[(0,[.v])],[(1,[.v, .v, .v, .v, .v, .v, .t 1, .v])],[]⟩
def FH.txt (C:Ctx) (a0:Value) (K:J2):Prop:=
 K [(.bool false),a0,(.int .i64 0),(.int .i64 0),(.int .i64 0),(.int .i64 0),(.bool false)] [[T.c (.int .i64 (-1)),T.c (.int .i64 (-1)),T.c (.int .i64 (-1))]]
theorem FH.cl2 {w0:World} {a0:Value} {K:J2} (h:FH.txt ⟨Try.prog,w0⟩ a0 K):Eng.cl2 ⟨Try.prog,w0⟩ 99 FH.sg [a0] [] K:=
 AV (C:=⟨Try.prog,w0⟩) (f:=99) (fn:=Try.f99) [] [] [] Try.func99 (by kernel_rfl) (by kernel_rfl) (by kernel_rfl) h
def EW.sg:Sg:=⟨[],[(1,[.t 8, .t 2, .t 1, .t 1])],[]⟩
def EW.txt (C:Ctx) (K:J2):Prop:=
 mkW 16 (.int .i64 8) (.int .i64 8) fun n1=>
 AZ (fun r4 x2 k3=>
 prP (bnI .lss (nx x2 0) (.int .i64 8)) fun t5_11=>
 AW t5_11 (
 cl2 C 99 FH.sg [(.int .i64 0)] [] fun v12 d13=>
 apW [T.c (nx v12 0),T.c (nx v12 1),T.c (nx v12 2),T.c (nx v12 3),T.c (nx v12 4),T.c (nx v12 5),T.l 1 (nxc d13 0),T.c (nx v12 6)] false (cnt 8 (nxc k3 0)) (cnt 8 [T.c (nx v12 0),T.c (nx v12 1),T.c (nx v12 2),T.c (nx v12 3),T.c (nx v12 4),T.c (nx v12 5),T.l 1 (nxc d13 0),T.c (nx v12 6)]) 80 (
 prP (bnI .add (nx x2 0) (.int .i64 1)) fun t12_14=>
 r4 [t12_14] [((nxc k3 0)++[T.c (nx v12 0),T.c (nx v12 1),T.c (nx v12 2),T.c (nx v12 3),T.c (nx v12 4),T.c (nx v12 5),T.l 1 (nxc d13 0),T.c (nx v12 6)]),(nxc k3 1)])) (
 K [] [(nxc k3 0),(nxc k3 1),[],[]])) [(.int .i64 0)] [[],(VT (AD n1) [T.c (.bool false),T.c (.int .i64 0)])]
theorem EW.cl2 {w0:World} {K:J2} (h:EW.txt ⟨Try.prog,w0⟩ K):Eng.cl2 ⟨Try.prog,w0⟩ 77 EW.sg [] [] K:=
 AV (C:=⟨Try.prog,w0⟩) (f:=77) (fn:=Try.f77) [(99,FH.sg)] [(4,[0,1,0,4,15,31,63])] [(58,⟨[.p (.j 0) 0, .p (.j 1) 0, .v],[],[.bx [.z, .z, .z, .z], .bx [.t (.j 2) 8, .t (.j 3) 2, .z, .z], .ls, .ls]⟩)] Try.func77 (by kernel_rfl) (by kernel_rfl) (by kernel_rfl) h
def Y1.sg:Sg:=⟨[(0,[.t 5 0])],[(9,[])],[]⟩
def ED.sg:Sg:=⟨[(1,[.t 8 0, .t 2 0, .t 1 0, .t 1 0])],[(0,[.v])],[]⟩
def ED.txt (C:Ctx) (c0 c1 c2 c3:List T) (K:J2):Prop:=
 AZ (fun r3 x1 k2=>
 prP (bnI .lss (nx x1 1) (nx x1 0)) fun t9_5=>
 AW t9_5 (
 ixW (cnt 8 c0) (nx x1 1) fun t11_6=>
 ldg c0 [] ((AD t11_6)*8) [.c, .c, .c, .c, .c, .c, .l 1, .c] fun ts7=>
 prP (bnI .lss (nx x1 1) (.int .i64 8)) fun t14_8=>
 gE t14_8 (
 gE t14_8 (
 gP t14_8 true (prP (un .not (tv (nxT ts7 0)))) fun t18_9=>
 prP (pk t14_8 t18_9 (.bool false)) fun t19_10=>
 gE t19_10 (
 gE t19_10 (
 gP t19_10 true (prP (bnI .lss (tv (nxT ts7 1)) (.int .i64 999))) fun t23_11=>
 prP (pk t19_10 t23_11 (.bool false)) fun t24_12=>
 AW t24_12 (
 K [(nx x1 1)] []) (
 prP (bnI .add (nx x1 1) (.int .i64 1)) fun t26_13=>
 r3 [(nx x1 0),t26_13] [])))))) (
 K [(.int .i64 (-1))] [])) [(iv (cnt 8 c0)),(.int .i64 0)] []
theorem ED.cl2 {w0:World} {c0 c1 c2 c3:List T} {K:J2} (h:ED.txt ⟨Try.prog,w0⟩ c0 c1 c2 c3 K):Eng.cl2 ⟨Try.prog,w0⟩ 75 ED.sg [] [c0,c1,c2,c3] K:=
 AV (C:=⟨Try.prog,w0⟩) (f:=75) (fn:=Try.f75) [] [] [(26,⟨[.t (.f 0) 8, .v, .v],[],[]⟩)] Try.func75 (by kernel_rfl) (by kernel_rfl) (by kernel_rfl) h
def EK.sg:Sg:=⟨[(0,[.t 1 0]),(0,[.v])],[(0,[.v])],[]⟩
def EK.txt (C:Ctx) (a0:Value) (c0:List T) (K:J2):Prop:=
 AZ (fun r3 x1 k2=>
 prP (bnI .lss (nx x1 2) (nx x1 1)) fun t10_5=>
 AW t10_5 (
 ixW (cnt 1 c0) (nx x1 2) fun t12_6=>
 ldc c0 [] ((AD t12_6)*1) fun t13_7=>
 prP (bnS .eql t13_7 (nx x1 0)) fun t16_8=>
 AW t16_8 (
 K [(nx x1 2)] []) (
 prP (bnI .add (nx x1 2) (.int .i64 1)) fun t18_9=>
 r3 [(nx x1 0),(nx x1 1),t18_9] [])) (
 K [(.int .i64 (-1))] [])) [a0,(iv (cnt 1 c0)),(.int .i64 0)] []
theorem EK.cl2 {w0:World} {a0:Value} {c0:List T} {K:J2} (h:EK.txt ⟨Try.prog,w0⟩ a0 c0 K):Eng.cl2 ⟨Try.prog,w0⟩ 162 EK.sg [a0] [c0] K:=
 AV (C:=⟨Try.prog,w0⟩) (f:=162) (fn:=Try.f162) [] [] [(26,⟨[.v, .t (.f 0) 1, .v, .v],[],[]⟩)] Try.func162 (by kernel_rfl) (by kernel_rfl) (by kernel_rfl) h
def CW.sg:Sg:=⟨[(0,[.v]),(0,[.v]),(0,[.v])],[(0,[.v])],[]⟩
def CW.txt (C:Ctx) (a0 a1 a2:Value) (K:J2):Prop:=
 prP (bnI .geq a0 a1) fun t9_1=>
 gE t9_1 (
 gE t9_1 (
 gP t9_1 true (prP (bnI .leq a0 a2)) fun t13_2=>
 prP (pk t9_1 t13_2 (.bool false)) fun t14_3=>
 K [t14_3] []))
theorem CW.cl2 {w0:World} {a0 a1 a2:Value} {K:J2} (h:CW.txt ⟨Try.prog,w0⟩ a0 a1 a2 K):Eng.cl2 ⟨Try.prog,w0⟩ 131 CW.sg [a0,a1,a2] [] K:=
 AV (C:=⟨Try.prog,w0⟩) (f:=131) (fn:=Try.f131) [] [] [] Try.func131 (by kernel_rfl) (by kernel_rfl) (by kernel_rfl) h
def BO.sg:Sg:=⟨[(0,[.v])],[(1,[.v, .v, .t 1])],[]⟩
def BO.txt (C:Ctx) (a0:Value) (K:J2):Prop:=
 K [a0,(.int .i64 0)] [[]]
theorem BO.cl2 {w0:World} {a0:Value} {K:J2} (h:BO.txt ⟨Try.prog,w0⟩ a0 K):Eng.cl2 ⟨Try.prog,w0⟩ 107 BO.sg [a0] [] K:=
 AV (C:=⟨Try.prog,w0⟩) (f:=107) (fn:=Try.f107) [] [] [] Try.func107 (by kernel_rfl) (by kernel_rfl) (by kernel_rfl) h
def CJ.sg:Sg:=⟨[(0,[.v]),(0,[.v])],[(0,[.v])],[]⟩
def CJ.txt (C:Ctx) (a0 a1:Value) (K:J2):Prop:=
 cl2 C 131 CW.sg [a0,(.int .i64 0),(.int .i64 7)] [] fun v1 d2=>
 prP (un .not (nx v1 0)) fun t7_4=>
 gE t7_4 (
 gP t7_4 false ((fun K=>cl2 C 131 CW.sg [a1,(.int .i64 1),(.int .i64 999)] [] fun v5 d6=>K (nx v5 0))) fun t10_7=>
 gP t7_4 false (prP (un .not t10_7)) fun t11_8=>
 prP (pk t7_4 (.bool true) t11_8) fun t12_9=>
 AW t12_9 (
 K [(.int .i64 (-1))] []) (
 prP (bnI .mul (.int .i64 8) a1) fun t15_10=>
 prP (bnI .add a0 t15_10) fun t16_11=>
 K [t16_11] []))
theorem CJ.cl2 {w0:World} {a0 a1:Value} {K:J2} (h:CJ.txt ⟨Try.prog,w0⟩ a0 a1 K):Eng.cl2 ⟨Try.prog,w0⟩ 98 CJ.sg [a0,a1] [] K:=
 AV (C:=⟨Try.prog,w0⟩) (f:=98) (fn:=Try.f98) [(131,CW.sg)] [] [] Try.func98 (by kernel_rfl) (by kernel_rfl) (by kernel_rfl) h
def DG.sg:Sg:=⟨[(2,[.t 8 2, .t 2 0, .t 1 0, .t 1 2]),(0,[.v])],[(1,[.v, .v, .t 1])],[[.t 8, .a 1, .a 2, .t 1]]⟩
def DG.txt (C:Ctx) (a0:Value) (c0 c1 c2 c3:List T) (K:J2):Prop:=
 cl2 C 75 ED.sg [] [c0,c1,c2,c3] fun v1 d2=>
 cl2 C 162 EK.sg [a0] [c3] fun v4 d5=>
 BJ (fun x8 k9=>
 ixW (cnt 8 (nxc k9 0)) (nx x8 0) fun t63_27=>
 ldc (nxc k9 0) [] (((AD t63_27)*8)+1) fun t65_28=>
 prP (bnI .add t65_28 (.int .i64 1)) fun t66_29=>
 ixW (cnt 8 (nxc k9 0)) (nx x8 0) fun t76_30=>
 stg (nxc k9 0) [] ((AD t76_30)*8) [T.c (.bool true),T.c t66_29,T.c (nx x8 1),T.c (.int .i64 1),T.c (.int .i64 0),T.c (.int .i64 1),T.l 1 [T.c (.int .i64 (-1)),T.c (.int .i64 (-1)),T.c (.int .i64 (-1))],T.c (.bool false)] fun k31=>
 cl2 C 98 CJ.sg [(nx x8 0),t66_29] [] fun v32 d33=>
 K [(.int .i64 0),(nx v32 0)] [[],k31,(nxc k9 1)]) fun j10=>
 prP (lnS a0) fun t20_11=>
 cl2 C 131 CW.sg [t20_11,(.int .i64 1),(.int .i64 8)] [] fun v12 d13=>
 prP (un .not (nx v12 0)) fun t22_15=>
 AW t22_15 (
 cl2 C 107 BO.sg [(.int .i64 2)] [] fun v16 d17=>
 K [(nx v16 0),(nx v16 1)] [(nxc d17 0),c0,c3]) (
 prP (bnI .lss (nx v1 0) (.int .i64 0)) fun t26_18=>
 AW t26_18 (
 cl2 C 107 BO.sg [(.int .i64 3)] [] fun v19 d20=>
 K [(nx v19 0),(nx v19 1)] [(nxc d20 0),c0,c3]) (
 prP (bnI .lss (nx v4 0) (.int .i64 0)) fun t30_21=>
 gE t30_21 (
 gE t30_21 (
 gE t30_21 (
 gE t30_21 (
 gE t30_21 (
 gP t30_21 true (prP (bnI .geq (iv (cnt 1 c3)) (.int .i64 6))) fun t37_22=>
 prP (pk t30_21 t37_22 (.bool false)) fun t38_23=>
 AW t38_23 (
 cl2 C 107 BO.sg [(.int .i64 6)] [] fun v24 d25=>
 K [(nx v24 0),(nx v24 1)] [(nxc d25 0),c0,c3]) (
 prP (bnI .lss (nx v4 0) (.int .i64 0)) fun t42_26=>
 AW t42_26 (
 apW [T.c a0] true (cnt 1 c3) (cnt 1 [T.c a0]) 16 (
 j10 [(nx v1 0),(iv (cnt 1 c3)),(.int .i64 0),(.int .i64 0)] [c0,(c3++[T.c a0])])) (
 j10 [(nx v1 0),(nx v4 0),(.int .i64 0),(.int .i64 0)] [c0,c3])))))))))
theorem DG.cl2 {w0:World} {a0:Value} {c0 c1 c2 c3:List T} {K:J2} (h:DG.txt ⟨Try.prog,w0⟩ a0 c0 c1 c2 c3 K):Eng.cl2 ⟨Try.prog,w0⟩ 144 DG.sg [a0] [c0,c1,c2,c3] K:=
 AV (C:=⟨Try.prog,w0⟩) (f:=144) (fn:=Try.f144) [(75,ED.sg),(162,EK.sg),(131,CW.sg),(107,BO.sg),(98,CJ.sg)] [] [(15,⟨[.p (.j 0) 0, .p (.j 1) 0, .v, .v],[.p (.j 0) 0, .w, .t (.f 0) 2, .t (.f 1) 1, .w],[.bx [.t (.j 2) 8, .t (.f 0) 2, .t (.f 1) 1, .t (.j 3) 1], .bx [.v, .v, .z], .ls, .ls]⟩)] Try.func144 (by kernel_rfl) (by kernel_rfl) (by kernel_rfl) h
def BD.sg:Sg:=⟨[(1,[.t 8 0, .t 2 0, .t 1 0, .t 1 0]),(0,[.v])],[(0,[.v])],[]⟩
def BD.txt (C:Ctx) (a0:Value) (c0 c1 c2 c3:List T) (K:J2):Prop:=
 prP (bnI .lss a0 (.int .i64 8)) fun t8_1=>
 gE t8_1 (
 gE t8_1 (
 gE t8_1 (
 gP t8_1 false (prP (bnI .neq (iv (cnt 8 c0)) (.int .i64 8))) fun t13_2=>
 prP (pk t8_1 (.bool true) t13_2) fun t14_3=>
 AW t14_3 (
 K [(.int .i64 (-1))] []) (
 prP (bnI .rem a0 (.int .i64 8)) fun t16_4=>
 ixW (cnt 8 c0) t16_4 fun t20_5=>
 ldg c0 [] ((AD t20_5)*8) [.c, .c, .c, .c, .c, .c, .l 1, .c] fun ts6=>
 prP (un .not (tv (nxT ts6 0))) fun t24_7=>
 gE t24_7 (
 gE t24_7 (
 gE t24_7 (
 gP t24_7 false (prP (bnI .quo a0 (.int .i64 8))) fun t29_8=>
 gP t24_7 false (prP (bnI .neq (tv (nxT ts6 1)) t29_8)) fun t30_9=>
 prP (pk t24_7 (.bool true) t30_9) fun t31_10=>
 AW t31_10 (
 K [(.int .i64 (-1))] []) (
 K [t16_4] []))))))))
theorem BD.cl2 {w0:World} {a0:Value} {c0 c1 c2 c3:List T} {K:J2} (h:BD.txt ⟨Try.prog,w0⟩ a0 c0 c1 c2 c3 K):Eng.cl2 ⟨Try.prog,w0⟩ 81 BD.sg [a0] [c0,c1,c2,c3] K:=
 AV (C:=⟨Try.prog,w0⟩) (f:=81) (fn:=Try.f81) [] [] [] Try.func81 (by kernel_rfl) (by kernel_rfl) (by kernel_rfl) h
def C0.sg:Sg:=⟨[(2,[.t 8 2, .t 2 0, .t 1 0, .t 1 0]),(0,[.v])],[],[[.t 8, .a 1, .a 2, .a 3]]⟩
def C0.txt (C:Ctx) (a0:Value) (c0 c1 c2 c3:List T) (K:J2):Prop:=
 cl2 C 81 BD.sg [a0] [c0,c1,c2,c3] fun v1 d2=>
 prP (bnI .geq (nx v1 0) (.int .i64 0)) fun t11_4=>
 AW t11_4 (
 ixW (cnt 8 c0) (nx v1 0) fun t17_5=>
 ldc c0 [] (((AD t17_5)*8)+5) fun t19_6=>
 prP (bnI .add t19_6 (.int .i64 1)) fun t20_7=>
 ixW (cnt 8 c0) (nx v1 0) fun t21_8=>
 stc c0 [] (((AD t21_8)*8)+5) t20_7 fun k9=>
 K [] [k9]) (
 K [] [c0])
theorem C0.cl2 {w0:World} {a0:Value} {c0 c1 c2 c3:List T} {K:J2} (h:C0.txt ⟨Try.prog,w0⟩ a0 c0 c1 c2 c3 K):Eng.cl2 ⟨Try.prog,w0⟩ 163 C0.sg [a0] [c0,c1,c2,c3] K:=
 AV (C:=⟨Try.prog,w0⟩) (f:=163) (fn:=Try.f163) [(81,BD.sg)] [] [] Try.func163 (by kernel_rfl) (by kernel_rfl) (by kernel_rfl) h
def CG.sg:Sg:=⟨[(0,[.t 1 0])],[(0,[.t 1])],[]⟩
def CG.txt (C:Ctx) (c0:List T) (K:J2):Prop:=
 apW c0 true 0 (cnt 1 c0) 8 (
 K [] [([]++c0)])
theorem CG.cl2 {w0:World} {c0:List T} {K:J2} (h:CG.txt ⟨Try.prog,w0⟩ c0 K):Eng.cl2 ⟨Try.prog,w0⟩ 141 CG.sg [] [c0] K:=
 AV (C:=⟨Try.prog,w0⟩) (f:=141) (fn:=Try.f141) [] [] [] Try.func141 (by kernel_rfl) (by kernel_rfl) (by kernel_rfl) h
def ES.sg:Sg:=⟨[(0,[.t 1 0]),(0,[.v])],[(0,[.t 1])],[]⟩
def ES.txt (C:Ctx) (a0:Value) (c0:List T) (K:J2):Prop:=
 AZ (fun r3 x1 k2=>
 prP (bnI .lss (nx x1 2) (nx x1 1)) fun t11_15=>
 AW t11_15 (
 BJ (fun x17 k18=>
 prP (bnI .add (nx x17 2) (.int .i64 1)) fun t21_23=>
 r3 [(nx x17 0),(nx x17 1),t21_23] [(nxc k18 0)]) fun j19=>
 ixW (cnt 1 c0) (nx x1 2) fun t12_20=>
 ldc c0 [] ((AD t12_20)*1) fun t13_21=>
 prP (bnI .neq t13_21 (nx x1 0)) fun t16_22=>
 AW t16_22 (
 apW [T.c t13_21] true (cnt 1 (nxc k2 0)) (cnt 1 [T.c t13_21]) 8 (
 j19 [(nx x1 0),(nx x1 1),(nx x1 2)] [((nxc k2 0)++[T.c t13_21])])) (
 j19 [(nx x1 0),(nx x1 1),(nx x1 2)] [(nxc k2 0)])) (
 K [] [(nxc k2 0)])) [a0,(iv (cnt 1 c0)),(.int .i64 0)] [[]]
theorem ES.cl2 {w0:World} {a0:Value} {c0:List T} {K:J2} (h:ES.txt ⟨Try.prog,w0⟩ a0 c0 K):Eng.cl2 ⟨Try.prog,w0⟩ 172 ES.sg [a0] [c0] K:=
 AV (C:=⟨Try.prog,w0⟩) (f:=172) (fn:=Try.f172) [] [] [(467,⟨[.v, .t (.j 0) 1, .t (.f 0) 1, .v, .v],[],[.ls]⟩),(58,⟨[.v, .t (.j 0) 1, .t (.f 0) 1, .v, .v],[],[.ls]⟩)] Try.func172 (by kernel_rfl) (by kernel_rfl) (by kernel_rfl) h
def C1.sg:Sg:=⟨[(2,[.t 8 2, .t 2 0, .t 1 2, .t 1 0]),(0,[.t 1 0])],[(0,[.t 1])],[[.t 8, .a 1, .t 1, .a 3]]⟩
def C1.txt (C:Ctx) (c0 c1 c2 c3 c4:List T) (K:J2):Prop:=
 cl2 C 141 CG.sg [] [c4] fun v1 d2=>
 AZ (fun r5 x3 k4=>
 prP (bnI .gtr (iv (AD (nx x3 0))) (.int .i64 0)) fun t16_51=>
 gE t16_51 (
 gE t16_51 (
 gP t16_51 true (prP (bnI .leq (iv (cnt 1 (nxc k4 0))) (.int .i64 8))) fun t20_52=>
 prP (pk t16_51 t20_52 (.bool false)) fun t21_53=>
 AW t21_53 (
 ixW (AD (nx x3 0)) (.int .i64 0) fun t23_54=>
 ldc (nxc k4 1) [] ((AD (nx x3 1))+((AD t23_54)*1)) fun t24_55=>
 scW (AD (nx x3 0)) (some (.int .i64 1)) none fun l56 m57=>
 cl2 C 81 BD.sg [t24_55] [(nxc k4 2),c1,(nxc k4 3),c3] fun v58 d59=>
 prP (bnI .lss (nx v58 0) (.int .i64 0)) fun t33_61=>
 AW t33_61 (
 r5 [(iv (AD m57)),(iv ((AD (nx x3 1))+((AD l56)*1)))] [(nxc k4 0),(nxc k4 1),(nxc k4 2),(nxc k4 3)]) (
 ixW (cnt 8 (nxc k4 2)) (nx v58 0) fun t39_62=>
 ldc (nxc k4 2) [] (((AD t39_62)*8)+5) fun t43_63=>
 prP (bnI .sub t43_63 (.int .i64 1)) fun t44_64=>
 stc (nxc k4 2) [] (((AD t39_62)*8)+5) t44_64 fun k65=>
 ldc k65 [] (((AD t39_62)*8)+5) fun t51_66=>
 prP (bnI .gtr t51_66 (.int .i64 0)) fun t52_67=>
 gE t52_67 (
 gE t52_67 (
 gE t52_67 (
 gP t52_67 true (ldc k65 [] (((AD t39_62)*8)+7)) fun t57_68=>
 gP t52_67 true (prP (un .not t57_68)) fun t58_69=>
 prP (pk t52_67 t58_69 (.bool false)) fun t59_70=>
 AW t59_70 (
 stc k65 [] (((AD t39_62)*8)+7) (.bool true) fun k71=>
 apW [T.c t24_55] true (cnt 1 (nxc k4 3)) (cnt 1 [T.c t24_55]) 8 (
 r5 [(iv (AD m57)),(iv ((AD (nx x3 1))+((AD l56)*1)))] [(nxc k4 0),(nxc k4 1),k71,((nxc k4 3)++[T.c t24_55])])) (
 ldc k65 [] (((AD t39_62)*8)+5) fun t77_72=>
 prP (bnI .leq t77_72 (.int .i64 0)) fun t78_73=>
 AW t78_73 (
 apW [T.c t24_55] true (cnt 1 (nxc k4 0)) (cnt 1 [T.c t24_55]) 8 (
 ldl k65 [] (((AD t39_62)*8)+6) 1 fun t86_74=>
 AZ (fun r77 x75 k76=>
 prP (bnI .lss (nx x75 6) (nx x75 5)) fun t89_79=>
 AW t89_79 (
 BJ (fun x81 k82=>
 prP (bnI .add (nx x81 6) (.int .i64 1)) fun t98_87=>
 r77 [(iv (AD (nx x81 0))),(iv (AD (nx x81 1))),(nx x81 2),(iv (AD (nx x81 3))),(iv (AD (nx x81 4))),(nx x81 5),t98_87] [(nxc k82 0),(nxc k82 1),(nxc k82 2),(nxc k82 3)]) fun j83=>
 ixW (cnt 1 (HX (nxc k76 2) [(AD (nx x75 4))])) (nx x75 6) fun t90_84=>
 ldc (nxc k76 2) [(AD (nx x75 4))] ((AD t90_84)*1) fun t91_85=>
 prP (bnI .geq t91_85 (.int .i64 0)) fun t93_86=>
 AW t93_86 (
 apW [T.c t91_85] true (AD (nx x75 0)) (cnt 1 [T.c t91_85]) 8 (
 j83 [(iv (cnt 1 ((I2 (nxc k76 1) [] (AD (nx x75 1)) ((AD (nx x75 0))*1))++[T.c t91_85]))),(iv 0),(nx x75 2),(iv (AD (nx x75 3))),(iv (AD (nx x75 4))),(nx x75 5),(nx x75 6)] [(nxc k76 0),((I2 (nxc k76 1) [] (AD (nx x75 1)) ((AD (nx x75 0))*1))++[T.c t91_85]),(nxc k76 2),(nxc k76 3)])) (
 j83 [(iv (AD (nx x75 0))),(iv (AD (nx x75 1))),(nx x75 2),(iv (AD (nx x75 3))),(iv (AD (nx x75 4))),(nx x75 5),(nx x75 6)] [(nxc k76 0),(nxc k76 1),(nxc k76 2),(nxc k76 3)])) (
 cl2 C 172 ES.sg [(nx x75 2)] [(nxc k76 3)] fun v88 d89=>
 ldc (nxc k76 2) [] ((AD (nx x75 3))+1) fun t112_90=>
 cl2 C 99 FH.sg [t112_90] [] fun v91 d92=>
 stg (nxc k76 2) [] (AD (nx x75 3)) [T.c (nx v91 0),T.c (nx v91 1),T.c (nx v91 2),T.c (nx v91 3),T.c (nx v91 4),T.c (nx v91 5),T.l 1 (nxc d92 0),T.c (nx v91 6)] fun k93=>
 r5 [(iv (AD (nx x75 0))),(iv (AD (nx x75 1)))] [(nxc k76 0),(nxc k76 1),k93,(nxc d89 0)])) [(iv (AD m57)),(iv ((AD (nx x3 1))+((AD l56)*1))),t24_55,(iv ((AD t39_62)*8)),(iv (((AD t39_62)*8)+6)),(iv (cnt 1 (HX k65 [(((AD t39_62)*8)+6)]))),(.int .i64 0)] [((nxc k4 0)++[T.c t24_55]),(nxc k4 1),k65,(nxc k4 3)])) (
 r5 [(iv (AD m57)),(iv ((AD (nx x3 1))+((AD l56)*1)))] [(nxc k4 0),(nxc k4 1),k65,(nxc k4 3)]))))))) (
 K [] [(nxc k4 0),(nxc k4 2),(nxc k4 3)])))) [(iv (cnt 1 (nxc d2 0))),(iv 0)] [[],(nxc d2 0),c0,c2]
theorem C1.cl2 {w0:World} {c0 c1 c2 c3 c4:List T} {K:J2} (h:C1.txt ⟨Try.prog,w0⟩ c0 c1 c2 c3 c4 K):Eng.cl2 ⟨Try.prog,w0⟩ 164 C1.sg [] [c0,c1,c2,c3,c4] K:=
 AV (C:=⟨Try.prog,w0⟩) (f:=164) (fn:=Try.f164) [(141,CG.sg),(81,BD.sg),(172,ES.sg),(99,FH.sg)] [] [(126613331,⟨[.p (.j 0) 0, .t (.j 1) 1, .s (.j 2) 0 1, .v, .e (.j 3) 0, .n (.j 3) 1 1, .v, .v],[.p (.j 0) 0, .w, .t (.f 0) 2, .w, .t (.f 1) 1, .t (.f 2) 1],[.bx [.t (.j 3) 8, .t (.f 0) 2, .t (.j 4) 1, .t (.f 1) 1], .ls, .ls, .ls, .ls]⟩),(15826666,⟨[.p (.j 0) 0, .t (.j 1) 1, .s (.j 2) 0 1, .v, .e (.j 3) 0, .n (.j 3) 1 1, .v, .v],[.p (.j 0) 0, .w, .t (.f 0) 2, .w, .t (.f 1) 1, .t (.f 2) 1],[.bx [.t (.j 3) 8, .t (.f 0) 2, .t (.j 4) 1, .t (.f 1) 1], .ls, .ls, .ls, .ls]⟩),(60,⟨[.p (.j 0) 0, .t (.j 1) 1, .s (.j 2) 0 1],[.p (.j 0) 0, .w, .t (.f 0) 2, .w, .t (.f 1) 1, .t (.f 2) 1],[.bx [.t (.j 3) 8, .t (.f 0) 2, .t (.j 4) 1, .t (.f 1) 1], .ls, .ls, .ls, .ls]⟩)] Try.func164 (by kernel_rfl) (by kernel_rfl) (by kernel_rfl) h
def CX.sg:Sg:=⟨[(2,[.t 8 2, .t 2 0, .t 1 2, .t 1 0]),(0,[.v]),(0,[.v])],[(1,[.v, .v, .t 1])],[[.t 8, .a 1, .t 1, .a 3]]⟩
def CX.txt (C:Ctx) (a0 a1:Value) (c0 c1 c2 c3:List T) (K:J2):Prop:=
 cl2 C 81 BD.sg [a1] [c0,c1,c2,c3] fun v1 d2=>
 prP (bnI .lss (nx v1 0) (.int .i64 0)) fun t15_4=>
 AW t15_4 (
 cl2 C 107 BO.sg [(.int .i64 1)] [] fun v5 d6=>
 K [(nx v5 0),(nx v5 1)] [(nxc d6 0),c0,c2]) (
 ixW (cnt 8 c0) (nx v1 0) fun t22_7=>
 BJ (fun x9 k10=>
 prP (bnI .eql (nx x9 0) (.int .i64 2)) fun t38_16=>
 gE t38_16 (
 gP t38_16 false (prP (bnI .eql (nx x9 0) (.int .i64 5))) fun t41_17=>
 prP (pk t38_16 (.bool true) t41_17) fun t42_18=>
 AW t42_18 (
 ldc (nxc k10 0) [] (AD (nx x9 2)) fun t45_19=>
 prP (bnI .eql t45_19 (.int .i64 20)) fun t46_20=>
 AW t46_20 (
 cl2 C 107 BO.sg [(.int .i64 4)] [] fun v21 d22=>
 K [(nx v21 0),(nx v21 1)] [(nxc d22 0),(nxc k10 0),(nxc k10 1)]) (
 ldc (nxc k10 0) [] (AD (nx x9 2)) fun t50_23=>
 prP (bnI .add t50_23 (.int .i64 1)) fun t51_24=>
 stc (nxc k10 0) [] (AD (nx x9 2)) t51_24 fun k25=>
 cl2 C 163 C0.sg [(nx x9 1)] [k25,c1,(nxc k10 1),c3] fun v26 d27=>
 K [(.int .i64 0),(.int .i64 0)] [[],(nxc d27 0),(nxc k10 1)])) (
 ldc (nxc k10 0) [] (AD (nx x9 2)) fun t59_28=>
 prP (bnI .eql t59_28 (.int .i64 0)) fun t60_29=>
 AW t60_29 (
 cl2 C 107 BO.sg [(.int .i64 5)] [] fun v30 d31=>
 K [(nx v30 0),(nx v30 1)] [(nxc d31 0),(nxc k10 0),(nxc k10 1)]) (
 ldc (nxc k10 0) [] (AD (nx x9 2)) fun t64_32=>
 prP (bnI .sub t64_32 (.int .i64 1)) fun t65_33=>
 stc (nxc k10 0) [] (AD (nx x9 2)) t65_33 fun k34=>
 cl2 C 164 C1.sg [] [k34,c1,(nxc k10 1),c3,[T.c (nx x9 1)]] fun v35 d36=>
 K [(.int .i64 0),(.int .i64 0)] [(nxc d36 0),(nxc d36 1),(nxc d36 2)])))) fun j11=>
 prP (bnI .eql a0 (.int .i64 5)) fun t25_12=>
 gE t25_12 (
 gP t25_12 false (prP (bnI .eql a0 (.int .i64 6))) fun t28_13=>
 prP (pk t25_12 (.bool true) t28_13) fun t29_14=>
 AW t29_14 (
 ixW (cnt 8 c0) (nx v1 0) fun t35_15=>
 j11 [a0,a1,(iv (((AD t35_15)*8)+4)),(.int .i64 0),(.int .i64 0)] [c0,c2]) (
 j11 [a0,a1,(iv (((AD t22_7)*8)+3)),(.int .i64 0),(.int .i64 0)] [c0,c2])))
theorem CX.cl2 {w0:World} {a0 a1:Value} {c0 c1 c2 c3:List T} {K:J2} (h:CX.txt ⟨Try.prog,w0⟩ a0 a1 c0 c1 c2 c3 K):Eng.cl2 ⟨Try.prog,w0⟩ 145 CX.sg [a0,a1] [c0,c1,c2,c3] K:=
 AV (C:=⟨Try.prog,w0⟩) (f:=145) (fn:=Try.f145) [(81,BD.sg),(107,BO.sg),(163,C0.sg),(164,C1.sg)] [] [(31,⟨[.p (.j 0) 0, .v, .v, .p (.j 1) 0, .e (.j 2) 0],[.p (.j 0) 0, .w, .t (.f 0) 2, .w, .t (.f 1) 1],[.bx [.t (.j 2) 8, .t (.f 0) 2, .t (.j 3) 1, .t (.f 1) 1], .bx [.v, .v, .z], .ls, .ls]⟩)] Try.func145 (by kernel_rfl) (by kernel_rfl) (by kernel_rfl) h
end Go.Proofs.Ytklmcfpgdfibnaa.P
