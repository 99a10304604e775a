/- A part of the proof. -/
import Derived.Test.YtnhicpkhkaihoaaChecked
import Derived.Test.YtnhicpkhkaihoaaCkPZ1
import Derived.KernelRfl
namespace Go.Proofs.Ytnhicpkhkaihoaa.P
open Go Go.Proofs.Ytnhicpkhkaihoaa Go.Proofs.Ytnhicpkhkaihoaa.Eng
set_option linter.unusedVariables false
set_option maxRecDepth 100000
def CW.sg:Sg:=⟨[(0,[.t 1 0]),(0,[.v])],[(0,[.v])],[]⟩
def CW.txt (C:Ctx) (a0:Value) (c0:List T) (K:J2):Prop:=
 BD (fun r3 x1 k2=>
 prP (bnI .lss (nx x1 1) (iv (cnt 1 c0))) fun t9_5=>
 AU t9_5 (
 ixW (cnt 1 c0) (nx x1 1) fun t14_6=>
 ldc c0 [] ((AA t14_6)*1) fun t15_7=>
 cl2 C 107 CD.sg [(nx x1 0)] [] fun v8 d9=>
 prP (bnS .neq t15_7 (nx v8 0)) fun t18_11=>
 AU t18_11 (
 K [(.int .i64 (-1))] []) (
 prP (bnI .add (nx x1 0) (.int .i64 1)) fun t20_12=>
 prP (bnI .add (nx x1 1) (.int .i64 1)) fun t11_13=>
 r3 [t20_12,t11_13] [])) (
 K [(nx x1 0)] [])) [a0,(.int .i64 0)] []
theorem CW.cl2 {w0:World} {a0:Value} {c0:List T} {K:J2} (h:CW.txt ⟨Try.prog,w0⟩ a0 c0 K):Eng.cl2 ⟨Try.prog,w0⟩ 104 CW.sg [a0] [c0] K:=
 AE (C:=⟨Try.prog,w0⟩) (f:=104) (fn:=Try.f104) [(107,CD.sg)] [(4,[0,0,3,7,0,16,63])] [(26,⟨[.t (.f 0) 1, .v, .v],[],[]⟩)] Try.func104 (by kernel_rfl) (by kernel_rfl) (by kernel_rfl) h
def DL.sg:Sg:=⟨[(0,[.v]),(0,[.v])],[(0,[.v])],[]⟩
def DL.txt (C:Ctx) (a0 a1:Value) (K:J2):Prop:=
 prP (lnS a0) fun t6_1=>
 prP (lnS a1) fun t8_2=>
 prP (bnI .geq t6_1 t8_2) fun t9_3=>
 gE t9_3 (
 gE t9_3 (
 gP t9_3 true (prP (lnS a1)) fun t13_4=>
 gP t9_3 true (prP (scS a0 none (some t13_4))) fun t14_5=>
 gE t9_3 (
 gP t9_3 true (prP (bnS .eql t14_5 a1)) fun t16_6=>
 prP (pk t9_3 t16_6 (.bool false)) fun t17_7=>
 K [t17_7] [])))
theorem DL.cl2 {w0:World} {a0 a1:Value} {K:J2} (h:DL.txt ⟨Try.prog,w0⟩ a0 a1 K):Eng.cl2 ⟨Try.prog,w0⟩ 230 DL.sg [a0,a1] [] K:=
 AE (C:=⟨Try.prog,w0⟩) (f:=230) (fn:=Try.f230) [] [] [] Try.func230 (by kernel_rfl) (by kernel_rfl) (by kernel_rfl) h
def GH.sg:Sg:=⟨[(0,[.v]),(0,[.v])],[(0,[.v]),(0,[.v])],[]⟩
def GH.txt (C:Ctx) (a0 a1:Value) (K:J2):Prop:=
 cl2 C 230 DL.sg [a0,a1] [] fun v1 d2=>
 prP (un .not (nx v1 0)) fun t9_4=>
 AU t9_4 (
 K [a0,(.bool false)] []) (
 prP (lnS a1) fun t13_5=>
 prP (scS a0 (some t13_5) none) fun t14_6=>
 K [t14_6,(.bool true)] [])
theorem GH.cl2 {w0:World} {a0 a1:Value} {K:J2} (h:GH.txt ⟨Try.prog,w0⟩ a0 a1 K):Eng.cl2 ⟨Try.prog,w0⟩ 210 GH.sg [a0,a1] [] K:=
 AE (C:=⟨Try.prog,w0⟩) (f:=210) (fn:=Try.f210) [(230,DL.sg)] [] [] Try.func210 (by kernel_rfl) (by kernel_rfl) (by kernel_rfl) h
def F6.sg:Sg:=⟨[(0,[.t 5 1]),(0,[.v])],[(0,[.v])],[]⟩
def F6.txt (C:Ctx) (a0:Value) (c0:List T) (K:J2):Prop:=
 BD (fun r3 x1 k2=>
 prP (bnI .lss (nx x1 1) (iv (cnt 5 (nxc k2 0)))) fun t9_5=>
 AU t9_5 (
 ixW (cnt 5 (nxc k2 0)) (nx x1 1) fun t15_6=>
 stc (nxc k2 0) [] ((AA t15_6)*5) (nx x1 0) fun k7=>
 prP (bnI .add (nx x1 0) (.int .i64 1)) fun t18_8=>
 ixW (cnt 5 k7) (nx x1 1) fun t22_9=>
 stc k7 [] (((AA t22_9)*5)+1) t18_8 fun k10=>
 prP (bnI .add t18_8 (.int .i64 1)) fun t25_11=>
 ixW (cnt 5 k10) (nx x1 1) fun t29_12=>
 stc k10 [] (((AA t29_12)*5)+2) t25_11 fun k13=>
 prP (bnI .add t25_11 (.int .i64 1)) fun t32_14=>
 ixW (cnt 5 k13) (nx x1 1) fun t36_15=>
 stc k13 [] (((AA t36_15)*5)+3) t32_14 fun k16=>
 prP (bnI .add t32_14 (.int .i64 1)) fun t39_17=>
 cl2 C 107 CD.sg [t39_17] [] fun v18 d19=>
 ixW (cnt 5 k16) (nx x1 1) fun t44_21=>
 stc k16 [] (((AA t44_21)*5)+4) (nx v18 0) fun k22=>
 prP (bnI .add t39_17 (.int .i64 1)) fun t47_23=>
 prP (bnI .add (nx x1 1) (.int .i64 1)) fun t11_24=>
 r3 [t47_23,t11_24] [k22]) (
 K [(nx x1 0)] [(nxc k2 0)])) [a0,(.int .i64 0)] [c0]
theorem F6.cl2 {w0:World} {a0:Value} {c0:List T} {K:J2} (h:F6.txt ⟨Try.prog,w0⟩ a0 c0 K):Eng.cl2 ⟨Try.prog,w0⟩ 45 F6.sg [a0] [c0] K:=
 AE (C:=⟨Try.prog,w0⟩) (f:=45) (fn:=Try.f45) [(107,CD.sg)] [] [(26,⟨[.t (.j 0) 5, .v, .v],[.t (.j 0) 5],[.ls]⟩)] Try.func45 (by kernel_rfl) (by kernel_rfl) (by kernel_rfl) h
def DC.sg:Sg:=⟨[(0,[.t 3 1]),(0,[.v])],[(0,[.v])],[]⟩
def DC.txt (C:Ctx) (a0:Value) (c0:List T) (K:J2):Prop:=
 BD (fun r3 x1 k2=>
 prP (bnI .lss (nx x1 1) (iv (cnt 3 (nxc k2 0)))) fun t9_5=>
 AU t9_5 (
 ixW (cnt 3 (nxc k2 0)) (nx x1 1) fun t15_6=>
 stc (nxc k2 0) [] ((AA t15_6)*3) (nx x1 0) fun k7=>
 prP (bnI .add (nx x1 0) (.int .i64 1)) fun t18_8=>
 ixW (cnt 3 k7) (nx x1 1) fun t22_9=>
 stc k7 [] (((AA t22_9)*3)+1) t18_8 fun k10=>
 prP (bnI .add t18_8 (.int .i64 1)) fun t25_11=>
 ixW (cnt 3 k10) (nx x1 1) fun t28_12=>
 ldl k10 [] (((AA t28_12)*3)+2) 1 fun t30_13=>
 cl2 C 20 CL.sg [t25_11] [(FI k10 [(((AA t28_12)*3)+2)])] fun v14 d15=>
 prP (bnI .add (nx x1 1) (.int .i64 1)) fun t11_16=>
 r3 [(nx v14 0),t11_16] [(HE k10 [(((AA t28_12)*3)+2)] (nxc d15 0))]) (
 K [(nx x1 0)] [(nxc k2 0)])) [a0,(.int .i64 0)] [c0]
theorem DC.cl2 {w0:World} {a0:Value} {c0:List T} {K:J2} (h:DC.txt ⟨Try.prog,w0⟩ a0 c0 K):Eng.cl2 ⟨Try.prog,w0⟩ 46 DC.sg [a0] [c0] K:=
 AE (C:=⟨Try.prog,w0⟩) (f:=46) (fn:=Try.f46) [(20,CL.sg)] [] [(26,⟨[.t (.j 0) 3, .v, .v],[.t (.j 0) 3],[.ls]⟩)] Try.func46 (by kernel_rfl) (by kernel_rfl) (by kernel_rfl) h
def CX.sg:Sg:=⟨[(0,[.t 3 0]),(0,[.v])],[(0,[.v])],[]⟩
def CX.txt (C:Ctx) (a0:Value) (c0:List T) (K:J2):Prop:=
 BD (fun r3 x1 k2=>
 prP (bnI .lss (nx x1 1) (iv (cnt 3 c0))) fun t9_5=>
 AU t9_5 (
 ixW (cnt 3 c0) (nx x1 1) fun t14_6=>
 ldc c0 [] ((AA t14_6)*3) fun t16_7=>
 prP (bnI .neq t16_7 (nx x1 0)) fun t18_8=>
 AU t18_8 (
 K [(.int .i64 (-1))] []) (
 prP (bnI .add (nx x1 0) (.int .i64 1)) fun t20_9=>
 ixW (cnt 3 c0) (nx x1 1) fun t23_10=>
 ldc c0 [] (((AA t23_10)*3)+1) fun t25_11=>
 prP (bnI .neq t25_11 t20_9) fun t27_12=>
 AU t27_12 (
 K [(.int .i64 (-1))] []) (
 prP (bnI .add t20_9 (.int .i64 1)) fun t29_13=>
 ixW (cnt 3 c0) (nx x1 1) fun t32_14=>
 ldl c0 [] (((AA t32_14)*3)+2) 1 fun t34_15=>
 cl2 C 21 CY.sg [t29_13] [(FI c0 [(((AA t32_14)*3)+2)])] fun v16 d17=>
 prP (bnI .lss (nx v16 0) (.int .i64 0)) fun t38_19=>
 AU t38_19 (
 K [(.int .i64 (-1))] []) (
 prP (bnI .add (nx x1 1) (.int .i64 1)) fun t11_20=>
 r3 [(nx v16 0),t11_20] [])))) (
 K [(nx x1 0)] [])) [a0,(.int .i64 0)] []
theorem CX.cl2 {w0:World} {a0:Value} {c0:List T} {K:J2} (h:CX.txt ⟨Try.prog,w0⟩ a0 c0 K):Eng.cl2 ⟨Try.prog,w0⟩ 48 CX.sg [a0] [c0] K:=
 AE (C:=⟨Try.prog,w0⟩) (f:=48) (fn:=Try.f48) [(21,CY.sg)] [] [(26,⟨[.t (.f 0) 3, .v, .v],[],[]⟩)] Try.func48 (by kernel_rfl) (by kernel_rfl) (by kernel_rfl) h
def C7.sg:Sg:=⟨[(1,[.t 8 0, .t 2 0, .t 1 0, .t 1 0])],[(1,[.t 8, .t 2, .t 1, .t 1])],[]⟩
def C7.txt (C:Ctx) (c0 c1 c2 c3:List T) (K:J2):Prop:=
 apW c1 true (cnt 2 []) (cnt 2 c1) 16 (
 apW c2 true (cnt 1 []) (cnt 1 c2) 8 (
 apW c3 true (cnt 1 []) (cnt 1 c3) 16 (
 BD (fun r3 x1 k2=>
 prP (bnI .lss (nx x1 0) (iv (cnt 8 c0))) fun t23_10=>
 AU t23_10 (
 ixW (cnt 8 c0) (nx x1 0) fun t29_11=>
 ldg c0 [] ((AA t29_11)*8) [.c, .c, .c, .c, .c, .c, .l 1, .c] fun ts12=>
 apW (FI c0 [(((AA t29_11)*8)+6)]) true (cnt 1 []) (cnt 1 (FI c0 [(((AA t29_11)*8)+6)])) 8 (
 apW [T.c (tv (nxT ts12 0)),T.c (tv (nxT ts12 1)),T.c (tv (nxT ts12 2)),T.c (tv (nxT ts12 3)),T.c (tv (nxT ts12 4)),T.c (tv (nxT ts12 5)),T.l 1 ([]++(FI c0 [(((AA t29_11)*8)+6)])),T.c (tv (nxT ts12 7))] false (cnt 8 (nxc k2 0)) (cnt 8 [T.c (tv (nxT ts12 0)),T.c (tv (nxT ts12 1)),T.c (tv (nxT ts12 2)),T.c (tv (nxT ts12 3)),T.c (tv (nxT ts12 4)),T.c (tv (nxT ts12 5)),T.l 1 ([]++(FI c0 [(((AA t29_11)*8)+6)])),T.c (tv (nxT ts12 7))]) 80 (
 prP (bnI .add (nx x1 0) (.int .i64 1)) fun t25_13=>
 r3 [t25_13] [((nxc k2 0)++[T.c (tv (nxT ts12 0)),T.c (tv (nxT ts12 1)),T.c (tv (nxT ts12 2)),T.c (tv (nxT ts12 3)),T.c (tv (nxT ts12 4)),T.c (tv (nxT ts12 5)),T.l 1 ([]++(FI c0 [(((AA t29_11)*8)+6)])),T.c (tv (nxT ts12 7))]),(nxc k2 1),(nxc k2 2),(nxc k2 3)]))) (
 K [] [(nxc k2 0),(nxc k2 1),(nxc k2 2),(nxc k2 3)])) [(.int .i64 0)] [[],([]++c1),([]++c2),([]++c3)])))
theorem C7.cl2 {w0:World} {c0 c1 c2 c3:List T} {K:J2} (h:C7.txt ⟨Try.prog,w0⟩ c0 c1 c2 c3 K):Eng.cl2 ⟨Try.prog,w0⟩ 134 C7.sg [] [c0,c1,c2,c3] K:=
 AE (C:=⟨Try.prog,w0⟩) (f:=134) (fn:=Try.f134) [] [(1,[0,0,2,7,0,0,32,127,0,0,512,2047,4095,0,16383])] [(58,⟨[.p (.j 0) 0, .p (.j 1) 0, .p (.j 2) 0, .v],[],[.bx [.t (.f 0) 8, .t (.f 1) 2, .t (.f 2) 1, .t (.f 3) 1], .bx [.z, .z, .z, .z], .bx [.t (.j 3) 8, .t (.j 4) 2, .t (.j 5) 1, .t (.j 6) 1], .ls, .ls, .ls, .ls]⟩)] Try.func134 (by kernel_rfl) (by kernel_rfl) (by kernel_rfl) h
def D7.sg:Sg:=⟨[(1,[.t 8 0, .t 2 0, .t 1 0, .t 1 0]),(0,[.v])],[(0,[.v])],[]⟩
def D7.txt (C:Ctx) (a0:Value) (c0 c1 c2 c3:List T) (K:J2):Prop:=
 prP (bnI .sub (iv (cnt 8 c0)) (.int .i64 1)) fun t13_1=>
 cl2 C 154 B7.sg [a0,(.int .i64 0),t13_1] [] fun v2 d3=>
 prP (un .not (nx v2 0)) fun t15_5=>
 gE t15_5 (
 gE t15_5 (
 gE t15_5 (
 gP t15_5 false (ixW (cnt 8 c0) a0) fun t20_6=>
 gE t15_5 (
 gP t15_5 false (ldc c0 [] ((AA t20_6)*8)) fun t22_7=>
 gP t15_5 false (prP (un .not t22_7)) fun t23_8=>
 prP (pk t15_5 (.bool true) t23_8) fun t24_9=>
 AU t24_9 (
 K [(.int .i64 0)] []) (
 ixW (cnt 8 c0) a0 fun t29_10=>
 ldc c0 [] (((AA t29_10)*8)+1) fun t31_11=>
 cl2 C 79 EJ.sg [a0,t31_11] [] fun v12 d13=>
 BD (fun r17 x15 k16=>
 prP (bnI .lss (nx x15 2) (iv (cnt 8 c0))) fun t37_19=>
 AU t37_19 (
 BD (fun r22 x20 k21=>
 ixW (cnt 8 c0) (nx x20 2) fun t44_24=>
 ldl c0 [] (((AA t44_24)*8)+6) 1 fun t46_25=>
 prP (bnI .lss (nx x20 3) (iv (cnt 1 (FI c0 [(((AA t44_24)*8)+6)])))) fun t48_26=>
 gE t48_26 (
 gE t48_26 (
 gE t48_26 (
 gP t48_26 true (ixW (cnt 8 c0) (nx x20 2)) fun t53_27=>
 gE t48_26 (
 gP t48_26 true (ldc c0 [] ((AA t53_27)*8)) fun t55_28=>
 prP (pk t48_26 t55_28 (.bool false)) fun t56_29=>
 AU t56_29 (
 BW (fun x31 k32=>
 prP (bnI .add (nx x31 3) (.int .i64 1)) fun t58_40=>
 r22 [(nx x31 0),(nx x31 1),(nx x31 2),t58_40] []) fun j33=>
 ixW (cnt 8 c0) (nx x20 2) fun t62_34=>
 ldl c0 [] (((AA t62_34)*8)+6) 1 fun t64_35=>
 ixW (cnt 1 (FI c0 [(((AA t62_34)*8)+6)])) (nx x20 3) fun t66_36=>
 ldc c0 [(((AA t62_34)*8)+6)] ((AA t66_36)*1) fun t67_37=>
 prP (bnI .eql t67_37 (nx x20 1)) fun t69_38=>
 AU t69_38 (
 prP (bnI .add (nx x20 0) (.int .i64 1)) fun t71_39=>
 j33 [t71_39,(nx x20 1),(nx x20 2),(nx x20 3)] []) (
 j33 [(nx x20 0),(nx x20 1),(nx x20 2),(nx x20 3)] [])) (
 prP (bnI .add (nx x20 2) (.int .i64 1)) fun t39_41=>
 r17 [(nx x20 0),(nx x20 1),t39_41] [])))))) [(nx x15 0),(nx x15 1),(nx x15 2),(.int .i64 0)] []) (
 K [(nx x15 0)] [])) [(.int .i64 0),(nx v12 0),(.int .i64 0)] [])))))
theorem D7.cl2 {w0:World} {a0:Value} {c0 c1 c2 c3:List T} {K:J2} (h:D7.txt ⟨Try.prog,w0⟩ a0 c0 c1 c2 c3 K):Eng.cl2 ⟨Try.prog,w0⟩ 189 D7.sg [a0] [c0,c1,c2,c3] K:=
 AE (C:=⟨Try.prog,w0⟩) (f:=189) (fn:=Try.f189) [(154,B7.sg),(79,EJ.sg)] [] [(64073,⟨[.p (.j 0) 0, .v, .v, .v, .v],[],[.bx [.t (.f 0) 8, .t (.f 1) 2, .t (.f 2) 1, .t (.f 3) 1]]⟩),(16018,⟨[.p (.j 0) 0, .v, .v, .v, .v],[],[.bx [.t (.f 0) 8, .t (.f 1) 2, .t (.f 2) 1, .t (.f 3) 1]]⟩),(250,⟨[.p (.j 0) 0, .v, .v, .v],[],[.bx [.t (.f 0) 8, .t (.f 1) 2, .t (.f 2) 1, .t (.f 3) 1]]⟩)] Try.func189 (by kernel_rfl) (by kernel_rfl) (by kernel_rfl) h
def FP.sg:Sg:=⟨[(0,[.t 1 0]),(0,[.v])],[(0,[.v])],[]⟩
def FP.txt (C:Ctx) (a0:Value) (c0:List T) (K:J2):Prop:=
 BD (fun r3 x1 k2=>
 prP (bnI .lss (nx x1 1) (iv (cnt 1 c0))) fun t9_5=>
 AU t9_5 (
 ixW (cnt 1 c0) (nx x1 1) fun t14_6=>
 ldc c0 [] ((AA t14_6)*1) fun t15_7=>
 prP (bnI .eql t15_7 (nx x1 0)) fun t17_8=>
 AU t17_8 (
 K [(.bool true)] []) (
 prP (bnI .add (nx x1 1) (.int .i64 1)) fun t11_9=>
 r3 [(nx x1 0),t11_9] [])) (
 K [(.bool false)] [])) [a0,(.int .i64 0)] []
theorem FP.cl2 {w0:World} {a0:Value} {c0:List T} {K:J2} (h:FP.txt ⟨Try.prog,w0⟩ a0 c0 K):Eng.cl2 ⟨Try.prog,w0⟩ 190 FP.sg [a0] [c0] K:=
 AE (C:=⟨Try.prog,w0⟩) (f:=190) (fn:=Try.f190) [] [] [(26,⟨[.t (.f 0) 1, .v, .v],[],[]⟩)] Try.func190 (by kernel_rfl) (by kernel_rfl) (by kernel_rfl) h
end Go.Proofs.Ytnhicpkhkaihoaa.P
