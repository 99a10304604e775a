/- A part of the proof. -/
import Derived.Test.YtklmcfpgdfibnaaChecked
import Derived.Test.YtklmcfpgdfibnaaLkPZ5
import Derived.KernelRfl
namespace Go.Proofs.Ytklmcfpgdfibnaa.P
open Go Go.Proofs.Ytklmcfpgdfibnaa Go.Proofs.Ytklmcfpgdfibnaa.Eng
set_option linter.unusedVariables false
set_option maxRecDepth 100000
def GG.sg:Sg:=⟨[(1,[.t 8 0, .t 2 0, .t 1 0, .t 1 0])],[(0,[.t 1])],[]⟩
def GG.txt (C:Ctx) (c0 c1 c2 c3:List T) (K:J2):Prop:=
 cl2 C 30 CU.sg [] [c0,c1,c2,c3] fun v1 d2=>
 prP (bnI .neq (iv (cnt 8 c0)) (.int .i64 8)) fun t16_3=>
 A6 t16_3 (
 K [] [[]]) (
 BD (fun r6 x4 k5=>
 prP (bnI .lss (nx x4 0) (iv (cnt 1 (nxc k5 2)))) fun t21_8=>
 A6 t21_8 (
 BP (fun x10 k11=>
 prP (bnI .add (nx x10 0) (.int .i64 1)) fun t23_48=>
 r6 [t23_48] [(nxc k11 0),(nxc k11 1),(nxc k11 2)]) fun j12=>
 ixW (cnt 1 (nxc k5 2)) (nx x4 0) fun t27_13=>
 ldc (nxc k5 2) [] ((AD t27_13)*1) fun t28_14=>
 cl2 C 89 B7.sg [t28_14] [(nxc k5 1)] fun v15 d16=>
 A6 (nx v15 0) (
 j12 [(nx x4 0)] [(nxc k5 0),(nxc k5 1),(nxc k5 2)]) (
 ixW (cnt 1 (nxc k5 2)) (nx x4 0) fun t32_18=>
 ldc (nxc k5 2) [] ((AD t32_18)*1) fun t33_19=>
 prP (bnI .add (nx x4 0) (.int .i64 1)) fun t37_20=>
 BD (fun r23 x21 k22=>
 prP (bnI .lss (nx x21 1) (iv (cnt 1 (nxc k22 2)))) fun t41_25=>
 A6 t41_25 (
 BP (fun x27 k28=>
 prP (bnI .add (nx x27 1) (.int .i64 1)) fun t43_47=>
 r23 [(nx x27 0),t43_47] [(nxc k28 0),(nxc k28 1),(nxc k28 2),(nxc k28 3)]) fun j29=>
 ixW (cnt 1 (nxc k22 2)) (nx x21 0) fun t47_30=>
 ldc (nxc k22 2) [] ((AD t47_30)*1) fun t48_31=>
 ixW (cnt 1 (nxc k22 2)) (nx x21 1) fun t51_32=>
 ldc (nxc k22 2) [] ((AD t51_32)*1) fun t52_33=>
 cl2 C 26 DF.sg [t48_31,t52_33] [c0,c1,c2,c3] fun v34 d35=>
 gE (nx v34 0) (
 gE (nx v34 0) (
 gE (nx v34 0) (
 gP (nx v34 0) true (ixW (cnt 1 (nxc k22 2)) (nx x21 1)) fun t58_37=>
 gP (nx v34 0) true (ldc (nxc k22 2) [] ((AD t58_37)*1)) fun t59_38=>
 gE (nx v34 0) (
 gE (nx v34 0) (
 gP (nx v34 0) true (ixW (cnt 1 (nxc k22 2)) (nx x21 0)) fun t62_39=>
 gP (nx v34 0) true (ldc (nxc k22 2) [] ((AD t62_39)*1)) fun t63_40=>
 gP (nx v34 0) true ((fun K=>cl2 C 26 DF.sg [t59_38,t63_40] [c0,c1,c2,c3] fun v41 d42=>K (nx v41 0))) fun t64_43=>
 prP (pk (nx v34 0) t64_43 (.bool false)) fun t65_44=>
 A6 t65_44 (
 ixW (cnt 1 (nxc k22 2)) (nx x21 1) fun t70_45=>
 ldc (nxc k22 2) [] ((AD t70_45)*1) fun t71_46=>
 apW [T.c t71_46] true (cnt 1 (nxc k22 3)) (cnt 1 [T.c t71_46]) 8 (
 j29 [(nx x21 0),(nx x21 1)] [(nxc k22 0),(nxc k22 1),(nxc k22 2),((nxc k22 3)++[T.c t71_46])])) (
 j29 [(nx x21 0),(nx x21 1)] [(nxc k22 0),(nxc k22 1),(nxc k22 2),(nxc k22 3)]))))))) (
 apW (nxc k22 3) true (cnt 1 (nxc k22 1)) (cnt 1 (nxc k22 3)) 8 (
 apW [T.l 1 (nxc k22 3)] false (cnt 1 (nxc k22 0)) (cnt 1 [T.l 1 (nxc k22 3)]) 24 (
 j12 [(nx x21 0)] [((nxc k22 0)++[T.l 1 (nxc k22 3)]),((nxc k22 1)++(nxc k22 3)),(nxc k22 2)])))) [(nx x4 0),t37_20] [(nxc k5 0),(nxc k5 1),(nxc k5 2),[T.c t33_19]])) (
 K [] [(nxc k5 0)])) [(.int .i64 0)] [[],[],(nxc d2 0)])
theorem GG.cl2 {w0:World} {c0 c1 c2 c3:List T} {K:J2} (h:GG.txt ⟨Try.prog,w0⟩ c0 c1 c2 c3 K):Eng.cl2 ⟨Try.prog,w0⟩ 68 GG.sg [] [c0,c1,c2,c3] K:=
 AV (C:=⟨Try.prog,w0⟩) (f:=68) (fn:=Try.f68) [(30,CU.sg),(89,B7.sg),(26,DF.sg)] [(14,[0,0,0,6,14,0,0,96,224,511,1023,2047,2047,2047,14335,30719,2047,2047,198655,460799,1048575,2097151]),(15,[0,1,0,0,12,28,60,127,255,511])] [(1036905,⟨[.p (.j 0) 0, .t (.j 1) 1, .t (.j 2) 1, .t (.j 3) 1, .v, .p (.j 4) 0, .v],[],[.bx [.t (.f 0) 8, .t (.f 1) 2, .t (.f 2) 1, .t (.f 3) 1], .ls, .ls, .ls, .bx [.t (.j 5) 1], .ls]⟩),(259226,⟨[.p (.j 0) 0, .t (.j 1) 1, .t (.j 2) 1, .t (.j 3) 1, .v, .p (.j 4) 0, .v],[],[.bx [.t (.f 0) 8, .t (.f 1) 2, .t (.f 2) 1, .t (.f 3) 1], .ls, .ls, .ls, .bx [.t (.j 5) 1], .ls]⟩),(2025,⟨[.p (.j 0) 0, .t (.j 1) 1, .t (.j 2) 1, .t (.j 3) 1, .v],[],[.bx [.t (.f 0) 8, .t (.f 1) 2, .t (.f 2) 1, .t (.f 3) 1], .ls, .ls, .ls]⟩),(506,⟨[.p (.j 0) 0, .t (.j 1) 1, .t (.j 2) 1, .t (.j 3) 1, .v],[],[.bx [.t (.f 0) 8, .t (.f 1) 2, .t (.f 2) 1, .t (.f 3) 1], .ls, .ls, .ls]⟩)] Try.func68 (by kernel_rfl) (by kernel_rfl) (by kernel_rfl) h
def DW.sg:Sg:=⟨[(1,[.t 8 0, .t 2 0, .t 1 0, .t 1 0])],[(0,[.t 1])],[]⟩
def DW.txt (C:Ctx) (c0 c1 c2 c3:List T) (K:J2):Prop:=
 cl2 C 27 DQ.sg [] [c0,c1,c2,c3] fun v1 d2=>
 cl2 C 65 HA.sg [] [c0,c1,c2,c3] fun v3 d4=>
 BD (fun r7 x5 k6=>
 prP (bnI .lss (nx x5 1) (nx x5 0)) fun t13_25=>
 A6 t13_25 (
 BP (fun x27 k28=>
 prP (bnI .add (nx x27 1) (.int .i64 1)) fun t26_39=>
 r7 [(nx x27 0),t26_39] [(nxc k28 0),(nxc k28 1),(nxc k28 2)]) fun j29=>
 ixW (cnt 1 (nxc k6 2)) (nx x5 1) fun t14_30=>
 ldg (nxc k6 2) [] ((AD t14_30)*1) [.l 1] fun ts31=>
 ixW (cnt 1 (EK (nxc k6 2) [((AD t14_30)*1)])) (.int .i64 0) fun t19_32=>
 ldc (nxc k6 2) [((AD t14_30)*1)] ((AD t19_32)*1) fun t20_33=>
 cl2 C 91 CO.sg [t20_33] [(nxc k6 0)] fun v34 d35=>
 A6 (nx v34 0) (
 mvW (nxc k6 2) [] ((AD t14_30)*1) 1 fun d37 k38=>
 apW [T.l 1 d37] false (cnt 1 (nxc k6 1)) (cnt 1 [T.l 1 d37]) 24 (
 j29 [(nx x5 0),(nx x5 1)] [(nxc k6 0),((nxc k6 1)++[T.l 1 d37]),k38])) (
 j29 [(nx x5 0),(nx x5 1)] [(nxc k6 0),(nxc k6 1),(nxc k6 2)])) (
 K [] [(nxc k6 1)])) [(iv (cnt 1 (nxc d4 0))),(.int .i64 0)] [(nxc d2 0),[],(nxc d4 0)]
theorem DW.cl2 {w0:World} {c0 c1 c2 c3:List T} {K:J2} (h:DW.txt ⟨Try.prog,w0⟩ c0 c1 c2 c3 K):Eng.cl2 ⟨Try.prog,w0⟩ 21 DW.sg [] [c0,c1,c2,c3] K:=
 AV (C:=⟨Try.prog,w0⟩) (f:=21) (fn:=Try.f21) [(27,DQ.sg),(65,HA.sg),(91,CO.sg)] [] [(979,⟨[.t (.j 0) 1, .t (.j 1) 1, .t (.j 2) 1, .v, .v],[],[.ls, .ls, .ls]⟩),(122,⟨[.t (.j 0) 1, .t (.j 1) 1, .t (.j 2) 1, .v, .v],[],[.ls, .ls, .ls]⟩)] Try.func21 (by kernel_rfl) (by kernel_rfl) (by kernel_rfl) h
def FR.sg:Sg:=⟨[(1,[.t 8 0, .t 2 0, .t 1 0, .t 1 0]),(0,[.v])],[(0,[.v])],[]⟩
def FR.txt (C:Ctx) (a0:Value) (c0 c1 c2 c3:List T) (K:J2):Prop:=
 cl2 C 81 C1.sg [a0] [c0,c1,c2,c3] fun v1 d2=>
 prP (bnI .lss (nx v1 0) (.int .i64 0)) fun t10_4=>
 A6 t10_4 (
 K [(.int .i64 0)] []) (
 ixW (cnt 8 c0) (nx v1 0) fun t14_5=>
 ldc c0 [] (((AD t14_5)*8)+2) fun t16_6=>
 K [t16_6] [])
theorem FR.cl2 {w0:World} {a0:Value} {c0 c1 c2 c3:List T} {K:J2} (h:FR.txt ⟨Try.prog,w0⟩ a0 c0 c1 c2 c3 K):Eng.cl2 ⟨Try.prog,w0⟩ 90 FR.sg [a0] [c0,c1,c2,c3] K:=
 AV (C:=⟨Try.prog,w0⟩) (f:=90) (fn:=Try.f90) [(81,C1.sg)] [] [] Try.func90 (by kernel_rfl) (by kernel_rfl) (by kernel_rfl) h
def HD.sg:Sg:=⟨[(1,[.t 8 0, .t 2 0, .t 1 0, .t 1 0])],[(0,[.t 3])],[]⟩
def HD.txt (C:Ctx) (c0 c1 c2 c3:List T) (K:J2):Prop:=
 cl2 C 27 DQ.sg [] [c0,c1,c2,c3] fun v1 d2=>
 BD (fun r5 x3 k4=>
 prP (bnI .lss (nx x3 1) (nx x3 0)) fun t11_22=>
 A6 t11_22 (
 ixW (cnt 1 (nxc k4 1)) (nx x3 1) fun t12_23=>
 ldc (nxc k4 1) [] ((AD t12_23)*1) fun t13_24=>
 BP (fun x26 k27=>
 cl2 C 90 FR.sg [(nx x26 0)] [c0,c1,c2,c3] fun v32 d33=>
 apW [T.c (nx x26 0),T.c (nx x26 1),T.c (nx v32 0)] true (cnt 3 (nxc k27 0)) (cnt 3 [T.c (nx x26 0),T.c (nx x26 1),T.c (nx v32 0)]) 24 (
 prP (bnI .add (nx x26 3) (.int .i64 1)) fun t27_35=>
 r5 [(nx x26 2),t27_35] [((nxc k27 0)++[T.c (nx x26 0),T.c (nx x26 1),T.c (nx v32 0)]),(nxc k27 1)])) fun j28=>
 cl2 C 64 DY.sg [t13_24,t13_24] [c0,c1,c2,c3] fun v29 d30=>
 A6 (nx v29 0) (
 j28 [t13_24,(.int .i64 1),(nx x3 0),(nx x3 1)] [(nxc k4 0),(nxc k4 1)]) (
 j28 [t13_24,(.int .i64 2),(nx x3 0),(nx x3 1)] [(nxc k4 0),(nxc k4 1)])) (
 K [] [(nxc k4 0)])) [(iv (cnt 1 (nxc d2 0))),(.int .i64 0)] [[],(nxc d2 0)]
theorem HD.cl2 {w0:World} {c0 c1 c2 c3:List T} {K:J2} (h:HD.txt ⟨Try.prog,w0⟩ c0 c1 c2 c3 K):Eng.cl2 ⟨Try.prog,w0⟩ 20 HD.sg [] [c0,c1,c2,c3] K:=
 AV (C:=⟨Try.prog,w0⟩) (f:=20) (fn:=Try.f20) [(27,DQ.sg),(64,DY.sg),(90,FR.sg)] [] [(7475,⟨[.p (.j 0) 0, .t (.j 1) 3, .v, .v, .t (.j 2) 1, .v, .v],[],[.bx [.t (.f 0) 8, .t (.f 1) 2, .t (.f 2) 1, .t (.f 3) 1], .ls, .ls]⟩),(58,⟨[.p (.j 0) 0, .t (.j 1) 3, .t (.j 2) 1, .v, .v],[],[.bx [.t (.f 0) 8, .t (.f 1) 2, .t (.f 2) 1, .t (.f 3) 1], .ls, .ls]⟩)] Try.func20 (by kernel_rfl) (by kernel_rfl) (by kernel_rfl) h
def EU.sg:Sg:=⟨[(2,[.t 1 0, .v, .v])],[(1,[.t 8, .t 2, .t 1, .t 1])],[[.a 0, .v, .v]]⟩
def EU.txt (C:Ctx) (a0 a1:Value) (c0:List T) (K:J2):Prop:=
 cl2 C 95 C2.sg [a0,a1,(.int .i64 6)] [c0] fun v1 d2=>
 A6 (nx v1 0) (
 cl2 C 96 HE.sg [(nx v1 1),(nx v1 2)] [c0] fun v3 d4=>
 K [(nx v3 0),(nx v3 1)] [(nxc d4 0),(nxc d4 1),(nxc d4 2),(nxc d4 3)]) (
 cl2 C 112 BU.sg [(nx v1 1),(nx v1 2),(.int .i64 6)] [c0] fun v5 d6=>
 prP (bnI .add (.int .i64 2) (nx v5 0)) fun t19_7=>
 BD (fun r10 x8 k9=>
 prP (bnI .lss (nx x8 1) (nx x8 0)) fun t22_12=>
 A6 t22_12 (
 cl2 C 139 C5.sg [(nx x8 2),(nx x8 3)] [c0,[T.c (.string {data:= #[97]}),T.c (.string {data:= #[98]}),T.c (.string {data:= #[108,105,115,116]})]] fun v13 d14=>
 apW [T.c (.int .i64 1),T.c (.int .i64 0),T.c (.int .i64 0),T.c (.int .i64 0),T.c (nx v13 0)] true (cnt 5 (nxc k9 0)) (cnt 5 [T.c (.int .i64 1),T.c (.int .i64 0),T.c (.int .i64 0),T.c (.int .i64 0),T.c (nx v13 0)]) 48 (
 prP (bnI .add (nx x8 1) (.int .i64 1)) fun t24_15=>
 r10 [(nx x8 0),t24_15,(nx v13 1),(nx v13 2)] [((nxc k9 0)++[T.c (.int .i64 1),T.c (.int .i64 0),T.c (.int .i64 0),T.c (.int .i64 0),T.c (nx v13 0)])])) (
 BD (fun r18 x16 k17=>
 prP (bnI .mul (.int .i64 2) (nx x16 0)) fun t34_20=>
 prP (bnI .lss (nx x16 1) t34_20) fun t35_21=>
 A6 t35_21 (
 cl2 C 112 BU.sg [(nx x16 2),(nx x16 3),(nx x16 0)] [c0] fun v22 d23=>
 prP (bnI .add (nx v22 0) (.int .i64 1)) fun t42_24=>
 prP (bnI .rem t42_24 (nx x16 0)) fun t44_25=>
 BP (fun x27 k28=>
 prP (bnI .add (.int .i64 8) (nx x27 2)) fun t52_34=>
 cl2 C 112 BU.sg [(nx x27 4),(nx x27 5),(.int .i64 3)] [c0] fun v35 d36=>
 prP (bnI .add (.int .i64 8) (nx x27 3)) fun t56_37=>
 apW [T.c (.int .i64 4),T.c t52_34,T.c (nx v35 0),T.c t56_37,T.c (.string {data:= #[]})] true (cnt 5 (nxc k28 0)) (cnt 5 [T.c (.int .i64 4),T.c t52_34,T.c (nx v35 0),T.c t56_37,T.c (.string {data:= #[]})]) 48 (
 prP (bnI .add (nx x27 1) (.int .i64 1)) fun t37_38=>
 r18 [(nx x27 0),t37_38,(nx v35 1),(nx v35 2)] [((nxc k28 0)++[T.c (.int .i64 4),T.c t52_34,T.c (nx v35 0),T.c t56_37,T.c (.string {data:= #[]})])])) fun j29=>
 cl2 C 95 C2.sg [(nx v22 1),(nx v22 2),(.int .i64 2)] [c0] fun v30 d31=>
 A6 (nx v30 0) (
 cl2 C 112 BU.sg [(nx v30 1),(nx v30 2),(nx x16 0)] [c0] fun v32 d33=>
 j29 [(nx x16 0),(nx x16 1),(nx v22 0),(nx v32 0),(nx v32 1),(nx v32 2)] [(nxc k17 0)]) (
 j29 [(nx x16 0),(nx x16 1),(nx v22 0),t44_25,(nx v30 1),(nx v30 2)] [(nxc k17 0)])) (
 BD (fun r41 x39 k40=>
 prP (bnI .lss (nx x39 1) (nx x39 0)) fun t62_43=>
 A6 t62_43 (
 BP (fun x45 k46=>
 prP (bnI .add (nx x45 1) (.int .i64 1)) fun t64_52=>
 r41 [(nx x45 0),t64_52,(nx x45 2),(nx x45 3)] [(nxc k46 0)]) fun j47=>
 cl2 C 95 C2.sg [(nx x39 2),(nx x39 3),(.int .i64 4)] [c0] fun v48 d49=>
 prP (un .not (nx v48 0)) fun t67_50=>
 A6 t67_50 (
 prP (bnI .add (.int .i64 8) (nx x39 1)) fun t70_51=>
 apW [T.c (.int .i64 3),T.c t70_51,T.c (.int .i64 0),T.c (.int .i64 0),T.c (.string {data:= #[]})] true (cnt 5 (nxc k40 0)) (cnt 5 [T.c (.int .i64 3),T.c t70_51,T.c (.int .i64 0),T.c (.int .i64 0),T.c (.string {data:= #[]})]) 48 (
 j47 [(nx x39 0),(nx x39 1),(nx v48 1),(nx v48 2)] [((nxc k40 0)++[T.c (.int .i64 3),T.c t70_51,T.c (.int .i64 0),T.c (.int .i64 0),T.c (.string {data:= #[]})])])) (
 j47 [(nx x39 0),(nx x39 1),(nx v48 1),(nx v48 2)] [(nxc k40 0)])) (
 cl2 C 44 GP.sg [] [(nxc k40 0)] fun v53 d54=>
 K [(nx x39 2),(nx x39 3)] [(nxc d54 0),(nxc d54 1),(nxc d54 2),(nxc d54 3)])) [(nx x16 0),(.int .i64 0),(nx x16 2),(nx x16 3)] [(nxc k17 0)])) [(nx x8 0),(.int .i64 0),(nx x8 2),(nx x8 3)] [(nxc k9 0)])) [t19_7,(.int .i64 0),(nx v5 1),(nx v5 2)] [[]])
theorem EU.cl2 {w0:World} {a0 a1:Value} {c0:List T} {K:J2} (h:EU.txt ⟨Try.prog,w0⟩ a0 a1 c0 K):Eng.cl2 ⟨Try.prog,w0⟩ 86 EU.sg [a0,a1] [c0] K:=
 AV (C:=⟨Try.prog,w0⟩) (f:=86) (fn:=Try.f86) [(95,C2.sg),(96,HE.sg),(112,BU.sg),(139,C5.sg),(44,GP.sg)] [] [(32403,⟨[.p (.j 0) 0, .p (.j 1) 0, .t (.j 2) 5, .v, .v, .v, .v],[.p (.j 0) 0, .t (.f 0) 1],[.bx [.t (.f 0) 1, .v, .v], .bx [.z, .z, .z, .z], .ls]⟩),(4073,⟨[.p (.j 0) 0, .p (.j 1) 0, .t (.j 2) 5, .v, .v],[.p (.j 0) 0, .t (.f 0) 1],[.bx [.t (.f 0) 1, .v, .v], .bx [.z, .z, .z, .z], .ls]⟩),(1018,⟨[.p (.j 0) 0, .p (.j 1) 0, .t (.j 2) 5, .v, .v],[.p (.j 0) 0, .t (.f 0) 1],[.bx [.t (.f 0) 1, .v, .v], .bx [.z, .z, .z, .z], .ls]⟩),(506,⟨[.p (.j 0) 0, .p (.j 1) 0, .t (.j 2) 5, .v, .v],[.p (.j 0) 0, .t (.f 0) 1],[.bx [.t (.f 0) 1, .v, .v], .bx [.z, .z, .z, .z], .ls]⟩),(250,⟨[.p (.j 0) 0, .p (.j 1) 0, .t (.j 2) 5, .v, .v],[.p (.j 0) 0, .t (.f 0) 1],[.bx [.t (.f 0) 1, .v, .v], .bx [.z, .z, .z, .z], .ls]⟩)] Try.func86 (by kernel_rfl) (by kernel_rfl) (by kernel_rfl) h
def D5.sg:Sg:=⟨[(0,[.t 1 0])],[(1,[.t 8, .t 2, .t 1, .t 1])],[]⟩
def D5.txt (C:Ctx) (c0:List T) (K:J2):Prop:=
 cl2 C 85 G9.sg [] [c0] fun v1 d2=>
 cl2 C 86 EU.sg [(nx v1 0),(nx v1 1)] [c0] fun v3 d4=>
 K [] [(nxc d4 0),(nxc d4 1),(nxc d4 2),(nxc d4 3)]
theorem D5.cl2 {w0:World} {c0:List T} {K:J2} (h:D5.txt ⟨Try.prog,w0⟩ c0 K):Eng.cl2 ⟨Try.prog,w0⟩ 18 D5.sg [] [c0] K:=
 AV (C:=⟨Try.prog,w0⟩) (f:=18) (fn:=Try.f18) [(85,G9.sg),(86,EU.sg)] [] [] Try.func18 (by kernel_rfl) (by kernel_rfl) (by kernel_rfl) h
def G8.sg:Sg:=⟨[(1,[.t 8 0, .t 2 0, .t 1 0, .t 1 0])],[(0,[.t 1])],[]⟩
def G8.txt (C:Ctx) (c0 c1 c2 c3:List T) (K:J2):Prop:=
 cl2 C 68 GG.sg [] [c0,c1,c2,c3] fun v1 d2=>
 BD (fun r5 x3 k4=>
 prP (bnI .lss (nx x3 0) (iv (cnt 1 (nxc k4 1)))) fun t12_7=>
 A6 t12_7 (
 BP (fun x9 k10=>
 prP (bnI .add (nx x9 0) (.int .i64 1)) fun t14_31=>
 r5 [t14_31] [(nxc k10 0),(nxc k10 1)]) fun j11=>
 ixW (cnt 1 (nxc k4 1)) (nx x3 0) fun t17_12=>
 ldl (nxc k4 1) [] ((AD t17_12)*1) 1 fun t19_13=>
 prP (bnI .gtr (iv (cnt 1 (EK (nxc k4 1) [((AD t17_12)*1)]))) (.int .i64 1)) fun t21_14=>
 gE t21_14 (
 gE t21_14 (
 gE t21_14 (
 gP t21_14 false (ixW (cnt 1 (nxc k4 1)) (nx x3 0)) fun t26_15=>
 gE t21_14 (
 gP t21_14 false (ldl (nxc k4 1) [] ((AD t26_15)*1) 1) fun t28_16=>
 gP t21_14 false (ixW (cnt 1 (EK (nxc k4 1) [((AD t26_15)*1)])) (.int .i64 0)) fun t29_17=>
 gP t21_14 false (ldc (nxc k4 1) [((AD t26_15)*1)] ((AD t29_17)*1)) fun t30_18=>
 gE t21_14 (
 gE t21_14 (
 gP t21_14 false (ixW (cnt 1 (nxc k4 1)) (nx x3 0)) fun t33_19=>
 gE t21_14 (
 gP t21_14 false (ldl (nxc k4 1) [] ((AD t33_19)*1) 1) fun t35_20=>
 gP t21_14 false (ixW (cnt 1 (EK (nxc k4 1) [((AD t33_19)*1)])) (.int .i64 0)) fun t36_21=>
 gP t21_14 false (ldc (nxc k4 1) [((AD t33_19)*1)] ((AD t36_21)*1)) fun t37_22=>
 gP t21_14 false ((fun K=>cl2 C 26 DF.sg [t30_18,t37_22] [c0,c1,c2,c3] fun v23 d24=>K (nx v23 0))) fun t38_25=>
 prP (pk t21_14 (.bool true) t38_25) fun t39_26=>
 A6 t39_26 (
 ixW (cnt 1 (nxc k4 1)) (nx x3 0) fun t43_27=>
 ldg (nxc k4 1) [] ((AD t43_27)*1) [.l 1] fun ts28=>
 mvW (nxc k4 1) [] ((AD t43_27)*1) 1 fun d29 k30=>
 apW [T.l 1 d29] false (cnt 1 (nxc k4 0)) (cnt 1 [T.l 1 d29]) 24 (
 j11 [(nx x3 0)] [((nxc k4 0)++[T.l 1 d29]),k30])) (
 j11 [(nx x3 0)] [(nxc k4 0),(nxc k4 1)]))))))))) (
 K [] [(nxc k4 0)])) [(.int .i64 0)] [[],(nxc d2 0)]
theorem G8.cl2 {w0:World} {c0 c1 c2 c3:List T} {K:J2} (h:G8.txt ⟨Try.prog,w0⟩ c0 c1 c2 c3 K):Eng.cl2 ⟨Try.prog,w0⟩ 92 G8.sg [] [c0,c1,c2,c3] K:=
 AV (C:=⟨Try.prog,w0⟩) (f:=92) (fn:=Try.f92) [(68,GG.sg),(26,DF.sg)] [(6,[0,0,3,7,15,31,63,127,255,255,255,1791,3839,7935,16127,32511,255,255,196863,459007,983295,2031871,4129023,8388607,16777215])] [(489,⟨[.p (.j 0) 0, .t (.j 1) 1, .t (.j 2) 1, .v],[],[.bx [.t (.f 0) 8, .t (.f 1) 2, .t (.f 2) 1, .t (.f 3) 1], .ls, .ls]⟩),(122,⟨[.p (.j 0) 0, .t (.j 1) 1, .t (.j 2) 1, .v],[],[.bx [.t (.f 0) 8, .t (.f 1) 2, .t (.f 2) 1, .t (.f 3) 1], .ls, .ls]⟩)] Try.func92 (by kernel_rfl) (by kernel_rfl) (by kernel_rfl) h
def ED.sg:Sg:=⟨[(1,[.t 8 0, .t 2 0, .t 1 0, .t 1 0])],[(0,[.t 1])],[]⟩
def ED.txt (C:Ctx) (c0 c1 c2 c3:List T) (K:J2):Prop:=
 cl2 C 92 G8.sg [] [c0,c1,c2,c3] fun v1 d2=>
 cl2 C 22 FA.sg [] [c0,c1,c2,c3] fun v3 d4=>
 BD (fun r7 x5 k6=>
 prP (bnI .lss (nx x5 0) (iv (cnt 1 (nxc k6 1)))) fun t15_9=>
 A6 t15_9 (
 BP (fun x11 k12=>
 prP (bnI .add (nx x11 0) (.int .i64 1)) fun t17_25=>
 r7 [t17_25] [(nxc k12 0),(nxc k12 1),(nxc k12 2)]) fun j13=>
 ixW (cnt 1 (nxc k6 1)) (nx x5 0) fun t21_14=>
 ldl (nxc k6 1) [] ((AD t21_14)*1) 1 fun t23_15=>
 ixW (cnt 1 (EK (nxc k6 1) [((AD t21_14)*1)])) (.int .i64 0) fun t24_16=>
 ldc (nxc k6 1) [((AD t21_14)*1)] ((AD t24_16)*1) fun t25_17=>
 cl2 C 89 B7.sg [t25_17] [(nxc k6 2)] fun v18 d19=>
 A6 (nx v18 0) (
 ixW (cnt 1 (nxc k6 1)) (nx x5 0) fun t30_21=>
 ldg (nxc k6 1) [] ((AD t30_21)*1) [.l 1] fun ts22=>
 mvW (nxc k6 1) [] ((AD t30_21)*1) 1 fun d23 k24=>
 apW [T.l 1 d23] false (cnt 1 (nxc k6 0)) (cnt 1 [T.l 1 d23]) 24 (
 j13 [(nx x5 0)] [((nxc k6 0)++[T.l 1 d23]),k24,(nxc k6 2)])) (
 j13 [(nx x5 0)] [(nxc k6 0),(nxc k6 1),(nxc k6 2)])) (
 K [] [(nxc k6 0)])) [(.int .i64 0)] [[],(nxc d2 0),(nxc d4 0)]
theorem ED.cl2 {w0:World} {c0 c1 c2 c3:List T} {K:J2} (h:ED.txt ⟨Try.prog,w0⟩ c0 c1 c2 c3 K):Eng.cl2 ⟨Try.prog,w0⟩ 23 ED.sg [] [c0,c1,c2,c3] K:=
 AV (C:=⟨Try.prog,w0⟩) (f:=23) (fn:=Try.f23) [(92,G8.sg),(22,FA.sg),(89,B7.sg)] [] [(1001,⟨[.t (.j 0) 1, .t (.j 1) 1, .t (.j 2) 1, .v],[],[.ls, .ls, .ls]⟩),(250,⟨[.t (.j 0) 1, .t (.j 1) 1, .t (.j 2) 1, .v],[],[.ls, .ls, .ls]⟩)] Try.func23 (by kernel_rfl) (by kernel_rfl) (by kernel_rfl) h
def F9.sg:Sg:=⟨[(0,[.t 1 0])],[(0,[.v])],[]⟩
def F9.txt (C:Ctx) (c0:List T) (K:J2):Prop:=
 cl2 C 17 JV.sg [] [c0] fun v1 d2=>
 A6 (nx v1 0) (
 K [(.bool true)] []) (
 cl2 C 18 D5.sg [] [c0] fun v4 d5=>
 cl2 C 19 EY.sg [] [(nxc d5 0),(nxc d5 1),(nxc d5 2),(nxc d5 3)] fun v6 d7=>
 prP (un .not (nx v6 0)) fun t17_9=>
 A6 t17_9 (
 K [(.bool true)] []) (
 cl2 C 20 HD.sg [] [(nxc d5 0),(nxc d5 1),(nxc d5 2),(nxc d5 3)] fun v10 d11=>
 cl2 C 21 DW.sg [] [(nxc d5 0),(nxc d5 1),(nxc d5 2),(nxc d5 3)] fun v12 d13=>
 cl2 C 22 FA.sg [] [(nxc d5 0),(nxc d5 1),(nxc d5 2),(nxc d5 3)] fun v14 d15=>
 prP (bnI .neq (iv (cnt 3 (nxc d11 0))) (iv (cnt 1 (nxc d15 0)))) fun t27_16=>
 gE t27_16 (
 gE t27_16 (
 gE t27_16 (
 gC t27_16 false (cl2 C 23 ED.sg [] [(nxc d5 0),(nxc d5 1),(nxc d5 2),(nxc d5 3)]) fun v17 d18=>
 gE t27_16 (
 gP t27_16 false (prP (bnI .neq (iv (cnt 1 (nxc d13 0))) (iv (cnt 1 (nxc d18 0))))) fun t34_19=>
 prP (pk t27_16 (.bool true) t34_19) fun t35_20=>
 A6 t35_20 (
 K [(.bool false)] []) (
 BD (fun r23 x21 k22=>
 prP (bnI .lss (nx x21 0) (iv (cnt 3 (nxc k22 0)))) fun t39_25=>
 A6 t39_25 (
 ixW (cnt 3 (nxc k22 0)) (nx x21 0) fun t45_26=>
 ldc (nxc k22 0) [] ((AD t45_26)*3) fun t47_27=>
 cl2 C 24 BS.sg [t47_27] [(nxc k22 2),(nxc k22 3),(nxc k22 4),(nxc k22 5)] fun v28 d29=>
 prP (bnI .lss (nx v28 0) (.int .i64 0)) fun t50_31=>
 gE t50_31 (
 gE t50_31 (
 gE t50_31 (
 gP t50_31 false (ixW (cnt 8 (nxc k22 2)) (nx v28 0)) fun t55_32=>
 gE t50_31 (
 gP t50_31 false (ldc (nxc k22 2) [] (((AD t55_32)*8)+3)) fun t57_33=>
 gE t50_31 (
 gE t50_31 (
 gE t50_31 (
 gP t50_31 false (ixW (cnt 8 (nxc k22 2)) (nx v28 0)) fun t61_34=>
 gE t50_31 (
 gP t50_31 false (ldc (nxc k22 2) [] (((AD t61_34)*8)+4)) fun t63_35=>
 gP t50_31 false (prP (bnI .add t57_33 t63_35)) fun t64_36=>
 gP t50_31 false (prP (bnI .neq t64_36 (.int .i64 0))) fun t65_37=>
 prP (pk t50_31 (.bool true) t65_37) fun t66_38=>
 gE t66_38 (
 gE t66_38 (
 gE t66_38 (
 gP t66_38 false (ixW (cnt 8 (nxc k22 2)) (nx v28 0)) fun t71_39=>
 gE t66_38 (
 gP t66_38 false (ldc (nxc k22 2) [] (((AD t71_39)*8)+2)) fun t73_40=>
 gE t66_38 (
 gE t66_38 (
 gP t66_38 false (ixW (cnt 3 (nxc k22 0)) (nx x21 0)) fun t76_41=>
 gE t66_38 (
 gP t66_38 false (ldc (nxc k22 0) [] (((AD t76_41)*3)+2)) fun t78_42=>
 gP t66_38 false (prP (bnI .neq t73_40 t78_42)) fun t79_43=>
 prP (pk t66_38 (.bool true) t79_43) fun t80_44=>
 A6 t80_44 (
 K [(.bool false)] []) (
 BD (fun r47 x45 k46=>
 prP (bnI .lss (nx x45 3) (iv (cnt 1 (nxc k46 1)))) fun t84_49=>
 A6 t84_49 (
 ixW (cnt 1 (nxc k46 1)) (nx x45 3) fun t89_50=>
 ldl (nxc k46 1) [] ((AD t89_50)*1) 1 fun t91_51=>
 prP (bnI .eql (iv (cnt 1 (EK (nxc k46 1) [((AD t89_50)*1)]))) (.int .i64 0)) fun t93_52=>
 A6 t93_52 (
 K [(.bool false)] []) (
 gE (nx x45 1) (
 gE (nx x45 1) (
 gP (nx x45 1) false (ixW (cnt 1 (nxc k46 1)) (nx x45 3)) fun t98_53=>
 gE (nx x45 1) (
 gP (nx x45 1) false (ldl (nxc k46 1) [] ((AD t98_53)*1) 1) fun t100_54=>
 gE (nx x45 1) (
 gE (nx x45 1) (
 gP (nx x45 1) false (ixW (cnt 3 (nxc k46 0)) (nx x45 0)) fun t103_55=>
 gE (nx x45 1) (
 gP (nx x45 1) false (ldc (nxc k46 0) [] ((AD t103_55)*3)) fun t105_56=>
 gP (nx x45 1) false ((fun K=>cl2 C 25 JU.sg [t105_56] [(EK (nxc k46 1) [((AD t98_53)*1)])] fun v57 d58=>K (nx v57 0))) fun t106_59=>
 prP (pk (nx x45 1) (.bool true) t106_59) fun t107_60=>
 gE (nx x45 2) (
 gE (nx x45 2) (
 gE (nx x45 2) (
 gP (nx x45 2) false (ixW (cnt 1 (nxc k46 1)) (nx x45 3)) fun t113_61=>
 gE (nx x45 2) (
 gP (nx x45 2) false (ldl (nxc k46 1) [] ((AD t113_61)*1) 1) fun t115_62=>
 gP (nx x45 2) false (ixW (cnt 1 (EK (nxc k46 1) [((AD t113_61)*1)])) (.int .i64 0)) fun t116_63=>
 gP (nx x45 2) false (ldc (nxc k46 1) [((AD t113_61)*1)] ((AD t116_63)*1)) fun t117_64=>
 gE (nx x45 2) (
 gE (nx x45 2) (
 gP (nx x45 2) false (ixW (cnt 3 (nxc k46 0)) (nx x45 0)) fun t120_65=>
 gE (nx x45 2) (
 gP (nx x45 2) false (ldc (nxc k46 0) [] ((AD t120_65)*3)) fun t122_66=>
 gP (nx x45 2) false ((fun K=>cl2 C 26 DF.sg [t117_64,t122_66] [(nxc k46 2),(nxc k46 3),(nxc k46 4),(nxc k46 5)] fun v67 d68=>K (nx v67 0))) fun t123_69=>
 prP (pk (nx x45 2) (.bool true) t123_69) fun t124_70=>
 prP (bnI .add (nx x45 3) (.int .i64 1)) fun t86_71=>
 r47 [(nx x45 0),t107_60,t124_70,t86_71] [(nxc k46 0),(nxc k46 1),(nxc k46 2),(nxc k46 3),(nxc k46 4),(nxc k46 5)]))))))))))))))) (
 ixW (cnt 3 (nxc k46 0)) (nx x45 0) fun t128_72=>
 ldc (nxc k46 0) [] (((AD t128_72)*3)+1) fun t130_73=>
 prP (bnI .eql t130_73 (.int .i64 1)) fun t131_74=>
 prP (bnB .neq (nx x45 1) t131_74) fun t132_75=>
 gE t132_75 (
 gP t132_75 false (prP (un .not (nx x45 1))) fun t135_76=>
 gE t132_75 (
 gE (B9 t132_75 false t135_76) (
 gP (B9 t132_75 false t135_76) true (prP (un .not (nx x45 2))) fun t138_77=>
 gE (B9 t132_75 false t135_76) (
 gE (B9 (B9 t132_75 false t135_76) true t138_77) (
 gE (B9 (B9 t132_75 false t135_76) true t138_77) (
 gP (B9 (B9 t132_75 false t135_76) true t138_77) false (ixW (cnt 3 (nxc k46 0)) (nx x45 0)) fun t142_78=>
 gE (B9 (B9 t132_75 false t135_76) true t138_77) (
 gP (B9 (B9 t132_75 false t135_76) true t138_77) false (ldc (nxc k46 0) [] (((AD t142_78)*3)+1)) fun t144_79=>
 gP (B9 (B9 t132_75 false t135_76) true t138_77) false (prP (bnI .neq t144_79 (.int .i64 2))) fun t145_80=>
 gP (B9 t132_75 false t135_76) true (prP (pk t138_77 (.bool true) t145_80)) fun t146_81=>
 gP t132_75 false (prP (pk t135_76 t146_81 (.bool false))) fun t147_82=>
 prP (pk t132_75 (.bool true) t147_82) fun t148_83=>
 A6 t148_83 (
 K [(.bool false)] []) (
 prP (bnI .add (nx x45 0) (.int .i64 1)) fun t41_84=>
 r23 [t41_84] [(nxc k46 0),(nxc k46 1),(nxc k46 2),(nxc k46 3),(nxc k46 4),(nxc k46 5)])))))))))) [(nx x21 0),(.bool false),(.bool false),(.int .i64 0)] [(nxc k22 0),(nxc k22 1),(nxc k22 2),(nxc k22 3),(nxc k22 4),(nxc k22 5)]))))))))))))))))) (
 cl2 C 27 DQ.sg [] [(nxc k22 2),(nxc k22 3),(nxc k22 4),(nxc k22 5)] fun v85 d86=>
 prP (bnI .eql (iv (cnt 1 (nxc d86 0))) (iv (cnt 3 (nxc k22 0)))) fun t154_87=>
 K [t154_87] [])) [(.int .i64 0)] [(nxc d11 0),(nxc d13 0),(nxc d5 0),(nxc d5 1),(nxc d5 2),(nxc d5 3)])))))))
theorem F9.cl2 {w0:World} {c0:List T} {K:J2} (h:F9.txt ⟨Try.prog,w0⟩ c0 K):Eng.cl2 ⟨Try.prog,w0⟩ 3 F9.sg [] [c0] K:=
 AV (C:=⟨Try.prog,w0⟩) (f:=3) (fn:=Try.f3) [(17,JV.sg),(18,D5.sg),(19,EY.sg),(20,HD.sg),(21,DW.sg),(22,FA.sg),(23,ED.sg),(24,BS.sg),(25,JU.sg),(26,DF.sg),(27,DQ.sg)] [(13,[0,0,0,6,14,30,63,127]),(14,[0,1,3,7,15,7,63,127,255,7,519,7,3591,7687,15879,32767,65535,131071,262143,524287,1048575,524287,4194303,8388607,16777215,524287,524287,101187583,235405311,503840767,1073741823,2147483647]),(23,[0,1,3,3,15,31,63,3,3,387,899,1923,4095,8191,16383]),(24,[0,1,3,3,3,27,59,123,251,507,3,3,3075,7171,15363,32767,65535,131071])] [(4182650,⟨[.p (.j 0) 0, .t (.j 1) 3, .t (.j 2) 1, .v, .v, .v, .v],[],[.bx [.t (.j 3) 8, .t (.j 4) 2, .t (.j 5) 1, .t (.j 6) 1], .ls, .ls, .ls, .ls, .ls, .ls]⟩),(2042,⟨[.p (.j 0) 0, .t (.j 1) 3, .t (.j 2) 1, .v],[],[.bx [.t (.j 3) 8, .t (.j 4) 2, .t (.j 5) 1, .t (.j 6) 1], .ls, .ls, .ls, .ls, .ls, .ls]⟩)] Try.func3 (by kernel_rfl) (by kernel_rfl) (by kernel_rfl) h
end Go.Proofs.Ytklmcfpgdfibnaa.P
