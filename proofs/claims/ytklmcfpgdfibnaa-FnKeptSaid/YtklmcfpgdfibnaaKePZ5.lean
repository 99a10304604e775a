/- A part of the proof. -/
import Derived.Test.YtklmcfpgdfibnaaChecked
import Derived.Test.YtklmcfpgdfibnaaKePZ4
import Derived.KernelRfl
namespace Go.Proofs.Ytklmcfpgdfibnaa.P
open Go Go.Proofs.Ytklmcfpgdfibnaa Go.Proofs.Ytklmcfpgdfibnaa.Eng
set_option linter.unusedVariables false
set_option maxRecDepth 100000
def ET.sg:Sg:=⟨[(0,[.t 1 0])],[(1,[.t 8, .t 2, .t 1, .t 1]),(1,[.v, .v, .v, .v, .v])],[]⟩
def ET.txt (C:Ctx) (c0:List T) (K:J2):Prop:=
 cl2 C 85 II.sg [] [c0] fun v1 d2=>
 cl2 C 94 G3.sg [(nx v1 0),(nx v1 1)] [c0] fun v3 d4=>
 BS (fun x6 k7=>
 cl2 C 128 H9.sg [(nx x6 5),(nx x6 6)] [c0,(nxc k7 0),(nxc k7 1),(nxc k7 2),(nxc k7 3)] fun v13 d14=>
 K [(nx v13 0),(nx v13 1),(nx v13 2),(nx v13 3),(nx v13 4)] [(nxc k7 0),(nxc k7 1),(nxc k7 2),(nxc k7 3)]) fun j8=>
 cl2 C 95 D4.sg [(nx v3 0),(nx v3 1),(.int .i64 10)] [c0] fun v9 d10=>
 AX (nx v9 0) (
 cl2 C 96 IN.sg [(nx v9 1),(nx v9 2)] [c0] fun v11 d12=>
 j8 [(.int .i64 0),(.int .i64 0),(.int .i64 0),(.int .i64 0),(.string {data:= #[]}),(nx v11 0),(nx v11 1)] [(nxc d12 0),(nxc d12 1),(nxc d12 2),(nxc d12 3)]) (
 j8 [(.int .i64 0),(.int .i64 0),(.int .i64 0),(.int .i64 0),(.string {data:= #[]}),(nx v9 1),(nx v9 2)] [(nxc d4 0),(nxc d4 1),(nxc d4 2),(nxc d4 3)])
theorem ET.cl2 {w0:World} {c0:List T} {K:J2} (h:ET.txt ⟨Try.prog,w0⟩ c0 K):Eng.cl2 ⟨Try.prog,w0⟩ 80 ET.sg [] [c0] K:=
 AV (C:=⟨Try.prog,w0⟩) (f:=80) (fn:=Try.f80) [(85,II.sg),(94,G3.sg),(95,D4.sg),(96,IN.sg),(128,H9.sg)] [(5,[0,0,0,6,15,31])] [(15,⟨[.p (.j 0) 0, .p (.j 1) 0, .p (.j 2) 0, .p (.j 3) 0],[],[.bx [.z, .z, .z, .z], .bx [.v, .v, .v, .v, .v], .bx [.t (.f 0) 1, .v, .v], .bx [.t (.j 4) 8, .t (.j 5) 2, .t (.j 6) 1, .t (.j 7) 1], .ls, .ls, .ls, .ls]⟩)] Try.func80 (by kernel_rfl) (by kernel_rfl) (by kernel_rfl) h
def HQ.sg:Sg:=⟨[(1,[.t 6 0, .t 2 0, .t 1 0])],[(1,[.t 6, .t 2, .t 1])],[]⟩
def HQ.txt (C:Ctx) (c0 c1 c2:List T) (K:J2):Prop:=
 apW c1 true (cnt 2 []) (cnt 2 c1) 16 (
 apW c2 true (cnt 1 []) (cnt 1 c2) 16 (
 BE (fun r3 x1 k2=>
 prP (bnI .lss (nx x1 0) (iv (cnt 6 c0))) fun t19_10=>
 AX t19_10 (
 ixW (cnt 6 c0) (nx x1 0) fun t25_11=>
 ldg c0 [] ((AA t25_11)*6) [.c, .c, .c, .c, .c, .l 1] fun ts12=>
 apW (EG c0 [(((AA t25_11)*6)+5)]) true (cnt 1 []) (cnt 1 (EG c0 [(((AA t25_11)*6)+5)])) 8 (
 apW [T.c (tv (nxT ts12 0)),T.c (tv (nxT ts12 1)),T.c (tv (nxT ts12 2)),T.c (tv (nxT ts12 3)),T.c (tv (nxT ts12 4)),T.l 1 ([]++(EG c0 [(((AA t25_11)*6)+5)]))] false (cnt 6 (nxc k2 0)) (cnt 6 [T.c (tv (nxT ts12 0)),T.c (tv (nxT ts12 1)),T.c (tv (nxT ts12 2)),T.c (tv (nxT ts12 3)),T.c (tv (nxT ts12 4)),T.l 1 ([]++(EG c0 [(((AA t25_11)*6)+5)]))]) 64 (
 prP (bnI .add (nx x1 0) (.int .i64 1)) fun t21_13=>
 r3 [t21_13] [((nxc k2 0)++[T.c (tv (nxT ts12 0)),T.c (tv (nxT ts12 1)),T.c (tv (nxT ts12 2)),T.c (tv (nxT ts12 3)),T.c (tv (nxT ts12 4)),T.l 1 ([]++(EG c0 [(((AA t25_11)*6)+5)]))]),(nxc k2 1),(nxc k2 2)]))) (
 K [] [(nxc k2 0),(nxc k2 1),(nxc k2 2)])) [(.int .i64 0)] [[],([]++c1),([]++c2)]))
theorem HQ.cl2 {w0:World} {c0 c1 c2:List T} {K:J2} (h:HQ.txt ⟨Try.prog,w0⟩ c0 c1 c2 K):Eng.cl2 ⟨Try.prog,w0⟩ 132 HQ.sg [] [c0,c1,c2] K:=
 AV (C:=⟨Try.prog,w0⟩) (f:=132) (fn:=Try.f132) [] [(1,[0,0,2,7,0,0,32,127,255,0,1023])] [(58,⟨[.p (.j 0) 0, .p (.j 1) 0, .p (.j 2) 0, .v],[],[.bx [.t (.f 0) 6, .t (.f 1) 2, .t (.f 2) 1], .bx [.z, .z, .z], .bx [.t (.j 3) 6, .t (.j 4) 2, .t (.j 5) 1], .ls, .ls, .ls]⟩)] Try.func132 (by kernel_rfl) (by kernel_rfl) (by kernel_rfl) h
def GV.sg:Sg:=⟨[(1,[.t 6 0, .t 2 0, .t 1 0])],[(0,[.v])],[]⟩
def GV.txt (C:Ctx) (c0 c1 c2:List T) (K:J2):Prop:=
 prP (bnI .neq (iv (cnt 6 c0)) (.int .i64 8)) fun t8_1=>
 gE t8_1 (
 gE t8_1 (
 gE t8_1 (
 gP t8_1 false (prP (bnI .neq (iv (cnt 2 c1)) (.int .i64 8))) fun t13_2=>
 prP (pk t8_1 (.bool true) t13_2) fun t14_3=>
 gE t14_3 (
 gE t14_3 (
 gE t14_3 (
 gP t14_3 false (prP (bnI .gtr (iv (cnt 1 c2)) (.int .i64 6))) fun t19_4=>
 prP (pk t14_3 (.bool true) t19_4) fun t20_5=>
 AX t20_5 (
 K [(.bool false)] []) (
 BE (fun r8 x6 k7=>
 prP (bnI .lss (nx x6 0) (iv (cnt 6 c0))) fun t25_10=>
 AX t25_10 (
 ixW (cnt 6 c0) (nx x6 0) fun t31_11=>
 ldg c0 [] ((AA t31_11)*6) [.c, .c, .c, .c, .c, .l 1] fun ts12=>
 cl2 C 87 BZ.sg [(tv (nxT ts12 1)),(.int .i64 0),(.int .i64 999)] [] fun v13 d14=>
 prP (un .not (nx v13 0)) fun t36_16=>
 gE t36_16 (
 gE t36_16 (
 gP t36_16 false ((fun K=>cl2 C 87 BZ.sg [(tv (nxT ts12 3)),(.int .i64 0),(.int .i64 20)] [] fun v17 d18=>K (nx v17 0))) fun t40_19=>
 gP t36_16 false (prP (un .not t40_19)) fun t41_20=>
 prP (pk t36_16 (.bool true) t41_20) fun t42_21=>
 gE t42_21 (
 gE t42_21 (
 gP t42_21 false ((fun K=>cl2 C 87 BZ.sg [(tv (nxT ts12 4)),(.int .i64 0),(.int .i64 20)] [] fun v22 d23=>K (nx v22 0))) fun t46_24=>
 gP t42_21 false (prP (un .not t46_24)) fun t47_25=>
 prP (pk t42_21 (.bool true) t47_25) fun t48_26=>
 gE t48_26 (
 gE t48_26 (
 gE t48_26 (
 gP t48_26 false (prP (bnI .neq (iv (cnt 1 (EG c0 [(((AA t31_11)*6)+5)]))) (.int .i64 3))) fun t53_27=>
 prP (pk t48_26 (.bool true) t53_27) fun t54_28=>
 AX t54_28 (
 K [(.bool false)] []) (
 prP (bnI .add (nx x6 0) (.int .i64 1)) fun t27_29=>
 r8 [t27_29] []))))))))) (
 K [(.bool true)] [])) [(.int .i64 0)] [])))))))
theorem GV.cl2 {w0:World} {c0 c1 c2:List T} {K:J2} (h:GV.txt ⟨Try.prog,w0⟩ c0 c1 c2 K):Eng.cl2 ⟨Try.prog,w0⟩ 133 GV.sg [] [c0,c1,c2] K:=
 AV (C:=⟨Try.prog,w0⟩) (f:=133) (fn:=Try.f133) [(87,BZ.sg)] [] [(58,⟨[.p (.j 0) 0, .v],[],[.bx [.t (.f 0) 6, .t (.f 1) 2, .t (.f 2) 1]]⟩)] Try.func133 (by kernel_rfl) (by kernel_rfl) (by kernel_rfl) h
def GU.sg:Sg:=⟨[(1,[.t 6 2, .t 2 0, .t 1 2]),(1,[.v, .v, .v, .v, .v])],[(1,[.t 6, .a 1, .t 1]),(1,[.v, .v, .t 1])],[]⟩
def GU.txt (C:Ctx) (a0 a1 a2 a3 a4:Value) (c0 c1 c2:List T) (K:J2):Prop:=
 prP (lnS a4) fun t11_1=>
 cl2 C 87 BZ.sg [t11_1,(.int .i64 1),(.int .i64 8)] [] fun v2 d3=>
 prP (un .not (nx v2 0)) fun t13_5=>
 AX t13_5 (
 K [(.int .i64 2),(.int .i64 0)] [c0,c2,[]]) (
 BE (fun r8 x6 k7=>
 prP (bnI .lss (nx x6 0) (iv (cnt 6 (nxc k7 0)))) fun t20_10=>
 AX t20_10 (
 ixW (cnt 6 (nxc k7 0)) (nx x6 0) fun t26_11=>
 ldc (nxc k7 0) [] ((AA t26_11)*6) fun t28_12=>
 gE t28_12 (
 gE t28_12 (
 gE t28_12 (
 gP t28_12 false (ixW (cnt 6 (nxc k7 0)) (nx x6 0)) fun t33_13=>
 gE t28_12 (
 gP t28_12 false (ldc (nxc k7 0) [] (((AA t33_13)*6)+1)) fun t35_14=>
 gP t28_12 false (prP (bnI .geq t35_14 (.int .i64 999))) fun t36_15=>
 prP (pk t28_12 (.bool true) t36_15) fun t37_16=>
 AX t37_16 (
 prP (bnI .add (nx x6 0) (.int .i64 1)) fun t22_17=>
 r8 [t22_17,(nx x6 1),(nx x6 2),(nx x6 3),(nx x6 4),(nx x6 5),(nx x6 6),(nx x6 7)] [(nxc k7 0),(nxc k7 1)]) (
 BE (fun r20 x18 k19=>
 prP (bnI .lss (nx x18 1) (iv (cnt 1 (nxc k19 1)))) fun t42_22=>
 gE t42_22 (
 gE t42_22 (
 gE t42_22 (
 gP t42_22 true (ixW (cnt 1 (nxc k19 1)) (nx x18 1)) fun t47_23=>
 gP t42_22 true (ldc (nxc k19 1) [] ((AA t47_23)*1)) fun t48_24=>
 gE t42_22 (
 gE t42_22 (
 gP t42_22 true (prP (bnS .neq t48_24 (nx x18 6))) fun t51_25=>
 prP (pk t42_22 t51_25 (.bool false)) fun t52_26=>
 AX t52_26 (
 prP (bnI .add (nx x18 1) (.int .i64 1)) fun t54_27=>
 r20 [(nx x18 0),t54_27,(nx x18 2),(nx x18 3),(nx x18 4),(nx x18 5),(nx x18 6),(nx x18 7),(nx x18 8)] [(nxc k19 0),(nxc k19 1)]) (
 prP (bnI .geq (nx x18 1) (.int .i64 6)) fun t56_28=>
 AX t56_28 (
 K [(.int .i64 6),(.int .i64 0)] [(nxc k19 0),(nxc k19 1),[]]) (
 BS (fun x30 k31=>
 ixW (cnt 6 (nxc k31 0)) (nx x30 0) fun t74_34=>
 ldc (nxc k31 0) [] (((AA t74_34)*6)+1) fun t76_35=>
 prP (bnI .add t76_35 (.int .i64 1)) fun t77_36=>
 cl2 C 121 CL.sg [] [] fun v37 d38=>
 ixW (cnt 6 (nxc k31 0)) (nx x30 0) fun t85_39=>
 stg (nxc k31 0) [] ((AA t85_39)*6) [T.c (.bool true),T.c t77_36,T.c (nx x30 1),T.c (.int .i64 1),T.c (.int .i64 0),T.l 1 (nxc d38 0)] fun k40=>
 cl2 C 61 CE.sg [(nx x30 0),t77_36] [] fun v41 d42=>
 K [(.int .i64 0),(nx v41 0)] [k40,(nxc k31 1),[]]) fun j32=>
 prP (bnI .eql (nx x18 1) (iv (cnt 1 (nxc k19 1)))) fun t63_33=>
 AX t63_33 (
 apW [T.c (nx x18 6)] true (cnt 1 (nxc k19 1)) (cnt 1 [T.c (nx x18 6)]) 16 (
 j32 [(nx x18 0),(nx x18 1),(nx x18 7),(nx x18 8)] [(nxc k19 0),((nxc k19 1)++[T.c (nx x18 6)])])) (
 j32 [(nx x18 0),(nx x18 1),(nx x18 7),(nx x18 8)] [(nxc k19 0),(nxc k19 1)]))))))))) [(nx x6 0),(.int .i64 0),(nx x6 1),(nx x6 2),(nx x6 3),(nx x6 4),(nx x6 5),(nx x6 6),(nx x6 7)] [(nxc k7 0),(nxc k7 1)])))))) (
 K [(.int .i64 3),(.int .i64 0)] [(nxc k7 0),(nxc k7 1),[]])) [(.int .i64 0),a0,a1,a2,a3,a4,(.int .i64 0),(.int .i64 0)] [c0,c2])
theorem GU.cl2 {w0:World} {a0 a1 a2 a3 a4:Value} {c0 c1 c2:List T} {K:J2} (h:GU.txt ⟨Try.prog,w0⟩ a0 a1 a2 a3 a4 c0 c1 c2 K):Eng.cl2 ⟨Try.prog,w0⟩ 134 GU.sg [a0,a1,a2,a3,a4] [c0,c1,c2] K:=
 AV (C:=⟨Try.prog,w0⟩) (f:=134) (fn:=Try.f134) [(87,BZ.sg),(121,CL.sg),(61,CE.sg)] [(8,[0,0,2,6,15,31,63,127,63,511,1023,63,2111,8191,16383]),(15,[0,1,0,0,0,0,56,127,255]),(16,[0,0,0,6,14,15,63])] [(14927,⟨[.p (.j 0) 0, .p (.j 1) 0, .p (.j 2) 0, .v, .v],[.w, .t (.f 0) 2, .w],[.bx [.t (.j 3) 6, .t (.f 0) 2, .t (.j 4) 1], .bx [.z, .z, .z], .bx [.v, .v, .z], .ls, .ls]⟩),(14924,⟨[.p (.j 0) 0, .p (.j 1) 0, .p (.j 2) 0, .p (.j 3) 0, .v, .v],[.w, .t (.f 0) 2, .w],[.bx [.t (.j 4) 6, .t (.f 0) 2, .t (.j 5) 1], .bx [.v, .v, .v, .v, .v], .bx [.z, .z, .z], .bx [.v, .v, .z], .ls, .ls]⟩),(58,⟨[.p (.j 0) 0, .p (.j 1) 0, .p (.j 2) 0, .p (.j 3) 0, .v],[.w, .t (.f 0) 2, .w],[.bx [.t (.j 4) 6, .t (.f 0) 2, .t (.j 5) 1], .bx [.v, .v, .v, .v, .v], .bx [.z, .z, .z], .bx [.v, .v, .z], .ls, .ls]⟩)] Try.func134 (by kernel_rfl) (by kernel_rfl) (by kernel_rfl) h
def EA.sg:Sg:=⟨[(1,[.t 6 0, .t 2 0, .t 1 0]),(0,[.v])],[(0,[.v])],[]⟩
def EA.txt (C:Ctx) (a0:Value) (c0 c1 c2:List T) (K:J2):Prop:=
 prP (bnI .sub (iv (cnt 6 c0)) (.int .i64 1)) fun t13_1=>
 cl2 C 87 BZ.sg [a0,(.int .i64 0),t13_1] [] fun v2 d3=>
 prP (un .not (nx v2 0)) fun t15_5=>
 gE t15_5 (
 gE t15_5 (
 gE t15_5 (
 gP t15_5 false (ixW (cnt 6 c0) a0) fun t20_6=>
 gE t15_5 (
 gP t15_5 false (ldc c0 [] ((AA t20_6)*6)) fun t22_7=>
 gP t15_5 false (prP (un .not t22_7)) fun t23_8=>
 prP (pk t15_5 (.bool true) t23_8) fun t24_9=>
 AX t24_9 (
 K [(.int .i64 0)] []) (
 ixW (cnt 6 c0) a0 fun t28_10=>
 ldc c0 [] (((AA t28_10)*6)+3) fun t30_11=>
 ixW (cnt 6 c0) a0 fun t34_12=>
 ldc c0 [] (((AA t34_12)*6)+4) fun t36_13=>
 prP (bnI .add t30_11 t36_13) fun t37_14=>
 ixW (cnt 6 c0) a0 fun t42_15=>
 ldc c0 [] (((AA t42_15)*6)+1) fun t44_16=>
 cl2 C 61 CE.sg [a0,t44_16] [] fun v17 d18=>
 BE (fun r22 x20 k21=>
 prP (bnI .lss (nx x20 2) (iv (cnt 6 c0))) fun t50_24=>
 AX t50_24 (
 BE (fun r27 x25 k26=>
 ixW (cnt 6 c0) (nx x25 2) fun t57_29=>
 ldl c0 [] (((AA t57_29)*6)+5) 1 fun t59_30=>
 prP (bnI .lss (nx x25 3) (iv (cnt 1 (EG c0 [(((AA t57_29)*6)+5)])))) fun t61_31=>
 AX t61_31 (
 BS (fun x33 k34=>
 prP (bnI .add (nx x33 3) (.int .i64 1)) fun t63_45=>
 r27 [(nx x33 0),(nx x33 1),(nx x33 2),t63_45] []) fun j35=>
 ixW (cnt 6 c0) (nx x25 2) fun t67_36=>
 ldc c0 [] ((AA t67_36)*6) fun t69_37=>
 gE t69_37 (
 gE t69_37 (
 gE t69_37 (
 gP t69_37 true (ixW (cnt 6 c0) (nx x25 2)) fun t74_38=>
 gE t69_37 (
 gP t69_37 true (ldl c0 [] (((AA t74_38)*6)+5) 1) fun t76_39=>
 gE t69_37 (
 gP t69_37 true (ixW (cnt 1 (EG c0 [(((AA t74_38)*6)+5)])) (nx x25 3)) fun t78_40=>
 gP t69_37 true (ldc c0 [(((AA t74_38)*6)+5)] ((AA t78_40)*1)) fun t79_41=>
 gE t69_37 (
 gP t69_37 true (prP (bnI .eql t79_41 (nx x25 1))) fun t81_42=>
 prP (pk t69_37 t81_42 (.bool false)) fun t82_43=>
 AX t82_43 (
 prP (bnI .add (nx x25 0) (.int .i64 1)) fun t84_44=>
 j35 [t84_44,(nx x25 1),(nx x25 2),(nx x25 3)] []) (
 j35 [(nx x25 0),(nx x25 1),(nx x25 2),(nx x25 3)] [])))))))) (
 prP (bnI .add (nx x25 2) (.int .i64 1)) fun t52_46=>
 r22 [(nx x25 0),(nx x25 1),t52_46] [])) [(nx x20 0),(nx x20 1),(nx x20 2),(.int .i64 0)] []) (
 K [(nx x20 0)] [])) [t37_14,(nx v17 0),(.int .i64 0)] [])))))
theorem EA.cl2 {w0:World} {a0:Value} {c0 c1 c2:List T} {K:J2} (h:EA.txt ⟨Try.prog,w0⟩ a0 c0 c1 c2 K):Eng.cl2 ⟨Try.prog,w0⟩ 161 EA.sg [a0] [c0,c1,c2] K:=
 AV (C:=⟨Try.prog,w0⟩) (f:=161) (fn:=Try.f161) [(87,BZ.sg),(61,CE.sg)] [(3,[0,1,0,7,15,31,0,64,0,448,960,1984,4095,8191])] [(64073,⟨[.p (.j 0) 0, .v, .v, .v, .v],[],[.bx [.t (.f 0) 6, .t (.f 1) 2, .t (.f 2) 1]]⟩),(16018,⟨[.p (.j 0) 0, .v, .v, .v, .v],[],[.bx [.t (.f 0) 6, .t (.f 1) 2, .t (.f 2) 1]]⟩),(250,⟨[.p (.j 0) 0, .v, .v, .v],[],[.bx [.t (.f 0) 6, .t (.f 1) 2, .t (.f 2) 1]]⟩)] Try.func161 (by kernel_rfl) (by kernel_rfl) (by kernel_rfl) h
def FH.sg:Sg:=⟨[(0,[.t 1 0])],[(0,[.t 1])],[]⟩
def FH.txt (C:Ctx) (c0:List T) (K:J2):Prop:=
 apW c0 true (cnt 1 []) (cnt 1 c0) 8 (
 BE (fun r3 x1 k2=>
 prP (bnI .lss (nx x1 0) (iv (cnt 1 (nxc k2 0)))) fun t13_5=>
 AX t13_5 (
 BE (fun r8 x6 k7=>
 prP (bnI .gtr (nx x6 1) (.int .i64 0)) fun t18_10=>
 gE t18_10 (
 gE t18_10 (
 gP t18_10 true (ixW (cnt 1 (nxc k7 0)) (nx x6 1)) fun t22_11=>
 gP t18_10 true (ldc (nxc k7 0) [] ((AA t22_11)*1)) fun t23_12=>
 gE t18_10 (
 gE t18_10 (
 gP t18_10 true (prP (bnI .sub (nx x6 1) (.int .i64 1))) fun t26_13=>
 gP t18_10 true (ixW (cnt 1 (nxc k7 0)) t26_13) fun t27_14=>
 gP t18_10 true (ldc (nxc k7 0) [] ((AA t27_14)*1)) fun t28_15=>
 gP t18_10 true (prP (bnI .lss t23_12 t28_15)) fun t29_16=>
 prP (pk t18_10 t29_16 (.bool false)) fun t30_17=>
 AX t30_17 (
 ixW (cnt 1 (nxc k7 0)) (nx x6 1) fun t35_18=>
 ldc (nxc k7 0) [] ((AA t35_18)*1) fun t36_19=>
 prP (bnI .sub (nx x6 1) (.int .i64 1)) fun t41_20=>
 ixW (cnt 1 (nxc k7 0)) t41_20 fun t42_21=>
 ldc (nxc k7 0) [] ((AA t42_21)*1) fun t43_22=>
 ixW (cnt 1 (nxc k7 0)) (nx x6 1) fun t44_23=>
 stc (nxc k7 0) [] ((AA t44_23)*1) t43_22 fun k24=>
 prP (bnI .sub (nx x6 1) (.int .i64 1)) fun t47_25=>
 ixW (cnt 1 k24) t47_25 fun t49_26=>
 stc k24 [] ((AA t49_26)*1) t36_19 fun k27=>
 prP (bnI .sub (nx x6 1) (.int .i64 1)) fun t32_28=>
 r8 [(nx x6 0),t32_28] [k27]) (
 prP (bnI .add (nx x6 0) (.int .i64 1)) fun t15_29=>
 r3 [t15_29] [(nxc k7 0)])))))) [(nx x1 0),(nx x1 0)] [(nxc k2 0)]) (
 K [] [(nxc k2 0)])) [(.int .i64 0)] [([]++c0)])
theorem FH.cl2 {w0:World} {c0:List T} {K:J2} (h:FH.txt ⟨Try.prog,w0⟩ c0 K):Eng.cl2 ⟨Try.prog,w0⟩ 160 FH.sg [] [c0] K:=
 AV (C:=⟨Try.prog,w0⟩) (f:=160) (fn:=Try.f160) [] [(6,[0,1,3,7,7,31,63,7,7,263,903,1927,4095,8191])] [(3730,⟨[.t (.j 0) 1, .v, .v],[],[.ls]⟩),(58,⟨[.t (.j 0) 1, .v],[],[.ls]⟩)] Try.func160 (by kernel_rfl) (by kernel_rfl) (by kernel_rfl) h
def F5.sg:Sg:=⟨[(1,[.t 6 2, .t 2 0, .t 1 0])],[(1,[.t 6, .a 1, .a 2]),(0,[.t 1])],[]⟩
def F5.txt (C:Ctx) (c0 c1 c2:List T) (K:J2):Prop:=
 BE (fun r3 x1 k2=>
 AX (nx x1 0) (
 BE (fun r7 x5 k6=>
 prP (bnI .lss (nx x5 1) (iv (cnt 6 (nxc k6 1)))) fun t13_9=>
 AX t13_9 (
 BS (fun x11 k12=>
 prP (bnI .add (nx x11 1) (.int .i64 1)) fun t15_32=>
 r7 [(nx x11 0),t15_32] [(nxc k12 0),(nxc k12 1)]) fun j13=>
 ixW (cnt 6 (nxc k6 1)) (nx x5 1) fun t19_14=>
 ldc (nxc k6 1) [] ((AA t19_14)*6) fun t21_15=>
 gE t21_15 (
 gE t21_15 (
 gP t21_15 true ((fun K=>cl2 C 161 EA.sg [(nx x5 1)] [(nxc k6 1),c1,c2] fun v16 d17=>K (nx v16 0))) fun t25_18=>
 gP t21_15 true (prP (bnI .eql t25_18 (.int .i64 0))) fun t26_19=>
 prP (pk t21_15 t26_19 (.bool false)) fun t27_20=>
 AX t27_20 (
 ixW (cnt 6 (nxc k6 1)) (nx x5 1) fun t33_21=>
 ldc (nxc k6 1) [] (((AA t33_21)*6)+1) fun t35_22=>
 cl2 C 61 CE.sg [(nx x5 1),t35_22] [] fun v23 d24=>
 apW [T.c (nx v23 0)] true (cnt 1 (nxc k6 0)) (cnt 1 [T.c (nx v23 0)]) 8 (
 ixW (cnt 6 (nxc k6 1)) (nx x5 1) fun t45_26=>
 ldc (nxc k6 1) [] (((AA t45_26)*6)+1) fun t47_27=>
 cl2 C 121 CL.sg [] [] fun v28 d29=>
 ixW (cnt 6 (nxc k6 1)) (nx x5 1) fun t50_30=>
 stg (nxc k6 1) [] ((AA t50_30)*6) [T.c (.bool false),T.c t47_27,T.c (.int .i64 0),T.c (.int .i64 0),T.c (.int .i64 0),T.l 1 (nxc d29 0)] fun k31=>
 j13 [(.bool true),(nx x5 1)] [((nxc k6 0)++[T.c (nx v23 0)]),k31])) (
 j13 [(nx x5 0),(nx x5 1)] [(nxc k6 0),(nxc k6 1)])))) (
 r3 [(nx x5 0)] [(nxc k6 0),(nxc k6 1)])) [(.bool false),(.int .i64 0)] [(nxc k2 0),(nxc k2 1)]) (
 cl2 C 160 FH.sg [] [(nxc k2 0)] fun v33 d34=>
 K [] [(nxc k2 1),(nxc d34 0)])) [(.bool true)] [[],c0]
theorem F5.cl2 {w0:World} {c0 c1 c2:List T} {K:J2} (h:F5.txt ⟨Try.prog,w0⟩ c0 c1 c2 K):Eng.cl2 ⟨Try.prog,w0⟩ 138 F5.sg [] [c0,c1,c2] K:=
 AV (C:=⟨Try.prog,w0⟩) (f:=138) (fn:=Try.f138) [(161,EA.sg),(61,CE.sg),(121,CL.sg),(160,FH.sg)] [(10,[0,1,0,0,8,0,56,120,248,0,1016,2047,4095]),(12,[0,0,2,7,15])] [(14937,⟨[.p (.j 0) 0, .p (.j 1) 0, .t (.j 2) 1, .v, .v],[.w, .t (.f 0) 2, .t (.f 1) 1],[.bx [.t (.j 3) 6, .t (.f 0) 2, .t (.f 1) 1], .bx [.z, .z, .z], .ls, .ls]⟩),(3734,⟨[.p (.j 0) 0, .p (.j 1) 0, .t (.j 2) 1, .v, .v],[.w, .t (.f 0) 2, .t (.f 1) 1],[.bx [.t (.j 3) 6, .t (.f 0) 2, .t (.f 1) 1], .bx [.z, .z, .z], .ls, .ls]⟩),(58,⟨[.p (.j 0) 0, .p (.j 1) 0, .t (.j 2) 1, .v],[.w, .t (.f 0) 2, .t (.f 1) 1],[.bx [.t (.j 3) 6, .t (.f 0) 2, .t (.f 1) 1], .bx [.z, .z, .z], .ls, .ls]⟩)] Try.func138 (by kernel_rfl) (by kernel_rfl) (by kernel_rfl) h
def GA.sg:Sg:=⟨[(1,[.t 6 2, .t 2 0, .t 1 0]),(1,[.v, .v, .v, .v, .v])],[(1,[.t 6, .a 1, .a 2]),(1,[.v, .v, .t 1])],[]⟩
def GA.txt (C:Ctx) (a0 a1 a2 a3 a4:Value) (c0 c1 c2:List T) (K:J2):Prop:=
 cl2 C 119 C7.sg [a1] [c0,c1,c2] fun v1 d2=>
 prP (bnI .lss (nx v1 0) (.int .i64 0)) fun t16_4=>
 AX t16_4 (
 K [(.int .i64 1),(.int .i64 0)] [c0,[]]) (
 ixW (cnt 6 c0) (nx v1 0) fun t22_5=>
 ldc c0 [] (((AA t22_5)*6)+3) fun t24_6=>
 ixW (cnt 6 c0) (nx v1 0) fun t28_7=>
 ldc c0 [] (((AA t28_7)*6)+4) fun t30_8=>
 BS (fun x10 k11=>
 prP (bnI .gtr (nx x10 1) (.int .i64 20)) fun t48_20=>
 gE t48_20 (
 gP t48_20 false (prP (bnI .gtr (nx x10 2) (.int .i64 20))) fun t51_21=>
 prP (pk t48_20 (.bool true) t51_21) fun t52_22=>
 AX t52_22 (
 K [(.int .i64 4),(.int .i64 0)] [(nxc k11 0),[]]) (
 prP (bnI .lss (nx x10 1) (.int .i64 0)) fun t56_23=>
 gE t56_23 (
 gP t56_23 false (prP (bnI .lss (nx x10 2) (.int .i64 0))) fun t59_24=>
 prP (pk t56_23 (.bool true) t59_24) fun t60_25=>
 AX t60_25 (
 K [(.int .i64 5),(.int .i64 0)] [(nxc k11 0),[]]) (
 ixW (cnt 6 (nxc k11 0)) (nx x10 0) fun t67_26=>
 stc (nxc k11 0) [] (((AA t67_26)*6)+3) (nx x10 1) fun k27=>
 ixW (cnt 6 k27) (nx x10 0) fun t73_28=>
 stc k27 [] (((AA t73_28)*6)+4) (nx x10 2) fun k29=>
 cl2 C 138 F5.sg [] [k29,c1,c2] fun v30 d31=>
 K [(.int .i64 0),(.int .i64 0)] [(nxc d31 0),(nxc d31 1)]))))) fun j12=>
 prP (bnI .eql a0 (.int .i64 2)) fun t36_13=>
 AX t36_13 (
 prP (bnI .add t24_6 (.int .i64 1)) fun t38_14=>
 j12 [(nx v1 0),t38_14,t30_8,(.int .i64 0),(.int .i64 0)] [c0]) (
 prP (bnI .eql a0 (.int .i64 3)) fun t40_15=>
 AX t40_15 (
 prP (bnI .sub t24_6 (.int .i64 1)) fun t42_16=>
 j12 [(nx v1 0),t42_16,t30_8,(.int .i64 0),(.int .i64 0)] [c0]) (
 prP (bnI .eql a0 (.int .i64 5)) fun t44_17=>
 AX t44_17 (
 prP (bnI .add t30_8 (.int .i64 1)) fun t46_18=>
 j12 [(nx v1 0),t24_6,t46_18,(.int .i64 0),(.int .i64 0)] [c0]) (
 prP (bnI .sub t30_8 (.int .i64 1)) fun t34_19=>
 j12 [(nx v1 0),t24_6,t34_19,(.int .i64 0),(.int .i64 0)] [c0]))))
theorem GA.cl2 {w0:World} {a0 a1 a2 a3 a4:Value} {c0 c1 c2:List T} {K:J2} (h:GA.txt ⟨Try.prog,w0⟩ a0 a1 a2 a3 a4 c0 c1 c2 K):Eng.cl2 ⟨Try.prog,w0⟩ 135 GA.sg [a0,a1,a2,a3,a4] [c0,c1,c2] K:=
 AV (C:=⟨Try.prog,w0⟩) (f:=135) (fn:=Try.f135) [(119,C7.sg),(138,F5.sg)] [] [(63,⟨[.p (.j 0) 0, .p (.j 1) 0, .p (.j 2) 0, .v, .v, .v],[.w, .t (.f 0) 2, .t (.f 1) 1],[.bx [.t (.j 3) 6, .t (.f 0) 2, .t (.f 1) 1], .bx [.z, .z, .z], .bx [.v, .v, .z], .ls]⟩)] Try.func135 (by kernel_rfl) (by kernel_rfl) (by kernel_rfl) h
def GY.sg:Sg:=⟨[(1,[.t 6 0, .t 2 2, .t 1 0]),(1,[.v, .v, .v, .v, .v])],[(1,[.a 0, .t 2, .a 2]),(1,[.v, .v, .t 1])],[]⟩
def GY.txt (C:Ctx) (a0 a1 a2 a3 a4:Value) (c0 c1 c2:List T) (K:J2):Prop:=
 prP (bnI .eql a0 (.int .i64 7)) fun t10_1=>
 AX t10_1 (
 cl2 C 119 C7.sg [a1] [c0,c1,c2] fun v2 d3=>
 prP (bnI .lss (nx v2 0) (.int .i64 0)) fun t15_5=>
 AX t15_5 (
 K [(.int .i64 1),(.int .i64 0)] [c1,[]]) (
 BE (fun r8 x6 k7=>
 prP (bnI .lss (nx x6 0) (iv (cnt 2 (nxc k7 0)))) fun t22_10=>
 AX t22_10 (
 ixW (cnt 2 (nxc k7 0)) (nx x6 0) fun t28_11=>
 ldc (nxc k7 0) [] ((AA t28_11)*2) fun t30_12=>
 prP (un .not t30_12) fun t31_13=>
 AX t31_13 (
 ixW (cnt 2 (nxc k7 0)) (nx x6 0) fun t38_14=>
 stg (nxc k7 0) [] ((AA t38_14)*2) [T.c (.bool true),T.c (nx x6 2)] fun k15=>
 K [(.int .i64 0),(nx x6 0)] [k15,[]]) (
 prP (bnI .add (nx x6 0) (.int .i64 1)) fun t24_16=>
 r8 [t24_16,(nx x6 1),(nx x6 2),(nx x6 3),(nx x6 4),(nx x6 5),(nx x6 6),(nx x6 7)] [(nxc k7 0)])) (
 K [(.int .i64 3),(.int .i64 0)] [(nxc k7 0),[]])) [(.int .i64 0),a0,a1,a2,a3,a4,(.int .i64 0),(.int .i64 0)] [c1])) (
 prP (bnI .sub (iv (cnt 2 c1)) (.int .i64 1)) fun t49_17=>
 cl2 C 87 BZ.sg [a1,(.int .i64 0),t49_17] [] fun v18 d19=>
 prP (un .not (nx v18 0)) fun t51_21=>
 gE t51_21 (
 gE t51_21 (
 gE t51_21 (
 gE t51_21 (
 gP t51_21 false (ixW (cnt 2 c1) a1) fun t57_22=>
 gE t51_21 (
 gP t51_21 false (ldc c1 [] ((AA t57_22)*2)) fun t59_23=>
 gP t51_21 false (prP (un .not t59_23)) fun t60_24=>
 prP (pk t51_21 (.bool true) t60_24) fun t61_25=>
 AX t61_25 (
 K [(.int .i64 2),(.int .i64 0)] [c1,[]]) (
 ixW (cnt 2 c1) a1 fun t68_26=>
 ldc c1 [] (((AA t68_26)*2)+1) fun t70_27=>
 prP (bnI .eql a0 (.int .i64 9)) fun t73_28=>
 AX t73_28 (
 ixW (cnt 2 c1) a1 fun t79_29=>
 stg c1 [] ((AA t79_29)*2) [T.c (.bool false),T.c (.int .i64 0)] fun k30=>
 K [(.int .i64 0),(.int .i64 0)] [k30,[]]) (
 BS (fun x32 k33=>
 K [(.int .i64 0),(nx x32 0)] [(nxc k33 0),[]]) fun j34=>
 cl2 C 119 C7.sg [t70_27] [c0,c1,c2] fun v35 d36=>
 prP (bnI .lss (nx v35 0) (.int .i64 0)) fun t85_38=>
 AX t85_38 (
 j34 [(.int .i64 (-1)),(.int .i64 0),(.int .i64 0)] [c1]) (
 j34 [t70_27,(.int .i64 0),(.int .i64 0)] [c1])))))))))
theorem GY.cl2 {w0:World} {a0 a1 a2 a3 a4:Value} {c0 c1 c2:List T} {K:J2} (h:GY.txt ⟨Try.prog,w0⟩ a0 a1 a2 a3 a4 c0 c1 c2 K):Eng.cl2 ⟨Try.prog,w0⟩ 136 GY.sg [a0,a1,a2,a3,a4] [c0,c1,c2] K:=
 AV (C:=⟨Try.prog,w0⟩) (f:=136) (fn:=Try.f136) [(119,C7.sg),(87,BZ.sg)] [] [(426,⟨[.p (.j 0) 0, .p (.j 1) 0, .p (.j 2) 0, .p (.j 3) 0, .v],[.t (.f 0) 6, .w, .t (.f 1) 1],[.bx [.t (.f 0) 6, .t (.j 4) 2, .t (.f 1) 1], .bx [.v, .v, .v, .v, .v], .bx [.z, .z, .z], .bx [.v, .v, .z], .ls]⟩),(63,⟨[.p (.j 0) 0, .p (.j 1) 0, .p (.j 2) 0, .v],[.t (.f 0) 6, .w, .t (.f 1) 1],[.bx [.t (.f 0) 6, .t (.j 3) 2, .t (.f 1) 1], .bx [.z, .z, .z], .bx [.v, .v, .z], .ls]⟩)] Try.func136 (by kernel_rfl) (by kernel_rfl) (by kernel_rfl) h
def GQ.sg:Sg:=⟨[(1,[.t 6 2, .t 2 0, .t 1 0])],[(1,[.t 6, .a 1, .a 2]),(0,[.t 1])],[]⟩
def GQ.txt (C:Ctx) (c0 c1 c2:List T) (K:J2):Prop:=
 cl2 C 72 DA.sg [] [c0,c1,c2] fun v1 d2=>
 BE (fun r5 x3 k4=>
 prP (bnI .lss (nx x3 0) (iv (cnt 6 (nxc k4 2)))) fun t14_7=>
 AX t14_7 (
 BS (fun x9 k10=>
 prP (bnI .add (nx x9 0) (.int .i64 1)) fun t16_30=>
 r5 [t16_30] [(nxc k10 0),(nxc k10 1),(nxc k10 2)]) fun j11=>
 ixW (cnt 6 (nxc k4 2)) (nx x3 0) fun t20_12=>
 ldc (nxc k4 2) [] ((AA t20_12)*6) fun t22_13=>
 gE t22_13 (
 gE t22_13 (
 gP t22_13 true ((fun K=>cl2 C 89 EP.sg [(nx x3 0)] [(nxc k4 0)] fun v14 d15=>K (nx v14 0))) fun t26_16=>
 gP t22_13 true (prP (un .not t26_16)) fun t27_17=>
 prP (pk t22_13 t27_17 (.bool false)) fun t28_18=>
 AX t28_18 (
 ixW (cnt 6 (nxc k4 2)) (nx x3 0) fun t34_19=>
 ldc (nxc k4 2) [] (((AA t34_19)*6)+1) fun t36_20=>
 cl2 C 61 CE.sg [(nx x3 0),t36_20] [] fun v21 d22=>
 apW [T.c (nx v21 0)] true (cnt 1 (nxc k4 1)) (cnt 1 [T.c (nx v21 0)]) 8 (
 ixW (cnt 6 (nxc k4 2)) (nx x3 0) fun t46_24=>
 ldc (nxc k4 2) [] (((AA t46_24)*6)+1) fun t48_25=>
 cl2 C 121 CL.sg [] [] fun v26 d27=>
 ixW (cnt 6 (nxc k4 2)) (nx x3 0) fun t51_28=>
 stg (nxc k4 2) [] ((AA t51_28)*6) [T.c (.bool false),T.c t48_25,T.c (.int .i64 0),T.c (.int .i64 0),T.c (.int .i64 0),T.l 1 (nxc d27 0)] fun k29=>
 j11 [(nx x3 0)] [(nxc k4 0),((nxc k4 1)++[T.c (nx v21 0)]),k29])) (
 j11 [(nx x3 0)] [(nxc k4 0),(nxc k4 1),(nxc k4 2)])))) (
 cl2 C 160 FH.sg [] [(nxc k4 1)] fun v31 d32=>
 K [] [(nxc k4 2),(nxc d32 0)])) [(.int .i64 0)] [(nxc d2 0),[],c0]
theorem GQ.cl2 {w0:World} {c0 c1 c2:List T} {K:J2} (h:GQ.txt ⟨Try.prog,w0⟩ c0 c1 c2 K):Eng.cl2 ⟨Try.prog,w0⟩ 137 GQ.sg [] [c0,c1,c2] K:=
 AV (C:=⟨Try.prog,w0⟩) (f:=137) (fn:=Try.f137) [(72,DA.sg),(89,EP.sg),(61,CE.sg),(121,CL.sg),(160,FH.sg)] [(8,[0,1,0,0,8,0,56,120,248,0,1016,2047,4095]),(9,[0,0,2,7,15])] [(489,⟨[.p (.j 0) 0, .p (.j 1) 0, .t (.j 2) 1, .t (.j 3) 1, .v],[.w, .t (.f 0) 2, .t (.f 1) 1],[.bx [.t (.j 4) 6, .t (.f 0) 2, .t (.f 1) 1], .bx [.z, .z, .z], .ls, .ls, .ls]⟩),(122,⟨[.p (.j 0) 0, .p (.j 1) 0, .t (.j 2) 1, .t (.j 3) 1, .v],[.w, .t (.f 0) 2, .t (.f 1) 1],[.bx [.t (.j 4) 6, .t (.f 0) 2, .t (.f 1) 1], .bx [.z, .z, .z], .ls, .ls, .ls]⟩)] Try.func137 (by kernel_rfl) (by kernel_rfl) (by kernel_rfl) h
def ES.sg:Sg:=⟨[(1,[.t 6 0, .t 2 0, .t 1 0]),(1,[.v, .v, .v, .v, .v])],[(1,[.t 6, .t 2, .t 1]),(1,[.v, .v, .t 1])],[]⟩
def ES.txt (C:Ctx) (a0 a1 a2 a3 a4:Value) (c0 c1 c2:List T) (K:J2):Prop:=
 cl2 C 132 HQ.sg [] [c0,c1,c2] fun v1 d2=>
 cl2 C 133 GV.sg [] [c0,c1,c2] fun v3 d4=>
 prP (un .not (nx v3 0)) fun t16_6=>
 AX t16_6 (
 K [(.int .i64 2),(.int .i64 0)] [(nxc d2 0),(nxc d2 1),(nxc d2 2),[]]) (
 prP (bnI .eql a0 (.int .i64 1)) fun t22_7=>
 AX t22_7 (
 cl2 C 134 GU.sg [a0,a1,a2,a3,a4] [(nxc d2 0),(nxc d2 1),(nxc d2 2)] fun v8 d9=>
 K [(nx v8 0),(nx v8 1)] [(nxc d9 0),(nxc d2 1),(nxc d9 1),(nxc d9 2)]) (
 BS (fun x11 k12=>
 AX (nx x11 1) (
 cl2 C 135 GA.sg [(nx x11 2),(nx x11 3),(nx x11 4),(nx x11 5),(nx x11 6)] [(nxc k12 0),(nxc k12 1),(nxc k12 2)] fun v18 d19=>
 K [(nx v18 0),(nx v18 1)] [(nxc d19 0),(nxc k12 1),(nxc k12 2),(nxc d19 1)]) (
 BS (fun x21 k22=>
 AX (nx x21 1) (
 cl2 C 136 GY.sg [(nx x21 2),(nx x21 3),(nx x21 4),(nx x21 5),(nx x21 6)] [(nxc k22 0),(nxc k22 1),(nxc k22 2)] fun v27 d28=>
 K [(nx v27 0),(nx v27 1)] [(nxc k22 0),(nxc d28 0),(nxc k22 2),(nxc d28 1)]) (
 prP (bnI .eql (nx x21 0) (.int .i64 10)) fun t48_29=>
 AX t48_29 (
 cl2 C 137 GQ.sg [] [(nxc k22 0),(nxc k22 1),(nxc k22 2)] fun v30 d31=>
 K [(.int .i64 0),(.int .i64 0)] [(nxc d31 0),(nxc k22 1),(nxc k22 2),(nxc d31 1)]) (
 prP (bnI .eql (nx x21 0) (.int .i64 4)) fun t58_32=>
 AX t58_32 (
 cl2 C 119 C7.sg [(nx x21 3)] [(nxc k22 0),(nxc k22 1),(nxc k22 2)] fun v33 d34=>
 prP (bnI .lss (nx v33 0) (.int .i64 0)) fun t64_36=>
 gE t64_36 (
 gE t64_36 (
 gP t64_36 false (prP (bnI .neq (nx x21 5) (.int .i64 (-1)))) fun t68_37=>
 gE t64_36 (
 gE (CB t64_36 false t68_37) (
 gE (CB t64_36 false t68_37) (
 gE (CB t64_36 false t68_37) (
 gP (CB t64_36 false t68_37) true ((fun K=>cl2 C 119 C7.sg [(nx x21 5)] [(nxc k22 0),(nxc k22 1),(nxc k22 2)] fun v38 d39=>K (nx v38 0))) fun t73_40=>
 gP (CB t64_36 false t68_37) true (prP (bnI .lss t73_40 (.int .i64 0))) fun t74_41=>
 gP t64_36 false (prP (pk t68_37 t74_41 (.bool false))) fun t75_42=>
 prP (pk t64_36 (.bool true) t75_42) fun t76_43=>
 AX t76_43 (
 K [(.int .i64 1),(.int .i64 0)] [(nxc k22 0),(nxc k22 1),(nxc k22 2),[]]) (
 cl2 C 87 BZ.sg [(nx x21 4),(.int .i64 0),(.int .i64 2)] [] fun v44 d45=>
 prP (un .not (nx v44 0)) fun t82_47=>
 AX t82_47 (
 K [(.int .i64 2),(.int .i64 0)] [(nxc k22 0),(nxc k22 1),(nxc k22 2),[]]) (
 ixW (cnt 6 (nxc k22 0)) (nx v33 0) fun t88_48=>
 ldl (nxc k22 0) [] (((AA t88_48)*6)+5) 1 fun t90_49=>
 ixW (cnt 1 (EG (nxc k22 0) [(((AA t88_48)*6)+5)])) (nx x21 4) fun t95_50=>
 stc (nxc k22 0) [(((AA t88_48)*6)+5)] ((AA t95_50)*1) (nx x21 5) fun k51=>
 cl2 C 138 F5.sg [] [k51,(nxc k22 1),(nxc k22 2)] fun v52 d53=>
 K [(.int .i64 0),(.int .i64 0)] [(nxc d53 0),(nxc k22 1),(nxc k22 2),(nxc d53 1)]))))))))) (
 K [(.int .i64 2),(.int .i64 0)] [(nxc k22 0),(nxc k22 1),(nxc k22 2),[]])))) fun j23=>
 prP (bnI .eql (nx x11 0) (.int .i64 7)) fun t39_24=>
 AX t39_24 (
 j23 [(nx x11 0),t39_24,(nx x11 2),(nx x11 3),(nx x11 4),(nx x11 5),(nx x11 6),(nx x11 7),(nx x11 8)] [(nxc k12 0),(nxc k12 1),(nxc k12 2)]) (
 prP (bnI .eql (nx x11 0) (.int .i64 8)) fun t40_25=>
 AX t40_25 (
 j23 [(nx x11 0),t40_25,(nx x11 2),(nx x11 3),(nx x11 4),(nx x11 5),(nx x11 6),(nx x11 7),(nx x11 8)] [(nxc k12 0),(nxc k12 1),(nxc k12 2)]) (
 prP (bnI .eql (nx x11 0) (.int .i64 9)) fun t41_26=>
 j23 [(nx x11 0),t41_26,(nx x11 2),(nx x11 3),(nx x11 4),(nx x11 5),(nx x11 6),(nx x11 7),(nx x11 8)] [(nxc k12 0),(nxc k12 1),(nxc k12 2)])))) fun j13=>
 prP (bnI .eql a0 (.int .i64 2)) fun t29_14=>
 AX t29_14 (
 j13 [a0,t29_14,a0,a1,a2,a3,a4,(.int .i64 0),(.int .i64 0)] [(nxc d2 0),(nxc d2 1),(nxc d2 2)]) (
 prP (bnI .eql a0 (.int .i64 3)) fun t30_15=>
 AX t30_15 (
 j13 [a0,t30_15,a0,a1,a2,a3,a4,(.int .i64 0),(.int .i64 0)] [(nxc d2 0),(nxc d2 1),(nxc d2 2)]) (
 prP (bnI .eql a0 (.int .i64 5)) fun t31_16=>
 AX t31_16 (
 j13 [a0,t31_16,a0,a1,a2,a3,a4,(.int .i64 0),(.int .i64 0)] [(nxc d2 0),(nxc d2 1),(nxc d2 2)]) (
 prP (bnI .eql a0 (.int .i64 6)) fun t32_17=>
 j13 [a0,t32_17,a0,a1,a2,a3,a4,(.int .i64 0),(.int .i64 0)] [(nxc d2 0),(nxc d2 1),(nxc d2 2)])))))
theorem ES.cl2 {w0:World} {a0 a1 a2 a3 a4:Value} {c0 c1 c2:List T} {K:J2} (h:ES.txt ⟨Try.prog,w0⟩ a0 a1 a2 a3 a4 c0 c1 c2 K):Eng.cl2 ⟨Try.prog,w0⟩ 84 ES.sg [a0,a1,a2,a3,a4] [c0,c1,c2] K:=
 AV (C:=⟨Try.prog,w0⟩) (f:=84) (fn:=Try.f84) [(132,HQ.sg),(133,GV.sg),(134,GU.sg),(135,GA.sg),(136,GY.sg),(137,GQ.sg),(119,C7.sg),(87,BZ.sg),(138,F5.sg)] [(25,[0,1,0,7,15,31,0,64,0,256,1023,2047])] [(491,⟨[.p (.j 0) 0, .p (.j 1) 0, .p (.j 2) 0, .p (.j 3) 0, .v, .v],[],[.bx [.v, .v, .v, .v, .v], .bx [.z, .z, .z], .bx [.v, .v, .z], .bx [.t (.j 4) 6, .t (.j 5) 2, .t (.j 6) 1], .ls, .ls, .ls]⟩),(1967,⟨[.p (.j 0) 0, .p (.j 1) 0, .p (.j 2) 0, .p (.j 3) 0, .v, .v],[],[.bx [.v, .v, .v, .v, .v], .bx [.z, .z, .z], .bx [.v, .v, .z], .bx [.t (.j 4) 6, .t (.j 5) 2, .t (.j 6) 1], .ls, .ls, .ls]⟩)] Try.func84 (by kernel_rfl) (by kernel_rfl) (by kernel_rfl) h
def IF.sg:Sg:=⟨[(0,[.t 1 0])],[(0,[.t 1])],[]⟩
def IF.txt (C:Ctx) (c0:List T) (K:J2):Prop:=
 apW c0 true (cnt 1 []) (cnt 1 c0) 8 (
 BE (fun r3 x1 k2=>
 prP (bnI .lss (nx x1 0) (iv (cnt 1 (nxc k2 0)))) fun t13_5=>
 AX t13_5 (
 BE (fun r8 x6 k7=>
 prP (bnI .gtr (nx x6 1) (.int .i64 0)) fun t18_10=>
 gE t18_10 (
 gE t18_10 (
 gP t18_10 true (ixW (cnt 1 (nxc k7 0)) (nx x6 1)) fun t22_11=>
 gP t18_10 true (ldc (nxc k7 0) [] ((AA t22_11)*1)) fun t23_12=>
 gE t18_10 (
 gE t18_10 (
 gP t18_10 true (prP (bnI .sub (nx x6 1) (.int .i64 1))) fun t26_13=>
 gP t18_10 true (ixW (cnt 1 (nxc k7 0)) t26_13) fun t27_14=>
 gP t18_10 true (ldc (nxc k7 0) [] ((AA t27_14)*1)) fun t28_15=>
 gP t18_10 true (prP (bnI .lss t23_12 t28_15)) fun t29_16=>
 prP (pk t18_10 t29_16 (.bool false)) fun t30_17=>
 AX t30_17 (
 ixW (cnt 1 (nxc k7 0)) (nx x6 1) fun t35_18=>
 ldc (nxc k7 0) [] ((AA t35_18)*1) fun t36_19=>
 prP (bnI .sub (nx x6 1) (.int .i64 1)) fun t41_20=>
 ixW (cnt 1 (nxc k7 0)) t41_20 fun t42_21=>
 ldc (nxc k7 0) [] ((AA t42_21)*1) fun t43_22=>
 ixW (cnt 1 (nxc k7 0)) (nx x6 1) fun t44_23=>
 stc (nxc k7 0) [] ((AA t44_23)*1) t43_22 fun k24=>
 prP (bnI .sub (nx x6 1) (.int .i64 1)) fun t47_25=>
 ixW (cnt 1 k24) t47_25 fun t49_26=>
 stc k24 [] ((AA t49_26)*1) t36_19 fun k27=>
 prP (bnI .sub (nx x6 1) (.int .i64 1)) fun t32_28=>
 r8 [(nx x6 0),t32_28] [k27]) (
 prP (bnI .add (nx x6 0) (.int .i64 1)) fun t15_29=>
 r3 [t15_29] [(nxc k7 0)])))))) [(nx x1 0),(nx x1 0)] [(nxc k2 0)]) (
 K [] [(nxc k2 0)])) [(.int .i64 0)] [([]++c0)])
theorem IF.cl2 {w0:World} {c0:List T} {K:J2} (h:IF.txt ⟨Try.prog,w0⟩ c0 K):Eng.cl2 ⟨Try.prog,w0⟩ 66 IF.sg [] [c0] K:=
 AV (C:=⟨Try.prog,w0⟩) (f:=66) (fn:=Try.f66) [] [(6,[0,1,3,7,7,31,63,7,7,263,903,1927,4095,8191])] [(3730,⟨[.t (.j 0) 1, .v, .v],[],[.ls]⟩),(58,⟨[.t (.j 0) 1, .v],[],[.ls]⟩)] Try.func66 (by kernel_rfl) (by kernel_rfl) (by kernel_rfl) h
def IH.sg:Sg:=⟨[(0,[.t 1 0])],[(0,[.v])],[]⟩
def IH.txt (C:Ctx) (c0:List T) (K:J2):Prop:=
 cl2 C 17 K3.sg [] [c0] fun v1 d2=>
 AX (nx v1 0) (
 K [(.bool true)] []) (
 cl2 C 80 ET.sg [] [c0] fun v4 d5=>
 cl2 C 19 GB.sg [] [(nxc d5 0),(nxc d5 1),(nxc d5 2),(nxc d5 3)] fun v6 d7=>
 prP (un .not (nx v6 0)) fun t21_9=>
 AX t21_9 (
 K [(.bool true)] []) (
 cl2 C 42 IW.sg [(nx v4 0),(nx v4 1),(nx v4 2),(nx v4 3),(nx v4 4)] [(nxc d5 0),(nxc d5 1),(nxc d5 2),(nxc d5 3)] fun v10 d11=>
 cl2 C 71 GS.sg [] [(nxc d5 0),(nxc d5 1),(nxc d5 2),(nxc d5 3)] fun v12 d13=>
 cl2 C 84 ES.sg [(nx v4 0),(nx v4 1),(nx v4 2),(nx v4 3),(nx v4 4)] [(nxc d13 0),(nxc d13 1),(nxc d13 2)] fun v14 d15=>
 cl2 C 72 DA.sg [] [(nxc d15 0),(nxc d15 1),(nxc d15 2)] fun v16 d17=>
 BE (fun r20 x18 k19=>
 prP (bnI .lss (nx x18 0) (iv (cnt 1 (nxc k19 0)))) fun t40_22=>
 AX t40_22 (
 ixW (cnt 1 (nxc k19 0)) (nx x18 0) fun t45_23=>
 ldc (nxc k19 0) [] ((AA t45_23)*1) fun t46_24=>
 ixW (cnt 1 (nxc k19 0)) (nx x18 0) fun t51_25=>
 ldc (nxc k19 0) [] ((AA t51_25)*1) fun t52_26=>
 ixW (cnt 6 (nxc k19 6)) t52_26 fun t53_27=>
 ldc (nxc k19 6) [] (((AA t53_27)*6)+1) fun t55_28=>
 cl2 C 61 CE.sg [t46_24,t55_28] [] fun v29 d30=>
 cl2 C 24 B4.sg [(nx v29 0)] [(nxc k19 1),(nxc k19 2),(nxc k19 3),(nxc k19 4)] fun v32 d33=>
 prP (bnI .lss (nx v32 0) (.int .i64 0)) fun t60_35=>
 gE t60_35 (
 gE t60_35 (
 gE t60_35 (
 gP t60_35 false ((fun K=>cl2 C 25 K6.sg [(nx v29 0)] [(nxc k19 5)] fun v36 d37=>K (nx v36 0))) fun t65_38=>
 prP (pk t60_35 (.bool true) t65_38) fun t66_39=>
 AX t66_39 (
 K [(.bool false)] []) (
 prP (bnI .add (nx x18 0) (.int .i64 1)) fun t42_40=>
 r20 [t42_40,(nx x18 1),(nx x18 2),(nx x18 3),(nx x18 4)] [(nxc k19 0),(nxc k19 1),(nxc k19 2),(nxc k19 3),(nxc k19 4),(nxc k19 5),(nxc k19 6),(nxc k19 7),(nxc k19 8),(nxc k19 9)]))))) (
 prP (bnI .eql (nx x18 1) (nx x18 3)) fun t71_41=>
 gE t71_41 (
 gE t71_41 (
 gE t71_41 (
 gP t71_41 true (prP (bnI .eql (iv (cnt 8 (nxc k19 1))) (.int .i64 8))) fun t76_42=>
 prP (pk t71_41 t76_42 (.bool false)) fun t77_43=>
 gE t77_43 (
 gE t77_43 (
 gC t77_43 true (cl2 C 66 IF.sg [] [(nxc k19 5)]) fun v44 d45=>
 gE t77_43 (
 gE t77_43 (
 gP t77_43 true ((fun K=>cl2 C 31 FP.sg [] [(nxc d45 0),(nxc k19 9)] fun v46 d47=>K (nx v46 0))) fun t84_48=>
 prP (pk t77_43 t84_48 (.bool false)) fun t85_49=>
 K [t85_49] []))))))))) [(.int .i64 0),(nx v10 0),(nx v10 1),(nx v14 0),(nx v14 1)] [(nxc d17 0),(nxc d11 0),(nxc d11 1),(nxc d11 2),(nxc d11 3),(nxc d11 4),(nxc d15 0),(nxc d15 1),(nxc d15 2),(nxc d15 3)]))
theorem IH.cl2 {w0:World} {c0:List T} {K:J2} (h:IH.txt ⟨Try.prog,w0⟩ c0 K):Eng.cl2 ⟨Try.prog,w0⟩ 16 IH.sg [] [c0] K:=
 AV (C:=⟨Try.prog,w0⟩) (f:=16) (fn:=Try.f16) [(17,K3.sg),(80,ET.sg),(19,GB.sg),(42,IW.sg),(71,GS.sg),(84,ES.sg),(72,DA.sg),(61,CE.sg),(24,B4.sg),(25,K6.sg),(66,IF.sg),(31,FP.sg)] [(7,[0,1,0,7,15,31,31,0,0,447,1023]),(12,[0,0,3,7,0,16,0,0,192,448,1008,2032,4080,8191,16383]),(15,[0,1,0,4,15,31,63,127,255,511,1023,2047,4095,8191,16383,4095,36863,131071,262143,524287])] [(2042,⟨[.p (.j 0) 0, .p (.j 1) 0, .p (.j 2) 0, .p (.j 3) 0, .t (.j 4) 1, .v],[],[.bx [.t (.j 5) 8, .t (.j 6) 2, .t (.j 7) 1, .t (.j 8) 1], .bx [.v, .v, .t (.j 9) 1], .bx [.t (.j 10) 6, .t (.j 11) 2, .t (.j 12) 1], .bx [.v, .v, .t (.j 13) 1], .ls, .ls, .ls, .ls, .ls, .ls, .ls, .ls, .ls, .ls]⟩)] Try.func16 (by kernel_rfl) (by kernel_rfl) (by kernel_rfl) h
end Go.Proofs.Ytklmcfpgdfibnaa.P
