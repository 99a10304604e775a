/- A part of the proof. -/
import Derived.Test.YtnhicpkhkaihoaaGreatChecked
import Derived.Test.YtnhicpkhkaihoaaGreatRpPZ3
import Derived.KernelRfl
namespace Go.Proofs.YtnhicpkhkaihoaaGreat.P
open Go Go.Proofs.YtnhicpkhkaihoaaGreat Go.Proofs.YtnhicpkhkaihoaaGreat.Eng
set_option linter.unusedVariables false
set_option maxRecDepth 100000
def FH.sg:Sg:=⟨[(0,[.v]),(0,[.v]),(0,[.v])],[(0,[.t 1]),(0,[.v])],[]⟩
def FH.txt (C:Ctx) (a0 a1 a2:Value) (K:J2):Prop:=
 BA (fun r3 x1 k2=>
 prP (bnI .lss (nx x1 3) (nx x1 2)) fun t15_5=>
 AG t15_5 (
 prP (scS (nx x1 0) (some (nx x1 1)) none) fun t21_6=>
 cl2 C 155 HN.sg [t21_6] [] fun v7 d8=>
 prP (bnI .eql (nx v7 1) (.int .i64 0)) fun t26_9=>
 AG t26_9 (
 mkW 8 (nx x1 2) (nx x1 2) fun n10=>
 K [(.int .i64 (-1))] [(RX (AA n10) [T.c (.int .i64 0)])]) (
 apW [T.c (nx v7 0)] true (cnt 1 (nxc k2 0)) (cnt 1 [T.c (nx v7 0)]) 8 (
 prP (bnI .add (nx x1 1) (nx v7 1)) fun t35_11=>
 prP (bnI .add (nx x1 3) (.int .i64 1)) fun t17_12=>
 r3 [(nx x1 0),t35_11,(nx x1 2),t17_12] [((nxc k2 0)++[T.c (nx v7 0)])]))) (
 K [(nx x1 1)] [(nxc k2 0)])) [a0,a1,a2,(.int .i64 0)] [[]]
theorem FH.cl2 {w0:World} {a0 a1 a2:Value} {K:J2} (h:FH.txt ⟨Tryz.prog,w0⟩ a0 a1 a2 K):Eng.cl2 ⟨Tryz.prog,w0⟩ 99 FH.sg [a0,a1,a2] [] K:=
 AB (C:=⟨Tryz.prog,w0⟩) (f:=99) (fn:=Tryz.f99) [(155,HN.sg)] [] [(58,⟨[.v, .v, .v, .t (.j 0) 1, .v],[],[.ls]⟩)] Tryz.func99 (by kernel_rfl) (by kernel_rfl) (by kernel_rfl) h
def GC.sg:Sg:=⟨[(0,[.v])],[(0,[.v]),(0,[.v])],[]⟩
def GC.txt (C:Ctx) (a0:Value) (K:J2):Prop:=
 cl2 C 101 CE.sg [a0] [] fun v1 d2=>
 prP (bnI .eql (nx v1 1) (.int .i64 0)) fun t12_3=>
 gE t12_3 (
 gP t12_3 false (prP (bnI .gtr (nx v1 0) (.int .i64 8))) fun t15_4=>
 prP (pk t12_3 (.bool true) t15_4) fun t16_5=>
 gE t16_5 (
 gE t16_5 (
 gP t16_5 false (prP (lnS a0)) fun t20_6=>
 gE t16_5 (
 gP t16_5 false (prP (bnI .sub t20_6 (nx v1 1))) fun t22_7=>
 gP t16_5 false (prP (bnI .gtr (nx v1 0) t22_7)) fun t23_8=>
 prP (pk t16_5 (.bool true) t23_8) fun t24_9=>
 AG t24_9 (
 K [(.string {data:= #[]}),(.int .i64 0)] []) (
 prP (bnI .add (nx v1 1) (nx v1 0)) fun t29_10=>
 prP (scS a0 (some (nx v1 1)) (some t29_10)) fun t30_11=>
 prP (bnI .add (nx v1 1) (nx v1 0)) fun t33_12=>
 K [t30_11,t33_12] [])))))
theorem GC.cl2 {w0:World} {a0:Value} {K:J2} (h:GC.txt ⟨Tryz.prog,w0⟩ a0 K):Eng.cl2 ⟨Tryz.prog,w0⟩ 156 GC.sg [a0] [] K:=
 AB (C:=⟨Tryz.prog,w0⟩) (f:=156) (fn:=Tryz.f156) [(101,CE.sg)] [] [] Tryz.func156 (by kernel_rfl) (by kernel_rfl) (by kernel_rfl) h
def HJ.sg:Sg:=⟨[(1,[.v, .t 1 0]),(0,[.v]),(0,[.v])],[(0,[.v]),(0,[.v])],[]⟩
def HJ.txt (C:Ctx) (a0 a1 a2:Value) (c0:List T) (K:J2):Prop:=
 prP (scS a1 (some a2) none) fun t15_1=>
 cl2 C 101 CE.sg [t15_1] [] fun v2 d3=>
 prP (bnI .eql (nx v2 1) (.int .i64 0)) fun t20_4=>
 gE t20_4 (
 gE t20_4 (
 gE t20_4 (
 gE t20_4 (
 gP t20_4 false (prP (bnI .gtr (nx v2 0) (iv (cnt 1 c0)))) fun t26_5=>
 prP (pk t20_4 (.bool true) t26_5) fun t27_6=>
 AG t27_6 (
 K [(.string {data:= #[]}),(.int .i64 (-1))] []) (
 prP (bnI .gtr (nx v2 0) (.int .i64 0)) fun t29_7=>
 AG t29_7 (
 prP (bnI .sub (nx v2 0) (.int .i64 1)) fun t33_8=>
 ixW (cnt 1 c0) t33_8 fun t34_9=>
 ldc c0 [] ((AA t34_9)*1) fun t35_10=>
 prP (bnI .add a2 (nx v2 1)) fun t38_11=>
 K [t35_10,t38_11] []) (
 prP (bnI .add a2 (nx v2 1)) fun t43_12=>
 prP (scS a1 (some t43_12) none) fun t44_13=>
 cl2 C 156 GC.sg [t44_13] [] fun v14 d15=>
 prP (bnI .eql (nx v14 1) (.int .i64 0)) fun t49_16=>
 AG t49_16 (
 K [(.string {data:= #[]}),(.int .i64 (-1))] []) (
 prP (bnI .add a2 (nx v2 1)) fun t53_17=>
 prP (bnI .add t53_17 (nx v14 1)) fun t55_18=>
 K [(nx v14 0),t55_18] [])))))))
theorem HJ.cl2 {w0:World} {a0 a1 a2:Value} {c0:List T} {K:J2} (h:HJ.txt ⟨Tryz.prog,w0⟩ a0 a1 a2 c0 K):Eng.cl2 ⟨Tryz.prog,w0⟩ 100 HJ.sg [a0,a1,a2] [c0] K:=
 AB (C:=⟨Tryz.prog,w0⟩) (f:=100) (fn:=Tryz.f100) [(101,CE.sg),(156,GC.sg)] [] [] Tryz.func100 (by kernel_rfl) (by kernel_rfl) (by kernel_rfl) h
def FQ.sg:Sg:=⟨[(1,[.v, .t 1 0]),(0,[.v])],[(1,[.v, .v, .v, .v, .v]),(1,[.v, .v, .t 1]),(1,[.v, .t 1]),(0,[.v])],[]⟩
def FQ.txt (C:Ctx) (a0 a1:Value) (c0:List T) (K:J2):Prop:=
 apW c0 true (cnt 1 []) (cnt 1 c0) 16 (
 cl2 C 99 FH.sg [a1,(.int .i64 0),(.int .i64 4)] [] fun v1 d2=>
 prP (bnI .lss (nx v1 0) (.int .i64 0)) fun t39_3=>
 AG t39_3 (
 K [(.int .i64 0),(.int .i64 0),(.int .i64 0),(.int .i64 0),(.string {data:= #[]}),(.int .i64 0),(.int .i64 0),a0,(.bool false)] [[],([]++c0)]) (
 ixW (cnt 1 (nxc d2 0)) (.int .i64 0) fun t44_4=>
 ldc (nxc d2 0) [] ((AA t44_4)*1) fun t45_5=>
 ixW (cnt 1 (nxc d2 0)) (.int .i64 1) fun t47_6=>
 ldc (nxc d2 0) [] ((AA t47_6)*1) fun t48_7=>
 prP (bnI .add t48_7 a0) fun t51_8=>
 ixW (cnt 1 (nxc d2 0)) (.int .i64 2) fun t53_9=>
 ldc (nxc d2 0) [] ((AA t53_9)*1) fun t54_10=>
 ixW (cnt 1 (nxc d2 0)) (.int .i64 3) fun t57_11=>
 ldc (nxc d2 0) [] ((AA t57_11)*1) fun t58_12=>
 prP (bnI .add t58_12 t51_8) fun t61_13=>
 cl2 C 100 HJ.sg [a0,a1,(nx v1 0)] [c0] fun v14 d15=>
 prP (bnI .lss (nx v14 1) (.int .i64 0)) fun t71_16=>
 AG t71_16 (
 K [(.int .i64 0),(.int .i64 0),(.int .i64 0),(.int .i64 0),(.string {data:= #[]}),(.int .i64 0),(.int .i64 0),a0,(.bool false)] [[],([]++c0)]) (
 prP (scS a1 (some (nx v14 1)) none) fun t80_17=>
 cl2 C 101 CE.sg [t80_17] [] fun v18 d19=>
 prP (bnI .add (nx v14 1) (nx v18 1)) fun t88_20=>
 cl2 C 99 FH.sg [a1,t88_20,(.int .i64 1)] [] fun v21 d22=>
 prP (bnI .eql (nx v18 1) (.int .i64 0)) fun t93_23=>
 gE t93_23 (
 gP t93_23 false (prP (bnI .lss (nx v21 0) (.int .i64 0))) fun t96_24=>
 prP (pk t93_23 (.bool true) t96_24) fun t97_25=>
 AG t97_25 (
 K [(.int .i64 0),(.int .i64 0),(.int .i64 0),(.int .i64 0),(.string {data:= #[]}),(.int .i64 0),(.int .i64 0),a0,(.bool false)] [[],([]++c0)]) (
 prP (scS a1 (some (nx v21 0)) none) fun t104_26=>
 cl2 C 101 CE.sg [t104_26] [] fun v27 d28=>
 prP (bnI .eql (nx v27 1) (.int .i64 0)) fun t109_29=>
 gE t109_29 (
 gP t109_29 false (prP (bnI .gtr (nx v27 0) (.int .i64 8))) fun t112_30=>
 prP (pk t109_29 (.bool true) t112_30) fun t113_31=>
 AG t113_31 (
 K [(.int .i64 0),(.int .i64 0),(.int .i64 0),(.int .i64 0),(.string {data:= #[]}),(.int .i64 0),(.int .i64 0),a0,(.bool false)] [[],([]++c0)]) (
 ixW (cnt 1 (nxc d22 0)) (.int .i64 0) fun t119_32=>
 ldc (nxc d22 0) [] ((AA t119_32)*1) fun t120_33=>
 prP (bnI .add t120_33 t51_8) fun t123_34=>
 prP (bnI .add (nx v21 0) (nx v27 1)) fun t129_35=>
 cl2 C 99 FH.sg [a1,t129_35,(nx v27 0)] [] fun v36 d37=>
 BA (fun r40 x38 k39=>
 prP (bnI .lss (nx x38 3) (iv (cnt 1 (nxc k39 0)))) fun t139_55=>
 AG t139_55 (
 ixW (cnt 1 (nxc k39 0)) (nx x38 3) fun t145_56=>
 ldc (nxc k39 0) [] ((AA t145_56)*1) fun t146_57=>
 prP (bnI .add (nx x38 2) t146_57) fun t147_58=>
 apW [T.c t147_58] true (cnt 1 (nxc k39 2)) (cnt 1 [T.c t147_58]) 8 (
 prP (bnI .add (nx x38 3) (.int .i64 1)) fun t141_59=>
 r40 [(nx x38 0),(nx x38 1),t147_58,t141_59,(nx x38 4),(nx x38 5),(nx x38 6),(nx x38 7),(nx x38 8),(nx x38 9),(nx x38 10),(nx x38 11),(nx x38 12),(nx x38 13),(nx x38 14),(nx x38 15),(nx x38 16),(nx x38 17),(nx x38 18),(nx x38 19),(nx x38 20)] [(nxc k39 0),(nxc k39 1),((nxc k39 2)++[T.c t147_58])])) (
 cl2 C 74 EH.sg [(nx x38 4),(nx x38 14),(nx x38 15),(nx x38 16),(nx x38 17),(nx x38 18),(nx x38 19),(nx x38 20)] [c0,(nxc k39 2)] fun v60 d61=>
 prP (bnI .lss (nx x38 1) (.int .i64 0)) fun t162_62=>
 gE t162_62 (
 gE t162_62 (
 gP t162_62 false (prP (bnS .neq (nx v60 0) (nx x38 0))) fun t166_63=>
 prP (pk t162_62 (.bool true) t166_63) fun t167_64=>
 gE t167_64 (
 gP t167_64 false (prP (bnS .eql (nx x38 0) (.string {data:= #[]}))) fun t170_65=>
 prP (pk t167_64 (.bool true) t170_65) fun t171_66=>
 AG t171_66 (
 K [(.int .i64 0),(.int .i64 0),(.int .i64 0),(.int .i64 0),(.string {data:= #[]}),(.int .i64 0),(.int .i64 0),(nx x38 13),(.bool false)] [[],(nxc k39 1)]) (
 K [(nx x38 14),(nx x38 15),(nx x38 16),(nx x38 17),(nx x38 18),(nx x38 19),(nx x38 20),(nx v60 1),(.bool true)] [(nxc k39 2),(nxc d61 0)])))))) [a1,(nx v36 0),t51_8,(.int .i64 0),a0,(.int .i64 0),(.int .i64 0),(.int .i64 0),(.int .i64 0),(.string {data:= #[]}),(.int .i64 0),(.int .i64 0),(.int .i64 0),a0,t45_5,t51_8,t54_10,t61_13,(nx v14 0),(nx v18 0),t123_34] [(nxc d37 0),([]++c0),[]])))))))
theorem FQ.cl2 {w0:World} {a0 a1:Value} {c0:List T} {K:J2} (h:FQ.txt ⟨Tryz.prog,w0⟩ a0 a1 c0 K):Eng.cl2 ⟨Tryz.prog,w0⟩ 51 FQ.sg [a0,a1] [c0] K:=
 AB (C:=⟨Tryz.prog,w0⟩) (f:=51) (fn:=Tryz.f51) [(99,FH.sg),(100,HJ.sg),(101,CE.sg),(74,EH.sg)] [(1,[0,1,0,0,8,28,63,0,255]),(4,[0,0,0,1,11,31,63]),(5,[0,1,3,0,8,24,0,64,248,0,512,1536,4095,0,16383]),(6,[0,1,3,0,8,31,63,127]),(9,[0,0,0,1,11,31,63]),(14,[0,0,0,1,11,31,63]),(17,[0,0,0,1,11,31,63]),(18,[0,0,2,6,0,16,62,127,0,511]),(28,[0,0,0,1,11,31,63]),(29,[0,0,0,1,11,31,63])] [(2097146,⟨[.v, .p (.j 0) 0, .p (.j 1) 0, .p (.j 2) 0, .p (.j 3) 0, .p (.j 4) 0, .p (.j 5) 0, .p (.j 6) 0, .t (.j 7) 1, .v, .v, .v],[],[.bx [.v, .t (.f 0) 1], .bx [.v, .v, .v, .v, .v], .bx [.v, .v, .z], .bx [.v, .z], .bx [.v, .t (.j 8) 1], .bx [.v, .v, .v, .v, .v], .bx [.v, .v, .t (.j 9) 1], .ls, .ls, .ls]⟩)] Tryz.func51 (by kernel_rfl) (by kernel_rfl) (by kernel_rfl) h
def IX.sg:Sg:=⟨[(0,[.v])],[(0,[.t 5]),(0,[.t 3]),(0,[.v])],[]⟩
def IX.txt (C:Ctx) (a0:Value) (K:J2):Prop:=
 cl2 C 50 IT.sg [a0] [] fun v1 d2=>
 prP (bnI .neq (nx v1 0) (.int .i64 0)) fun t21_3=>
 AG t21_3 (
 K [(.int .i64 1)] [[],[]]) (
 BA (fun r6 x4 k5=>
 prP (bnI .lss (nx x4 0) (iv (cnt 1 (nxc k5 0)))) fun t30_16=>
 AG t30_16 (
 ixW (cnt 1 (nxc k5 0)) (nx x4 0) fun t37_17=>
 ldc (nxc k5 0) [] ((AA t37_17)*1) fun t38_18=>
 cl2 C 51 FQ.sg [(nx x4 1),t38_18] [(nxc k5 3)] fun v19 d20=>
 prP (un .not (nx v19 8)) fun t45_21=>
 AG t45_21 (
 K [(.int .i64 2)] [[],[]]) (
 apW [T.c (nx v19 0),T.c (nx v19 1),T.c (nx v19 2),T.c (nx v19 3),T.c (nx v19 4)] true (cnt 5 (nxc k5 1)) (cnt 5 [T.c (nx v19 0),T.c (nx v19 1),T.c (nx v19 2),T.c (nx v19 3),T.c (nx v19 4)]) 48 (
 apW [T.c (nx v19 5),T.c (nx v19 6),T.l 1 (nxc d20 0)] false (cnt 3 (nxc k5 2)) (cnt 3 [T.c (nx v19 5),T.c (nx v19 6),T.l 1 (nxc d20 0)]) 40 (
 prP (bnI .add (nx x4 0) (.int .i64 1)) fun t32_22=>
 r6 [t32_22,(nx v19 7)] [(nxc k5 0),((nxc k5 1)++[T.c (nx v19 0),T.c (nx v19 1),T.c (nx v19 2),T.c (nx v19 3),T.c (nx v19 4)]),((nxc k5 2)++[T.c (nx v19 5),T.c (nx v19 6),T.l 1 (nxc d20 0)]),(nxc d20 1)])))) (
 K [(.int .i64 0)] [(nxc k5 1),(nxc k5 2)])) [(.int .i64 0),(.int .i64 0)] [(nxc d2 0),[],[],[]])
theorem IX.cl2 {w0:World} {a0:Value} {K:J2} (h:IX.txt ⟨Tryz.prog,w0⟩ a0 K):Eng.cl2 ⟨Tryz.prog,w0⟩ 19 IX.sg [a0] [] K:=
 AB (C:=⟨Tryz.prog,w0⟩) (f:=19) (fn:=Tryz.f19) [(50,IT.sg),(51,FQ.sg)] [(10,[0,0,0,6,14,31,63,127,127,127,127,0,0,0,14591,31231,64511,131071])] [(1018,⟨[.t (.j 0) 1, .p (.j 1) 0, .t (.j 2) 5, .t (.j 3) 3, .v],[],[.ls, .bx [.v, .t (.j 4) 1], .ls, .ls, .ls]⟩)] Tryz.func19 (by kernel_rfl) (by kernel_rfl) (by kernel_rfl) h
def IP.sg:Sg:=⟨[(0,[.t 1 0]),(0,[.t 1 0])],[(0,[.v])],[]⟩
def IP.txt (C:Ctx) (c0 c1:List T) (K:J2):Prop:=
 prP (bnI .neq (iv (cnt 1 c0)) (iv (cnt 1 c1))) fun t10_1=>
 AG t10_1 (
 K [(.bool false)] []) (
 BA (fun r4 x2 k3=>
 prP (bnI .lss (nx x2 0) (iv (cnt 1 c0))) fun t14_6=>
 AG t14_6 (
 ixW (cnt 1 c0) (nx x2 0) fun t19_7=>
 ldc c0 [] ((AA t19_7)*1) fun t20_8=>
 ixW (cnt 1 c1) (nx x2 0) fun t23_9=>
 ldc c1 [] ((AA t23_9)*1) fun t24_10=>
 prP (bnI .neq t20_8 t24_10) fun t25_11=>
 AG t25_11 (
 K [(.bool false)] []) (
 prP (bnI .add (nx x2 0) (.int .i64 1)) fun t16_12=>
 r4 [t16_12] [])) (
 K [(.bool true)] [])) [(.int .i64 0)] [])
theorem IP.cl2 {w0:World} {c0 c1:List T} {K:J2} (h:IP.txt ⟨Tryz.prog,w0⟩ c0 c1 K):Eng.cl2 ⟨Tryz.prog,w0⟩ 38 IP.sg [] [c0,c1] K:=
 AB (C:=⟨Tryz.prog,w0⟩) (f:=38) (fn:=Tryz.f38) [] [(6,[0,0,3,7,0,0,48,112,255])] [(58,⟨[.t (.f 0) 1, .t (.f 1) 1, .v],[],[]⟩)] Tryz.func38 (by kernel_rfl) (by kernel_rfl) (by kernel_rfl) h
def ES.sg:Sg:=⟨[(1,[.v, .v, .t 1 0]),(1,[.v, .v, .t 1 0])],[(0,[.v])],[]⟩
def ES.txt (C:Ctx) (a0 a1 a2 a3:Value) (c0 c1:List T) (K:J2):Prop:=
 prP (bnI .eql a0 a2) fun t9_1=>
 gE t9_1 (
 gE t9_1 (
 gE t9_1 (
 gE t9_1 (
 gP t9_1 true (prP (bnI .eql a1 a3)) fun t15_2=>
 prP (pk t9_1 t15_2 (.bool false)) fun t16_3=>
 gE t16_3 (
 gE t16_3 (
 gE t16_3 (
 gE t16_3 (
 gP t16_3 true ((fun K=>cl2 C 38 IP.sg [] [c0,c1] fun v4 d5=>K (nx v4 0))) fun t22_6=>
 prP (pk t16_3 t22_6 (.bool false)) fun t23_7=>
 K [t23_7] []))))))))
theorem ES.cl2 {w0:World} {a0 a1 a2 a3:Value} {c0 c1:List T} {K:J2} (h:ES.txt ⟨Tryz.prog,w0⟩ a0 a1 a2 a3 c0 c1 K):Eng.cl2 ⟨Tryz.prog,w0⟩ 39 ES.sg [a0,a1,a2,a3] [c0,c1] K:=
 AB (C:=⟨Tryz.prog,w0⟩) (f:=39) (fn:=Tryz.f39) [(38,IP.sg)] [] [] Tryz.func39 (by kernel_rfl) (by kernel_rfl) (by kernel_rfl) h
def JV.sg:Sg:=⟨[(0,[.v])],[(1,[.v, .v, .t 8, .t 2, .t 1, .t 1, .t 5, .t 3])],[]⟩
def JV.txt (C:Ctx) (a0:Value) (K:J2):Prop:=
 cl2 C 19 IX.sg [a0] [] fun v1 d2=>
 cl2 C 52 HZ.sg [] [] fun v3 d4=>
 BA (fun r7 x5 k6=>
 prP (bnI .lss (nx x5 0) (iv (cnt 5 (nxc k6 0)))) fun t22_25=>
 AG t22_25 (
 ixW (cnt 5 (nxc k6 0)) (nx x5 0) fun t30_26=>
 ldg (nxc k6 0) [] ((AA t30_26)*5) [.c, .c, .c, .c, .c] fun ts27=>
 cl2 C 53 J8.sg [(tv (nxT ts27 0)),(tv (nxT ts27 1)),(tv (nxT ts27 2)),(tv (nxT ts27 3)),(tv (nxT ts27 4))] [(nxc k6 2),(nxc k6 3),(nxc k6 4),(nxc k6 5)] fun v28 d29=>
 ixW (cnt 3 (nxc k6 1)) (nx x5 0) fun t38_30=>
 ldg (nxc k6 1) [] ((AA t38_30)*3) [.c, .c, .l 1] fun ts31=>
 cl2 C 39 ES.sg [(nx v28 0),(nx v28 1),(tv (nxT ts31 0)),(tv (nxT ts31 1))] [(nxc d29 4),(F4 (nxc k6 1) [(((AA t38_30)*3)+2)])] fun v32 d33=>
 prP (un .not (nx v32 0)) fun t41_35=>
 AG t41_35 (
 K [(.int .i64 3),(nx x5 4)] [(nxc k6 2),(nxc k6 3),(nxc k6 4),(nxc k6 5),(nxc k6 6),(nxc k6 7)]) (
 ixW (cnt 5 (nxc k6 0)) (nx x5 0) fun t50_36=>
 ldg (nxc k6 0) [] ((AA t50_36)*5) [.c, .c, .c, .c, .c] fun ts37=>
 apW [T.c (tv (nxT ts37 0)),T.c (tv (nxT ts37 1)),T.c (tv (nxT ts37 2)),T.c (tv (nxT ts37 3)),T.c (tv (nxT ts37 4))] true (cnt 5 (nxc k6 6)) (cnt 5 [T.c (tv (nxT ts37 0)),T.c (tv (nxT ts37 1)),T.c (tv (nxT ts37 2)),T.c (tv (nxT ts37 3)),T.c (tv (nxT ts37 4))]) 48 (
 apW [T.c (nx v28 0),T.c (nx v28 1),T.l 1 (nxc d29 4)] false (cnt 3 (nxc k6 7)) (cnt 3 [T.c (nx v28 0),T.c (nx v28 1),T.l 1 (nxc d29 4)]) 40 (
 prP (bnI .add (nx x5 0) (.int .i64 1)) fun t62_38=>
 prP (bnI .add (nx x5 0) (.int .i64 1)) fun t24_39=>
 r7 [t24_39,(nx x5 1),(nx x5 2),(nx x5 3),t62_38] [(nxc k6 0),(nxc k6 1),(nxc d29 0),(nxc d29 1),(nxc d29 2),(nxc d29 3),((nxc k6 6)++[T.c (tv (nxT ts37 0)),T.c (tv (nxT ts37 1)),T.c (tv (nxT ts37 2)),T.c (tv (nxT ts37 3)),T.c (tv (nxT ts37 4))]),((nxc k6 7)++[T.c (nx v28 0),T.c (nx v28 1),T.l 1 (nxc d29 4)])])))) (
 K [(nx x5 3),(nx x5 4)] [(nxc k6 2),(nxc k6 3),(nxc k6 4),(nxc k6 5),(nxc k6 6),(nxc k6 7)])) [(.int .i64 0),(.int .i64 0),(.int .i64 0),(nx v1 0),(.int .i64 0)] [(nxc d2 0),(nxc d2 1),(nxc d4 0),(nxc d4 1),(nxc d4 2),(nxc d4 3),[],[]]
theorem JV.cl2 {w0:World} {a0:Value} {K:J2} (h:JV.txt ⟨Tryz.prog,w0⟩ a0 K):Eng.cl2 ⟨Tryz.prog,w0⟩ 20 JV.sg [a0] [] K:=
 AB (C:=⟨Tryz.prog,w0⟩) (f:=20) (fn:=Tryz.f20) [(19,IX.sg),(52,HZ.sg),(53,J8.sg),(39,ES.sg)] [(6,[0,1,0,0,12,28,63,127,255,255,0,0,3583,8191]),(7,[0,0,0,6,14,31,63]),(11,[0,1,0,0,12,28,60,127,255,511])] [(122,⟨[.p (.j 0) 0, .t (.j 1) 5, .t (.j 2) 3, .p (.j 3) 0, .v],[],[.bx [.v, .v, .z, .z, .z, .z, .z, .z], .ls, .ls, .bx [.v, .v, .t (.j 4) 8, .t (.j 5) 2, .t (.j 6) 1, .t (.j 7) 1, .t (.j 8) 5, .t (.j 9) 3], .ls, .ls, .ls, .ls, .ls, .ls]⟩)] Tryz.func20 (by kernel_rfl) (by kernel_rfl) (by kernel_rfl) h
def CZ.sg:Sg:=⟨[(0,[.v]),(0,[.v])],[(0,[.v])],[]⟩
def CZ.txt (C:Ctx) (a0 a1:Value) (K:J2):Prop:=
 prP (lnS a0) fun t6_1=>
 prP (lnS a1) fun t8_2=>
 prP (bnI .geq t6_1 t8_2) fun t9_3=>
 gE t9_3 (
 gE t9_3 (
 gP t9_3 true (prP (lnS a1)) fun t13_4=>
 gP t9_3 true (prP (scS a0 none (some t13_4))) fun t14_5=>
 gE t9_3 (
 gP t9_3 true (prP (bnS .eql t14_5 a1)) fun t16_6=>
 prP (pk t9_3 t16_6 (.bool false)) fun t17_7=>
 K [t17_7] [])))
theorem CZ.cl2 {w0:World} {a0 a1:Value} {K:J2} (h:CZ.txt ⟨Tryz.prog,w0⟩ a0 a1 K):Eng.cl2 ⟨Tryz.prog,w0⟩ 181 CZ.sg [a0,a1] [] K:=
 AB (C:=⟨Tryz.prog,w0⟩) (f:=181) (fn:=Tryz.f181) [] [] [] Tryz.func181 (by kernel_rfl) (by kernel_rfl) (by kernel_rfl) h
def DK.sg:Sg:=⟨[(0,[.v]),(0,[.v])],[(0,[.v]),(0,[.v])],[]⟩
def DK.txt (C:Ctx) (a0 a1:Value) (K:J2):Prop:=
 cl2 C 181 CZ.sg [a0,a1] [] fun v1 d2=>
 prP (un .not (nx v1 0)) fun t9_4=>
 AG t9_4 (
 K [a0,(.bool false)] []) (
 prP (lnS a1) fun t13_5=>
 prP (scS a0 (some t13_5) none) fun t14_6=>
 K [t14_6,(.bool true)] [])
theorem DK.cl2 {w0:World} {a0 a1:Value} {K:J2} (h:DK.txt ⟨Tryz.prog,w0⟩ a0 a1 K):Eng.cl2 ⟨Tryz.prog,w0⟩ 138 DK.sg [a0,a1] [] K:=
 AB (C:=⟨Tryz.prog,w0⟩) (f:=138) (fn:=Tryz.f138) [(181,CZ.sg)] [] [] Tryz.func138 (by kernel_rfl) (by kernel_rfl) (by kernel_rfl) h
def EG.sg:Sg:=⟨[(0,[.v]),(0,[.v])],[(0,[.v]),(0,[.v])],[]⟩
def EG.txt (C:Ctx) (a0 a1:Value) (K:J2):Prop:=
 cl2 C 138 DK.sg [a0,a1] [] fun v1 d2=>
 K [(nx v1 0),(nx v1 1)] []
theorem EG.cl2 {w0:World} {a0 a1:Value} {K:J2} (h:EG.txt ⟨Tryz.prog,w0⟩ a0 a1 K):Eng.cl2 ⟨Tryz.prog,w0⟩ 76 EG.sg [a0,a1] [] K:=
 AB (C:=⟨Tryz.prog,w0⟩) (f:=76) (fn:=Tryz.f76) [(138,DK.sg)] [] [] Tryz.func76 (by kernel_rfl) (by kernel_rfl) (by kernel_rfl) h
def C0.sg:Sg:=⟨[(0,[.v])],[(0,[.v]),(0,[.v])],[]⟩
def C0.txt (C:Ctx) (a0:Value) (K:J2):Prop:=
 BA (fun r3 x1 k2=>
 prP (bnI .lss (nx x1 2) (.int .i64 7)) fun t8_5=>
 gE t8_5 (
 gE t8_5 (
 gP t8_5 true (prP (lnS (nx x1 0))) fun t12_6=>
 gP t8_5 true (prP (bnI .lss (nx x1 2) t12_6)) fun t13_7=>
 prP (pk t8_5 t13_7 (.bool false)) fun t14_8=>
 AG t14_8 (
 prP (ix (nx x1 0) (nx x1 2)) fun t19_9=>
 prP (cvI .i64 t19_9) fun t20_10=>
 prP (bnI .rem t20_10 (.int .i64 128)) fun t23_11=>
 prP (bnI .mul (.int .i64 7) (nx x1 2)) fun t25_12=>
 prP (bnI .shl t23_11 t25_12) fun t26_13=>
 prP (bnI .add (nx x1 1) t26_13) fun t27_14=>
 prP (bnI .geq t20_10 (.int .i64 128)) fun t29_15=>
 AG t29_15 (
 prP (bnI .add (nx x1 2) (.int .i64 1)) fun t16_16=>
 r3 [(nx x1 0),t27_14,t16_16] []) (
 prP (bnI .eql t20_10 (.int .i64 0)) fun t31_17=>
 gE t31_17 (
 gP t31_17 true (prP (bnI .gtr (nx x1 2) (.int .i64 0))) fun t34_18=>
 prP (pk t31_17 t34_18 (.bool false)) fun t35_19=>
 AG t35_19 (
 K [(.int .i64 0),(.int .i64 0)] []) (
 prP (bnI .add (nx x1 2) (.int .i64 1)) fun t38_20=>
 K [t27_14,t38_20] [])))) (
 K [(.int .i64 0),(.int .i64 0)] [])))) [a0,(.int .i64 0),(.int .i64 0)] []
theorem C0.cl2 {w0:World} {a0:Value} {K:J2} (h:C0.txt ⟨Tryz.prog,w0⟩ a0 K):Eng.cl2 ⟨Tryz.prog,w0⟩ 139 C0.sg [a0] [] K:=
 AB (C:=⟨Tryz.prog,w0⟩) (f:=139) (fn:=Tryz.f139) [] [] [(58,⟨[.v, .v, .v],[],[]⟩)] Tryz.func139 (by kernel_rfl) (by kernel_rfl) (by kernel_rfl) h
def FU.sg:Sg:=⟨[(0,[.v])],[(0,[.v]),(0,[.v]),(0,[.v])],[]⟩
def FU.txt (C:Ctx) (a0:Value) (K:J2):Prop:=
 cl2 C 139 C0.sg [a0] [] fun v1 d2=>
 prP (scS a0 (some (nx v1 1)) none) fun t19_3=>
 cl2 C 139 C0.sg [t19_3] [] fun v4 d5=>
 prP (bnI .eql (nx v1 1) (.int .i64 0)) fun t24_6=>
 gE t24_6 (
 gP t24_6 false (prP (bnI .eql (nx v4 1) (.int .i64 0))) fun t27_7=>
 prP (pk t24_6 (.bool true) t27_7) fun t28_8=>
 gE t28_8 (
 gP t28_8 false (prP (bnI .gtr (nx v1 0) (.int .i64 400))) fun t31_9=>
 prP (pk t28_8 (.bool true) t31_9) fun t32_10=>
 gE t32_10 (
 gP t32_10 false (prP (bnI .gtr (nx v4 0) (.int .i64 200))) fun t35_11=>
 prP (pk t32_10 (.bool true) t35_11) fun t36_12=>
 gE t36_12 (
 gE t36_12 (
 gP t36_12 false (prP (lnS a0)) fun t40_13=>
 gE t36_12 (
 gP t36_12 false (prP (bnI .sub t40_13 (nx v1 1))) fun t42_14=>
 gE t36_12 (
 gP t36_12 false (prP (bnI .sub t42_14 (nx v4 1))) fun t44_15=>
 gP t36_12 false (prP (bnI .sub t44_15 (.int .i64 4))) fun t45_16=>
 gP t36_12 false (prP (bnI .gtr (nx v4 0) t45_16)) fun t46_17=>
 prP (pk t36_12 (.bool true) t46_17) fun t47_18=>
 AG t47_18 (
 K [(.int .i64 0),(.string {data:= #[]}),(.int .i64 0)] []) (
 prP (bnI .add (nx v1 1) (nx v4 1)) fun t51_19=>
 prP (bnI .add (nx v1 1) (nx v4 1)) fun t54_20=>
 prP (bnI .add t54_20 (nx v4 0)) fun t56_21=>
 prP (scS a0 (some t51_19) (some t56_21)) fun t57_22=>
 cl2 C 95 FG.sg [(nx v1 0),t57_22] [] fun v23 d24=>
 prP (bnI .add (nx v1 1) (nx v4 1)) fun t65_26=>
 prP (bnI .add t65_26 (nx v4 0)) fun t67_27=>
 prP (bnI .add t67_27 (.int .i64 4)) fun t68_28=>
 prP (scS a0 none (some t68_28)) fun t69_29=>
 prP (bnS .neq (nx v23 0) t69_29) fun t70_30=>
 AG t70_30 (
 K [(.int .i64 0),(.string {data:= #[]}),(.int .i64 0)] []) (
 prP (bnI .add (nx v1 1) (nx v4 1)) fun t75_31=>
 prP (bnI .add t75_31 (nx v4 0)) fun t77_32=>
 prP (bnI .add t77_32 (.int .i64 4)) fun t78_33=>
 K [(nx v1 0),t57_22,t78_33] [])))))))))
theorem FU.cl2 {w0:World} {a0:Value} {K:J2} (h:FU.txt ⟨Tryz.prog,w0⟩ a0 K):Eng.cl2 ⟨Tryz.prog,w0⟩ 77 FU.sg [a0] [] K:=
 AB (C:=⟨Tryz.prog,w0⟩) (f:=77) (fn:=Tryz.f77) [(139,C0.sg),(95,FG.sg)] [] [] Tryz.func77 (by kernel_rfl) (by kernel_rfl) (by kernel_rfl) h
def HK.sg:Sg:=⟨[(0,[.v])],[(0,[.t 1]),(0,[.v])],[]⟩
def HK.txt (C:Ctx) (a0:Value) (K:J2):Prop:=
 cl2 C 76 EG.sg [a0,(.string {data:= #[72,76,79,71,1]})] [] fun v1 d2=>
 prP (un .not (nx v1 1)) fun t16_3=>
 AG t16_3 (
 K [(.int .i64 1)] [[]]) (
 BA (fun r6 x4 k5=>
 prP (bnS .neq (nx x4 0) (.string {data:= #[]})) fun t18_20=>
 AG t18_20 (
 cl2 C 77 FU.sg [(nx x4 0)] [] fun v21 d22=>
 prP (bnI .eql (nx v21 2) (.int .i64 0)) fun t27_23=>
 AG t27_23 (
 K [(.int .i64 2)] [[]]) (
 prP (bnI .neq (nx v21 0) (iv (cnt 1 (nxc k5 0)))) fun t32_24=>
 AG t32_24 (
 K [(.int .i64 3)] [[]]) (
 prP (bnS .eql (nx v21 1) (.string {data:= #[]})) fun t35_25=>
 gE t35_25 (
 gE t35_25 (
 gP t35_25 true (prP (lnS (nx x4 0))) fun t39_26=>
 gP t35_25 true (prP (bnI .lss (nx v21 2) t39_26)) fun t40_27=>
 prP (pk t35_25 t40_27 (.bool false)) fun t41_28=>
 AG t41_28 (
 K [(.int .i64 5)] [[]]) (
 prP (bnS .eql (nx v21 1) (.string {data:= #[]})) fun t44_29=>
 AG t44_29 (
 K [(.int .i64 0)] [(nxc k5 0)]) (
 apW [T.c (nx v21 1)] true (cnt 1 (nxc k5 0)) (cnt 1 [T.c (nx v21 1)]) 16 (
 prP (scS (nx x4 0) (some (nx v21 2)) none) fun t52_30=>
 r6 [t52_30] [((nxc k5 0)++[T.c (nx v21 1)])])))))))) (
 K [(.int .i64 4)] [[]])) [(nx v1 0)] [[]])
theorem HK.cl2 {w0:World} {a0:Value} {K:J2} (h:HK.txt ⟨Tryz.prog,w0⟩ a0 K):Eng.cl2 ⟨Tryz.prog,w0⟩ 41 HK.sg [a0] [] K:=
 AB (C:=⟨Tryz.prog,w0⟩) (f:=41) (fn:=Tryz.f41) [(76,EG.sg),(77,FU.sg)] [] [(124,⟨[.v, .t (.j 0) 1],[],[.ls]⟩)] Tryz.func41 (by kernel_rfl) (by kernel_rfl) (by kernel_rfl) h
def L9.sg:Sg:=⟨[(0,[.v])],[(0,[.v])],[]⟩
def L9.txt (C:Ctx) (a0:Value) (K:J2):Prop:=
 prP (bnI .rem a0 (.int .i64 2)) fun t4_1=>
 prP (bnI .eql t4_1 (.int .i64 0)) fun t5_2=>
 AG t5_2 (
 prP (bnI .quo a0 (.int .i64 2)) fun t7_3=>
 K [t7_3] []) (
 prP (bnI .quo a0 (.int .i64 2)) fun t9_4=>
 prP (un .neg t9_4) fun t10_5=>
 prP (bnI .sub t10_5 (.int .i64 1)) fun t11_6=>
 K [t11_6] [])
theorem L9.cl2 {w0:World} {a0:Value} {K:J2} (h:L9.txt ⟨Tryz.prog,w0⟩ a0 K):Eng.cl2 ⟨Tryz.prog,w0⟩ 182 L9.sg [a0] [] K:=
 AB (C:=⟨Tryz.prog,w0⟩) (f:=182) (fn:=Tryz.f182) [] [] [] Tryz.func182 (by kernel_rfl) (by kernel_rfl) (by kernel_rfl) h
def HR.sg:Sg:=⟨[(0,[.v])],[(0,[.v]),(0,[.v])],[]⟩
def HR.txt (C:Ctx) (a0:Value) (K:J2):Prop:=
 cl2 C 139 C0.sg [a0] [] fun v1 d2=>
 prP (bnI .eql (nx v1 1) (.int .i64 0)) fun t12_3=>
 gE t12_3 (
 gP t12_3 false (prP (bnI .gtr (nx v1 0) (.int .i64 200000000000000))) fun t15_4=>
 prP (pk t12_3 (.bool true) t15_4) fun t16_5=>
 AG t16_5 (
 K [(.int .i64 0),(.int .i64 0)] []) (
 cl2 C 182 L9.sg [(nx v1 0)] [] fun v6 d7=>
 K [(nx v6 0),(nx v1 1)] []))
theorem HR.cl2 {w0:World} {a0:Value} {K:J2} (h:HR.txt ⟨Tryz.prog,w0⟩ a0 K):Eng.cl2 ⟨Tryz.prog,w0⟩ 140 HR.sg [a0] [] K:=
 AB (C:=⟨Tryz.prog,w0⟩) (f:=140) (fn:=Tryz.f140) [(139,C0.sg),(182,L9.sg)] [] [] Tryz.func140 (by kernel_rfl) (by kernel_rfl) (by kernel_rfl) h
def B1.sg:Sg:=⟨[(2,[.v, .v]),(0,[.v])],[],[[.v, .v]]⟩
def B1.txt (C:Ctx) (a0 a1 a2:Value) (K:J2):Prop:=
 B6 (fun x2 k3=>
 prP (scS (nx x2 1) (some (nx x2 0)) none) fun t15_6=>
 K [t15_6,(nx x2 2)] []) fun j4=>
 prP (bnI .eql a2 (.int .i64 0)) fun t5_5=>
 AG t5_5 (
 j4 [a2,a0,(.bool true)] []) (
 j4 [a2,a0,a1] [])
theorem B1.cl2 {w0:World} {a0 a1 a2:Value} {K:J2} (h:B1.txt ⟨Tryz.prog,w0⟩ a0 a1 a2 K):Eng.cl2 ⟨Tryz.prog,w0⟩ 141 B1.sg [a0,a1,a2] [] K:=
 AB (C:=⟨Tryz.prog,w0⟩) (f:=141) (fn:=Tryz.f141) [] [] [(1,⟨[.p (.j 0) 0, .v],[.p (.j 0) 0],[.bx [.v, .v]]⟩)] Tryz.func141 (by kernel_rfl) (by kernel_rfl) (by kernel_rfl) h
def BU.sg:Sg:=⟨[(2,[.v, .v])],[(0,[.v])],[[.v, .v]]⟩
def BU.txt (C:Ctx) (a0 a1:Value) (K:J2):Prop:=
 cl2 C 140 HR.sg [a0] [] fun v1 d2=>
 cl2 C 141 B1.sg [a0,a1,(nx v1 1)] [] fun v3 d4=>
 K [(nx v1 0),(nx v3 0),(nx v3 1)] []
theorem BU.cl2 {w0:World} {a0 a1:Value} {K:J2} (h:BU.txt ⟨Tryz.prog,w0⟩ a0 a1 K):Eng.cl2 ⟨Tryz.prog,w0⟩ 78 BU.sg [a0,a1] [] K:=
 AB (C:=⟨Tryz.prog,w0⟩) (f:=78) (fn:=Tryz.f78) [(140,HR.sg),(141,B1.sg)] [] [] Tryz.func78 (by kernel_rfl) (by kernel_rfl) (by kernel_rfl) h
def CG.sg:Sg:=⟨[(2,[.v, .v])],[(0,[.v])],[[.v, .v]]⟩
def CG.txt (C:Ctx) (a0 a1:Value) (K:J2):Prop:=
 cl2 C 139 C0.sg [a0] [] fun v1 d2=>
 cl2 C 141 B1.sg [a0,a1,(nx v1 1)] [] fun v3 d4=>
 K [(nx v1 0),(nx v3 0),(nx v3 1)] []
theorem CG.cl2 {w0:World} {a0 a1:Value} {K:J2} (h:CG.txt ⟨Tryz.prog,w0⟩ a0 a1 K):Eng.cl2 ⟨Tryz.prog,w0⟩ 79 CG.sg [a0,a1] [] K:=
 AB (C:=⟨Tryz.prog,w0⟩) (f:=79) (fn:=Tryz.f79) [(139,C0.sg),(141,B1.sg)] [] [] Tryz.func79 (by kernel_rfl) (by kernel_rfl) (by kernel_rfl) h
def GN.sg:Sg:=⟨[(0,[.v])],[(0,[.v]),(0,[.v])],[]⟩
def GN.txt (C:Ctx) (a0:Value) (K:J2):Prop:=
 cl2 C 139 C0.sg [a0] [] fun v1 d2=>
 prP (bnI .eql (nx v1 1) (.int .i64 0)) fun t12_3=>
 gE t12_3 (
 gP t12_3 false (prP (bnI .gtr (nx v1 0) (.int .i64 8))) fun t15_4=>
 prP (pk t12_3 (.bool true) t15_4) fun t16_5=>
 gE t16_5 (
 gE t16_5 (
 gP t16_5 false (prP (lnS a0)) fun t20_6=>
 gE t16_5 (
 gP t16_5 false (prP (bnI .sub t20_6 (nx v1 1))) fun t22_7=>
 gP t16_5 false (prP (bnI .gtr (nx v1 0) t22_7)) fun t23_8=>
 prP (pk t16_5 (.bool true) t23_8) fun t24_9=>
 AG t24_9 (
 K [(.string {data:= #[]}),(.int .i64 0)] []) (
 prP (bnI .add (nx v1 1) (nx v1 0)) fun t29_10=>
 prP (scS a0 (some (nx v1 1)) (some t29_10)) fun t30_11=>
 prP (bnI .add (nx v1 1) (nx v1 0)) fun t33_12=>
 K [t30_11,t33_12] [])))))
theorem GN.cl2 {w0:World} {a0:Value} {K:J2} (h:GN.txt ⟨Tryz.prog,w0⟩ a0 K):Eng.cl2 ⟨Tryz.prog,w0⟩ 142 GN.sg [a0] [] K:=
 AB (C:=⟨Tryz.prog,w0⟩) (f:=142) (fn:=Tryz.f142) [(139,C0.sg)] [] [] Tryz.func142 (by kernel_rfl) (by kernel_rfl) (by kernel_rfl) h
def CY.sg:Sg:=⟨[(2,[.v, .v])],[(0,[.v])],[[.v, .v]]⟩
def CY.txt (C:Ctx) (a0 a1:Value) (K:J2):Prop:=
 cl2 C 142 GN.sg [a0] [] fun v1 d2=>
 cl2 C 141 B1.sg [a0,a1,(nx v1 1)] [] fun v3 d4=>
 K [(nx v1 0),(nx v3 0),(nx v3 1)] []
theorem CY.cl2 {w0:World} {a0 a1:Value} {K:J2} (h:CY.txt ⟨Tryz.prog,w0⟩ a0 a1 K):Eng.cl2 ⟨Tryz.prog,w0⟩ 80 CY.sg [a0,a1] [] K:=
 AB (C:=⟨Tryz.prog,w0⟩) (f:=80) (fn:=Tryz.f80) [(142,GN.sg),(141,B1.sg)] [] [] Tryz.func80 (by kernel_rfl) (by kernel_rfl) (by kernel_rfl) h
def FW.sg:Sg:=⟨[(1,[.v, .t 1 0]),(0,[.v])],[(1,[.v, .v, .v, .v, .v]),(1,[.v, .v, .t 1]),(1,[.v, .t 1]),(0,[.v])],[]⟩
def FW.txt (C:Ctx) (a0 a1:Value) (c0:List T) (K:J2):Prop:=
 cl2 C 78 BU.sg [a1,(.bool false)] [] fun v1 d2=>
 cl2 C 78 BU.sg [(nx v1 1),(nx v1 2)] [] fun v3 d4=>
 prP (bnI .add a0 (nx v3 0)) fun t27_5=>
 cl2 C 78 BU.sg [(nx v3 1),(nx v3 2)] [] fun v6 d7=>
 cl2 C 78 BU.sg [(nx v6 1),(nx v6 2)] [] fun v8 d9=>
 prP (bnI .add t27_5 (nx v8 0)) fun t36_10=>
 cl2 C 79 CG.sg [(nx v8 1),(nx v8 2)] [] fun v11 d12=>
 B6 (fun x14 k15=>
 cl2 C 79 CG.sg [(nx x14 10),(nx x14 11)] [] fun v24 d25=>
 cl2 C 78 BU.sg [(nx v24 1),(nx v24 2)] [] fun v26 d27=>
 prP (bnI .add (nx x14 13) (nx v26 0)) fun t69_28=>
 cl2 C 79 CG.sg [(nx v26 1),(nx v26 2)] [] fun v29 d30=>
 BA (fun r33 x31 k32=>
 prP (bnI .lss (nx x31 3) (nx x31 1)) fun t77_51=>
 gE t77_51 (
 gE t77_51 (
 gE t77_51 (
 gE t77_51 (
 gP t77_51 true (prP (un .not (nx x31 14))) fun t83_52=>
 prP (pk t77_51 t83_52 (.bool false)) fun t84_53=>
 AG t84_53 (
 cl2 C 78 BU.sg [(nx x31 13),(nx x31 14)] [] fun v54 d55=>
 prP (bnI .add (nx x31 2) (nx v54 0)) fun t90_56=>
 apW [T.c t90_56] true (cnt 1 (nxc k32 0)) (cnt 1 [T.c t90_56]) 8 (
 prP (bnI .add (nx x31 3) (.int .i64 1)) fun t86_57=>
 r33 [(nx x31 0),(nx x31 1),t90_56,t86_57,(nx x31 4),(nx x31 5),(nx x31 6),(nx x31 7),(nx x31 8),(nx x31 9),(nx x31 10),(nx x31 11),(nx x31 12),(nx v54 1),(nx v54 2),(nx x31 15),(nx x31 16),(nx x31 17),(nx x31 18),(nx x31 19),(nx x31 20),(nx x31 21)] [((nxc k32 0)++[T.c t90_56])])) (
 cl2 C 46 EJ.sg [(nx x31 4),(nx x31 15),(nx x31 16),(nx x31 17),(nx x31 18),(nx x31 19),(nx x31 20),(nx x31 21)] [c0,(nxc k32 0)] fun v58 d59=>
 gE (nx x31 14) (
 gP (nx x31 14) false (prP (bnS .eql (nx v58 0) (.string {data:= #[]}))) fun t110_60=>
 prP (pk (nx x31 14) (.bool true) t110_60) fun t111_61=>
 gE t111_61 (
 gE t111_61 (
 gP t111_61 false (prP (bnS .neq (nx v58 0) (nx x31 0))) fun t115_62=>
 prP (pk t111_61 (.bool true) t115_62) fun t116_63=>
 AG t116_63 (
 cl2 C 81 EP.sg [(nx x31 4)] [c0] fun v64 d65=>
 K [(.int .i64 0),(.int .i64 0),(.int .i64 0),(.int .i64 0),(.string {data:= #[]}),(.int .i64 0),(.int .i64 0),(nx v64 0),(.bool false)] [[],(nxc d65 0)]) (
 K [(nx x31 15),(nx x31 16),(nx x31 17),(nx x31 18),(nx x31 19),(nx x31 20),(nx x31 21),(nx v58 1),(.bool true)] [(nxc k32 0),(nxc d59 0)])))))))))) [(nx x14 0),(nx v29 0),(nx x14 13),(.int .i64 0),(nx x14 1),(nx x14 2),(nx x14 3),(nx x14 4),(nx x14 5),(nx x14 6),(nx x14 7),(nx x14 8),(nx x14 9),(nx v29 1),(nx v29 2),(nx x14 12),(nx x14 13),(nx x14 14),(nx x14 15),(nx x14 16),(nx v24 0),t69_28] [[]]) fun j16=>
 prP (bnI .eql (nx v11 0) (.int .i64 0)) fun t45_17=>
 AG t45_17 (
 cl2 C 80 CY.sg [(nx v11 1),(nx v11 2)] [] fun v18 d19=>
 j16 [a1,a0,(.int .i64 0),(.int .i64 0),(.int .i64 0),(.int .i64 0),(.string {data:= #[]}),(.int .i64 0),(.int .i64 0),(.int .i64 0),(nx v18 1),(nx v18 2),(nx v1 0),t27_5,(nx v6 0),t36_10,(nx v18 0),(.int .i64 0),(.int .i64 0)] []) (
 prP (bnI .leq (nx v11 0) (iv (cnt 1 c0))) fun t54_20=>
 AG t54_20 (
 prP (bnI .sub (nx v11 0) (.int .i64 1)) fun t58_21=>
 ixW (cnt 1 c0) t58_21 fun t59_22=>
 ldc c0 [] ((AA t59_22)*1) fun t60_23=>
 j16 [a1,a0,(.int .i64 0),(.int .i64 0),(.int .i64 0),(.int .i64 0),(.string {data:= #[]}),(.int .i64 0),(.int .i64 0),(.int .i64 0),(nx v11 1),(nx v11 2),(nx v1 0),t27_5,(nx v6 0),t36_10,t60_23,(.int .i64 0),(.int .i64 0)] []) (
 j16 [a1,a0,(.int .i64 0),(.int .i64 0),(.int .i64 0),(.int .i64 0),(.string {data:= #[]}),(.int .i64 0),(.int .i64 0),(.int .i64 0),(nx v11 1),(.bool true),(nx v1 0),t27_5,(nx v6 0),t36_10,(.string {data:= #[]}),(.int .i64 0),(.int .i64 0)] []))
theorem FW.cl2 {w0:World} {a0 a1:Value} {c0:List T} {K:J2} (h:FW.txt ⟨Tryz.prog,w0⟩ a0 a1 c0 K):Eng.cl2 ⟨Tryz.prog,w0⟩ 42 FW.sg [a0,a1] [c0] K:=
 AB (C:=⟨Tryz.prog,w0⟩) (f:=42) (fn:=Tryz.f42) [(78,BU.sg),(79,CG.sg),(80,CY.sg),(46,EJ.sg),(81,EP.sg)] [(5,[0,1,0,4,15,31,63]),(7,[0,1,0,4,15,31,63]),(15,[0,1,0,4,15,31,63]),(26,[0,0,0,1,11,31,63])] [(1023,⟨[.v, .p (.j 0) 0, .p (.j 1) 0, .p (.j 2) 0, .p (.j 3) 0, .p (.j 4) 0, .p (.j 5) 0, .p (.j 6) 0],[],[.bx [.v, .t (.f 0) 1], .bx [.v, .v, .v, .v, .v], .bx [.v, .v, .z], .bx [.v, .z], .bx [.v, .v], .bx [.v, .v, .v, .v, .v], .bx [.v, .v, .z]]⟩),(262138,⟨[.v, .p (.j 0) 0, .p (.j 1) 0, .p (.j 2) 0, .p (.j 3) 0, .p (.j 4) 0, .p (.j 5) 0, .p (.j 6) 0, .v, .v, .v],[],[.bx [.v, .t (.f 0) 1], .bx [.v, .v, .v, .v, .v], .bx [.v, .v, .z], .bx [.v, .z], .bx [.v, .v], .bx [.v, .v, .v, .v, .v], .bx [.v, .v, .t (.j 7) 1], .ls]⟩)] Tryz.func42 (by kernel_rfl) (by kernel_rfl) (by kernel_rfl) h
def IM.sg:Sg:=⟨[(0,[.v])],[(0,[.t 5]),(0,[.t 3]),(0,[.v])],[]⟩
def IM.txt (C:Ctx) (a0:Value) (K:J2):Prop:=
 cl2 C 41 HK.sg [a0] [] fun v1 d2=>
 prP (bnI .neq (nx v1 0) (.int .i64 0)) fun t22_3=>
 AG t22_3 (
 K [(.int .i64 1)] [[],[]]) (
 BA (fun r6 x4 k5=>
 prP (bnI .lss (nx x4 1) (nx x4 0)) fun t26_16=>
 AG t26_16 (
 ixW (cnt 1 (nxc k5 2)) (nx x4 1) fun t27_17=>
 ldc (nxc k5 2) [] ((AA t27_17)*1) fun t28_18=>
 cl2 C 42 FW.sg [(nx x4 2),t28_18] [(nxc k5 3)] fun v19 d20=>
 prP (un .not (nx v19 8)) fun t38_21=>
 AG t38_21 (
 K [(.int .i64 2)] [[],[]]) (
 apW [T.c (nx v19 0),T.c (nx v19 1),T.c (nx v19 2),T.c (nx v19 3),T.c (nx v19 4)] true (cnt 5 (nxc k5 0)) (cnt 5 [T.c (nx v19 0),T.c (nx v19 1),T.c (nx v19 2),T.c (nx v19 3),T.c (nx v19 4)]) 48 (
 apW [T.c (nx v19 5),T.c (nx v19 6),T.l 1 (nxc d20 0)] false (cnt 3 (nxc k5 1)) (cnt 3 [T.c (nx v19 5),T.c (nx v19 6),T.l 1 (nxc d20 0)]) 40 (
 prP (bnI .add (nx x4 1) (.int .i64 1)) fun t48_22=>
 r6 [(nx x4 0),t48_22,(nx v19 7)] [((nxc k5 0)++[T.c (nx v19 0),T.c (nx v19 1),T.c (nx v19 2),T.c (nx v19 3),T.c (nx v19 4)]),((nxc k5 1)++[T.c (nx v19 5),T.c (nx v19 6),T.l 1 (nxc d20 0)]),(nxc k5 2),(nxc d20 1)])))) (
 K [(.int .i64 0)] [(nxc k5 0),(nxc k5 1)])) [(iv (cnt 1 (nxc d2 0))),(.int .i64 0),(.int .i64 0)] [[],[],(nxc d2 0),[]])
theorem IM.cl2 {w0:World} {a0:Value} {K:J2} (h:IM.txt ⟨Tryz.prog,w0⟩ a0 K):Eng.cl2 ⟨Tryz.prog,w0⟩ 14 IM.sg [a0] [] K:=
 AB (C:=⟨Tryz.prog,w0⟩) (f:=14) (fn:=Tryz.f14) [(41,HK.sg),(42,FW.sg)] [] [(1018,⟨[.t (.j 0) 5, .t (.j 1) 3, .p (.j 2) 0, .t (.j 3) 1, .v, .v],[],[.ls, .ls, .bx [.v, .t (.j 4) 1], .ls, .ls]⟩)] Tryz.func14 (by kernel_rfl) (by kernel_rfl) (by kernel_rfl) h
def HL.sg:Sg:=⟨[(0,[.t 1 0])],[(0,[.v])],[]⟩
def HL.txt (C:Ctx) (c0:List T) (K:J2):Prop:=
 BA (fun r3 x1 k2=>
 prP (bnI .lss (nx x1 1) (nx x1 0)) fun t8_5=>
 AG t8_5 (
 ixW (cnt 1 c0) (nx x1 1) fun t10_6=>
 ldc c0 [] ((AA t10_6)*1) fun t11_7=>
 prP (lnS t11_7) fun t13_8=>
 cl2 C 94 B9.sg [t13_8,(.int .i64 1),(.int .i64 8)] [] fun v9 d10=>
 prP (un .not (nx v9 0)) fun t15_12=>
 gE t15_12 (
 gE t15_12 (
 gP t15_12 false ((fun K=>scW (cnt 1 c0) none (some (nx x1 1)) fun l m=>K (two l m))) fun t19_13=>
 gE t15_12 (
 gP t15_12 false ((fun K=>cl2 C 150 GS.sg [t11_7] [(JB c0 [] ((AA (V9 t19_13))*1) ((AA (VN t19_13))*1))] fun v14 d15=>K (nx v14 0))) fun t21_16=>
 prP (pk t15_12 (.bool true) t21_16) fun t22_17=>
 AG t22_17 (
 K [(.bool false)] []) (
 prP (bnI .add (nx x1 1) (.int .i64 1)) fun t23_18=>
 r3 [(nx x1 0),t23_18] []))))) (
 prP (bnI .leq (iv (cnt 1 c0)) (.int .i64 6)) fun t26_19=>
 K [t26_19] [])) [(iv (cnt 1 c0)),(.int .i64 0)] []
theorem HL.cl2 {w0:World} {c0:List T} {K:J2} (h:HL.txt ⟨Tryz.prog,w0⟩ c0 K):Eng.cl2 ⟨Tryz.prog,w0⟩ 145 HL.sg [] [c0] K:=
 AB (C:=⟨Tryz.prog,w0⟩) (f:=145) (fn:=Tryz.f145) [(94,B9.sg),(150,GS.sg)] [] [(26,⟨[.t (.f 0) 1, .t (.f 0) 1, .v, .v],[],[]⟩)] Tryz.func145 (by kernel_rfl) (by kernel_rfl) (by kernel_rfl) h
def G4.sg:Sg:=⟨[(0,[.t 1 0]),(0,[.v])],[(0,[.v])],[]⟩
def G4.txt (C:Ctx) (a0:Value) (c0:List T) (K:J2):Prop:=
 BA (fun r3 x1 k2=>
 prP (bnI .lss (nx x1 2) (nx x1 1)) fun t10_5=>
 AG t10_5 (
 ixW (cnt 1 c0) (nx x1 2) fun t11_6=>
 ldc c0 [] ((AA t11_6)*1) fun t12_7=>
 prP (bnI .eql t12_7 (nx x1 0)) fun t15_8=>
 AG t15_8 (
 K [(.bool true)] []) (
 prP (bnI .add (nx x1 2) (.int .i64 1)) fun t16_9=>
 r3 [(nx x1 0),(nx x1 1),t16_9] [])) (
 K [(.bool false)] [])) [a0,(iv (cnt 1 c0)),(.int .i64 0)] []
theorem G4.cl2 {w0:World} {a0:Value} {c0:List T} {K:J2} (h:G4.txt ⟨Tryz.prog,w0⟩ a0 c0 K):Eng.cl2 ⟨Tryz.prog,w0⟩ 148 G4.sg [a0] [c0] K:=
 AB (C:=⟨Tryz.prog,w0⟩) (f:=148) (fn:=Tryz.f148) [] [] [(26,⟨[.v, .t (.f 0) 1, .v, .v],[],[]⟩)] Tryz.func148 (by kernel_rfl) (by kernel_rfl) (by kernel_rfl) h
def J3.sg:Sg:=⟨[(1,[.t 8 0, .t 2 0, .t 1 0, .t 1 0]),(0,[.v])],[(0,[.v])],[]⟩
def J3.txt (C:Ctx) (a0:Value) (c0 c1 c2 c3:List T) (K:J2):Prop:=
 ixW (cnt 8 c0) a0 fun t11_1=>
 ldg c0 [] ((AA t11_1)*8) [.c, .c, .c, .c, .c, .c, .l 1, .c] fun ts2=>
 cl2 C 94 B9.sg [(tv (nxT ts2 1)),(.int .i64 0),(.int .i64 999)] [] fun v3 d4=>
 prP (un .not (nx v3 0)) fun t16_6=>
 gE t16_6 (
 gE t16_6 (
 gE t16_6 (
 gP t16_6 false (prP (bnI .neq (iv (cnt 1 (F4 c0 [(((AA t11_1)*8)+6)]))) (.int .i64 3))) fun t21_7=>
 prP (pk t16_6 (.bool true) t21_7) fun t22_8=>
 AG t22_8 (
 K [(.bool false)] []) (
 BA (fun r11 x9 k10=>
 prP (bnI .lss (nx x9 3) (nx x9 2)) fun t27_13=>
 AG t27_13 (
 ixW (cnt 1 (F4 c0 [(AA (nx x9 1))])) (nx x9 3) fun t28_14=>
 ldc c0 [(AA (nx x9 1))] ((AA t28_14)*1) fun t29_15=>
 prP (bnI .neq t29_15 (.int .i64 (-1))) fun t31_16=>
 gE t31_16 (
 gE t31_16 (
 gP t31_16 true (prP (un .not (nx x9 4))) fun t35_17=>
 gE t31_16 (
 gE (C3 t31_16 true t35_17) (
 gE (C3 t31_16 true t35_17) (
 gP (C3 t31_16 true t35_17) false ((fun K=>cl2 C 147 BY.sg [t29_15] [c0,c1,c2,c3] fun v18 d19=>K (nx v18 0))) fun t39_20=>
 gP (C3 t31_16 true t35_17) false (prP (bnI .lss t39_20 (.int .i64 0))) fun t40_21=>
 gP t31_16 true (prP (pk t35_17 (.bool true) t40_21)) fun t41_22=>
 prP (pk t31_16 t41_22 (.bool false)) fun t42_23=>
 AG t42_23 (
 K [(.bool false)] []) (
 prP (bnI .add (nx x9 3) (.int .i64 1)) fun t43_24=>
 r11 [(nx x9 0),(iv (AA (nx x9 1))),(nx x9 2),t43_24,(nx x9 4),(nx x9 5),(nx x9 6),(nx x9 7),(nx x9 8),(nx x9 9),(iv (AA (nx x9 10))),(nx x9 11)] []))))))) (
 prP (un .not (nx x9 4)) fun t46_25=>
 AG t46_25 (
 prP (bnI .eql (nx x9 6) (.int .i64 0)) fun t49_26=>
 gE t49_26 (
 gE t49_26 (
 gP t49_26 true (prP (bnI .eql (nx x9 7) (.int .i64 0))) fun t53_27=>
 prP (pk t49_26 t53_27 (.bool false)) fun t54_28=>
 gE t54_28 (
 gE t54_28 (
 gP t54_28 true (prP (bnI .eql (nx x9 8) (.int .i64 0))) fun t58_29=>
 prP (pk t54_28 t58_29 (.bool false)) fun t59_30=>
 gE t59_30 (
 gE t59_30 (
 gP t59_30 true (prP (bnI .eql (nx x9 9) (.int .i64 0))) fun t63_31=>
 prP (pk t59_30 t63_31 (.bool false)) fun t64_32=>
 gE t64_32 (
 gE t64_32 (
 gP t64_32 true (prP (un .not (nx x9 11))) fun t68_33=>
 prP (pk t64_32 t68_33 (.bool false)) fun t69_34=>
 K [t69_34] []))))))))) (
 prP (bnI .geq (nx x9 5) (.int .i64 1)) fun t72_35=>
 gE t72_35 (
 gE t72_35 (
 gE t72_35 (
 gE t72_35 (
 gE t72_35 (
 gP t72_35 true (prP (bnI .sub (iv (cnt 1 c3)) (.int .i64 1))) fun t79_36=>
 gP t72_35 true ((fun K=>cl2 C 94 B9.sg [(nx x9 6),(.int .i64 0),t79_36] [] fun v37 d38=>K (nx v37 0))) fun t80_39=>
 prP (pk t72_35 t80_39 (.bool false)) fun t81_40=>
 gE t81_40 (
 gE t81_40 (
 gP t81_40 true ((fun K=>cl2 C 94 B9.sg [(nx x9 7),(.int .i64 0),(.int .i64 20)] [] fun v41 d42=>K (nx v41 0))) fun t85_43=>
 prP (pk t81_40 t85_43 (.bool false)) fun t86_44=>
 gE t86_44 (
 gE t86_44 (
 gP t86_44 true ((fun K=>cl2 C 94 B9.sg [(nx x9 8),(.int .i64 0),(.int .i64 20)] [] fun v45 d46=>K (nx v45 0))) fun t90_47=>
 prP (pk t86_44 t90_47 (.bool false)) fun t91_48=>
 gE t91_48 (
 gE t91_48 (
 gE t91_48 (
 gE t91_48 (
 gE t91_48 (
 gE t91_48 (
 gP t91_48 true (prP (bnI .add (nx x9 7) (nx x9 8))) fun t99_49=>
 gE t91_48 (
 gE t91_48 (
 gP t91_48 true ((fun K=>cl2 C 176 FM.sg [(nx x9 0)] [c0,c1,c2,c3] fun v50 d51=>K (nx v50 0))) fun t102_52=>
 gP t91_48 true (prP (bnI .add t99_49 t102_52)) fun t103_53=>
 gP t91_48 true (prP (bnI .eql (nx x9 9) t103_53)) fun t104_54=>
 prP (pk t91_48 t104_54 (.bool false)) fun t105_55=>
 gE t105_55 (
 gE t105_55 (
 gP t105_55 true (prP (bnI .geq (nx x9 9) (.int .i64 1))) fun t109_56=>
 prP (pk t105_55 t109_56 (.bool false)) fun t110_57=>
 gE t110_57 (
 gE t110_57 (
 gE t110_57 (
 gE t110_57 (
 gE t110_57 (
 gE t110_57 (
 gE t110_57 (
 gP t110_57 true ((fun K=>cl2 C 168 GA.sg [(nx x9 0),(nx x9 5)] [] fun v58 d59=>K (nx v58 0))) fun t119_60=>
 gP t110_57 true ((fun K=>cl2 C 148 G4.sg [t119_60] [c2] fun v61 d62=>K (nx v61 0))) fun t120_63=>
 gP t110_57 true (prP (bnB .eql (nx x9 11) t120_63)) fun t121_64=>
 prP (pk t110_57 t121_64 (.bool false)) fun t122_65=>
 K [t122_65] []))))))))))))))))))))))))))))) [a0,(iv (((AA t11_1)*8)+6)),(iv (cnt 1 (F4 c0 [(((AA t11_1)*8)+6)]))),(.int .i64 0),(tv (nxT ts2 0)),(tv (nxT ts2 1)),(tv (nxT ts2 2)),(tv (nxT ts2 3)),(tv (nxT ts2 4)),(tv (nxT ts2 5)),(iv (((AA t11_1)*8)+6)),(tv (nxT ts2 7))] []))))
theorem J3.cl2 {w0:World} {a0:Value} {c0 c1 c2 c3:List T} {K:J2} (h:J3.txt ⟨Tryz.prog,w0⟩ a0 c0 c1 c2 c3 K):Eng.cl2 ⟨Tryz.prog,w0⟩ 146 J3.sg [a0] [c0,c1,c2,c3] K:=
 AB (C:=⟨Tryz.prog,w0⟩) (f:=146) (fn:=Tryz.f146) [(94,B9.sg),(147,BY.sg),(176,FM.sg),(168,GA.sg),(148,G4.sg)] [(12,[0,1,3,7,15,31,15,79,207,463,1023,2047,4095,8191,16383,32767,65535,131071,262143,524287,1048575,2097151,4194303,8388607,16777215,8388607,41943039,8388607,142606335,511705087,8388607,8388607,3229614079,8564768767,17179869183,34359738367,68719476735,137438953471,274877906943,549755813887,1099511627775,2199023255551,4398046511103,8796093022207,4398046511103,21990232555519,4398046511103,4398046511103,145135534866431,496979255754751,1112705767309311,2251799813685247,4503599627370495,9007199254740991])] [(122,⟨[.v, .p (.j 0) 0, .p (.j 1) 0, .n (.f 0) 1 1, .v, .v],[],[.bx [.t (.f 0) 8, .t (.f 1) 2, .t (.f 2) 1, .t (.f 3) 1], .bx [.v, .v, .v, .v, .v, .v, .n (.f 0) 1 1, .v]]⟩)] Tryz.func146 (by kernel_rfl) (by kernel_rfl) (by kernel_rfl) h
def I5.sg:Sg:=⟨[(1,[.t 8 0, .t 2 0, .t 1 0, .t 1 0])],[(0,[.v])],[]⟩
def I5.txt (C:Ctx) (c0 c1 c2 c3:List T) (K:J2):Prop:=
 prP (bnI .neq (iv (cnt 8 c0)) (.int .i64 8)) fun t11_1=>
 gE t11_1 (
 gE t11_1 (
 gE t11_1 (
 gP t11_1 false (prP (bnI .neq (iv (cnt 2 c1)) (.int .i64 8))) fun t16_2=>
 prP (pk t11_1 (.bool true) t16_2) fun t17_3=>
 gE t17_3 (
 gE t17_3 (
 gP t17_3 false ((fun K=>cl2 C 145 HL.sg [] [c3] fun v4 d5=>K (nx v4 0))) fun t21_6=>
 gP t17_3 false (prP (un .not t21_6)) fun t22_7=>
 prP (pk t17_3 (.bool true) t22_7) fun t23_8=>
 AG t23_8 (
 K [(.bool false)] []) (
 BA (fun r11 x9 k10=>
 prP (bnI .lss (nx x9 1) (nx x9 0)) fun t28_13=>
 AG t28_13 (
 cl2 C 146 J3.sg [(nx x9 1)] [c0,c1,c2,c3] fun v14 d15=>
 prP (un .not (nx v14 0)) fun t33_17=>
 AG t33_17 (
 K [(.bool false)] []) (
 prP (bnI .add (nx x9 1) (.int .i64 1)) fun t34_18=>
 r11 [(nx x9 0),t34_18] [])) (
 BA (fun r21 x19 k20=>
 prP (bnI .lss (nx x19 1) (nx x19 0)) fun t39_23=>
 AG t39_23 (
 ixW (cnt 2 c1) (nx x19 1) fun t40_24=>
 ldg c1 [] ((AA t40_24)*2) [.c, .c] fun ts25=>
 prP (un .not (tv (nxT ts25 0))) fun t44_26=>
 gE t44_26 (
 gE t44_26 (
 gP t44_26 true (prP (bnI .neq (tv (nxT ts25 1)) (.int .i64 0))) fun t48_27=>
 prP (pk t44_26 t48_27 (.bool false)) fun t49_28=>
 gE t49_28 (
 gE t49_28 (
 gE t49_28 (
 gE (C3 t49_28 false (tv (nxT ts25 0))) (
 gE (C3 t49_28 false (tv (nxT ts25 0))) (
 gP (C3 t49_28 false (tv (nxT ts25 0))) true ((fun K=>cl2 C 94 B9.sg [(tv (nxT ts25 1)),(.int .i64 8),(.int .i64 7999)] [] fun v29 d30=>K (nx v29 0))) fun t56_31=>
 gP (C3 t49_28 false (tv (nxT ts25 0))) true (prP (un .not t56_31)) fun t57_32=>
 gP t49_28 false (prP (pk (tv (nxT ts25 0)) t57_32 (.bool false))) fun t58_33=>
 prP (pk t49_28 (.bool true) t58_33) fun t59_34=>
 AG t59_34 (
 K [(.bool false)] []) (
 prP (bnI .add (nx x19 1) (.int .i64 1)) fun t60_35=>
 r21 [(nx x19 0),t60_35] []))))))))) (
 BA (fun r38 x36 k37=>
 prP (bnI .lss (nx x36 1) (nx x36 0)) fun t65_40=>
 AG t65_40 (
 ixW (cnt 1 c2) (nx x36 1) fun t67_41=>
 ldc c2 [] ((AA t67_41)*1) fun t68_42=>
 cl2 C 147 BY.sg [t68_42] [c0,c1,c2,c3] fun v43 d44=>
 prP (bnI .lss (nx v43 0) (.int .i64 0)) fun t72_46=>
 gE t72_46 (
 gE t72_46 (
 gE t72_46 (
 gP t72_46 false ((fun K=>scW (cnt 1 c2) none (some (nx x36 1)) fun l m=>K (two l m))) fun t77_47=>
 gE t72_46 (
 gP t72_46 false ((fun K=>cl2 C 148 G4.sg [t68_42] [(JB c2 [] ((AA (V9 t77_47))*1) ((AA (VN t77_47))*1))] fun v48 d49=>K (nx v48 0))) fun t79_50=>
 prP (pk t72_46 (.bool true) t79_50) fun t80_51=>
 AG t80_51 (
 K [(.bool false)] []) (
 prP (bnI .add (nx x36 1) (.int .i64 1)) fun t81_52=>
 r38 [(nx x36 0),t81_52] [])))))) (
 K [(.bool true)] [])) [(iv (cnt 1 c2)),(.int .i64 0)] [])) [(iv (cnt 2 c1)),(.int .i64 0)] [])) [(iv (cnt 8 c0)),(.int .i64 0)] []))))))
theorem I5.cl2 {w0:World} {c0 c1 c2 c3:List T} {K:J2} (h:I5.txt ⟨Tryz.prog,w0⟩ c0 c1 c2 c3 K):Eng.cl2 ⟨Tryz.prog,w0⟩ 84 I5.sg [] [c0,c1,c2,c3] K:=
 AB (C:=⟨Tryz.prog,w0⟩) (f:=84) (fn:=Tryz.f84) [(145,HL.sg),(146,J3.sg),(94,B9.sg),(147,BY.sg),(148,G4.sg)] [] [(250,⟨[.p (.j 0) 0, .t (.f 2) 1, .v, .v],[],[.bx [.t (.f 0) 8, .t (.f 1) 2, .t (.f 2) 1, .t (.f 3) 1]]⟩),(122,⟨[.p (.j 0) 0, .t (.f 1) 2, .v, .v],[],[.bx [.t (.f 0) 8, .t (.f 1) 2, .t (.f 2) 1, .t (.f 3) 1]]⟩),(58,⟨[.p (.j 0) 0, .v, .v],[],[.bx [.t (.f 0) 8, .t (.f 1) 2, .t (.f 2) 1, .t (.f 3) 1]]⟩)] Tryz.func84 (by kernel_rfl) (by kernel_rfl) (by kernel_rfl) h
def J4.sg:Sg:=⟨[(1,[.t 8 0, .t 2 0, .t 1 0, .t 1 0]),(1,[.v, .v, .v, .v, .v])],[(1,[.t 8, .t 2, .t 1, .t 1]),(1,[.v, .v, .t 1])],[]⟩
def J4.txt (C:Ctx) (a0 a1 a2 a3 a4:Value) (c0 c1 c2 c3:List T) (K:J2):Prop:=
 cl2 C 83 EK.sg [] [c0,c1,c2,c3] fun v1 d2=>
 cl2 C 84 I5.sg [] [c0,c1,c2,c3] fun v3 d4=>
 prP (un .not (nx v3 0)) fun t12_6=>
 AG t12_6 (
 cl2 C 85 BW.sg [(.int .i64 2)] [] fun v7 d8=>
 K [(nx v7 0),(nx v7 1)] [(nxc d2 0),(nxc d2 1),(nxc d2 2),(nxc d2 3),(nxc d8 0)]) (
 cl2 C 73 ER.sg [a0,a1,a2,a3,a4] [(nxc d2 0),(nxc d2 1),(nxc d2 2),(nxc d2 3)] fun v9 d10=>
 K [(nx v9 0),(nx v9 1)] [(nxc d10 1),(nxc d10 2),(nxc d10 3),(nxc d10 4),(nxc d10 0)])
theorem J4.cl2 {w0:World} {a0 a1 a2 a3 a4:Value} {c0 c1 c2 c3:List T} {K:J2} (h:J4.txt ⟨Tryz.prog,w0⟩ a0 a1 a2 a3 a4 c0 c1 c2 c3 K):Eng.cl2 ⟨Tryz.prog,w0⟩ 44 J4.sg [a0,a1,a2,a3,a4] [c0,c1,c2,c3] K:=
 AB (C:=⟨Tryz.prog,w0⟩) (f:=44) (fn:=Tryz.f44) [(83,EK.sg),(84,I5.sg),(85,BW.sg),(73,ER.sg)] [(3,[0,0,3,7]),(5,[0,0,1,7])] [] Tryz.func44 (by kernel_rfl) (by kernel_rfl) (by kernel_rfl) h
def GR.sg:Sg:=⟨[(0,[.t 1 0]),(0,[.t 1 0])],[(0,[.v])],[]⟩
def GR.txt (C:Ctx) (c0 c1:List T) (K:J2):Prop:=
 prP (bnI .neq (iv (cnt 1 c0)) (iv (cnt 1 c1))) fun t10_1=>
 AG t10_1 (
 K [(.bool false)] []) (
 BA (fun r4 x2 k3=>
 prP (bnI .lss (nx x2 1) (nx x2 0)) fun t14_6=>
 AG t14_6 (
 ixW (cnt 1 c0) (nx x2 1) fun t18_7=>
 ldc c0 [] ((AA t18_7)*1) fun t19_8=>
 ixW (cnt 1 c1) (nx x2 1) fun t22_9=>
 ldc c1 [] ((AA t22_9)*1) fun t23_10=>
 prP (bnI .neq t19_8 t23_10) fun t24_11=>
 AG t24_11 (
 K [(.bool false)] []) (
 prP (bnI .add (nx x2 1) (.int .i64 1)) fun t25_12=>
 r4 [(nx x2 0),t25_12] [])) (
 K [(.bool true)] [])) [(iv (cnt 1 c0)),(.int .i64 0)] [])
theorem GR.cl2 {w0:World} {c0 c1:List T} {K:J2} (h:GR.txt ⟨Tryz.prog,w0⟩ c0 c1 K):Eng.cl2 ⟨Tryz.prog,w0⟩ 86 GR.sg [] [c0,c1] K:=
 AB (C:=⟨Tryz.prog,w0⟩) (f:=86) (fn:=Tryz.f86) [] [(6,[0,0,3,7,0,0,48,112,255])] [(58,⟨[.t (.f 0) 1, .t (.f 1) 1, .v, .v],[],[]⟩)] Tryz.func86 (by kernel_rfl) (by kernel_rfl) (by kernel_rfl) h
def EN.sg:Sg:=⟨[(1,[.v, .v, .t 1 0]),(1,[.v, .v, .t 1 0])],[(0,[.v])],[]⟩
def EN.txt (C:Ctx) (a0 a1 a2 a3:Value) (c0 c1:List T) (K:J2):Prop:=
 prP (bnI .eql a0 a2) fun t9_1=>
 gE t9_1 (
 gE t9_1 (
 gE t9_1 (
 gE t9_1 (
 gP t9_1 true (prP (bnI .eql a1 a3)) fun t15_2=>
 prP (pk t9_1 t15_2 (.bool false)) fun t16_3=>
 gE t16_3 (
 gE t16_3 (
 gE t16_3 (
 gE t16_3 (
 gP t16_3 true ((fun K=>cl2 C 86 GR.sg [] [c0,c1] fun v4 d5=>K (nx v4 0))) fun t22_6=>
 prP (pk t16_3 t22_6 (.bool false)) fun t23_7=>
 K [t23_7] []))))))))
theorem EN.cl2 {w0:World} {a0 a1 a2 a3:Value} {c0 c1:List T} {K:J2} (h:EN.txt ⟨Tryz.prog,w0⟩ a0 a1 a2 a3 c0 c1 K):Eng.cl2 ⟨Tryz.prog,w0⟩ 45 EN.sg [a0,a1,a2,a3] [c0,c1] K:=
 AB (C:=⟨Tryz.prog,w0⟩) (f:=45) (fn:=Tryz.f45) [(86,GR.sg)] [] [] Tryz.func45 (by kernel_rfl) (by kernel_rfl) (by kernel_rfl) h
def IW.sg:Sg:=⟨[(0,[.v])],[(1,[.v, .v, .t 8, .t 2, .t 1, .t 1, .t 5, .t 3])],[]⟩
def IW.txt (C:Ctx) (a0:Value) (K:J2):Prop:=
 cl2 C 14 IM.sg [a0] [] fun v1 d2=>
 cl2 C 43 HQ.sg [] [] fun v3 d4=>
 B6 (fun x6 k7=>
 K [(nx x6 2),(nx x6 3)] [(nxc k7 0),(nxc k7 1),(nxc k7 2),(nxc k7 3),(nxc k7 4),(nxc k7 5)]) fun j8=>
 BA (fun r11 x9 k10=>
 prP (bnI .lss (nx x9 1) (nx x9 0)) fun t23_27=>
 AG t23_27 (
 ixW (cnt 5 (nxc k10 1)) (nx x9 1) fun t25_28=>
 ldg (nxc k10 1) [] ((AA t25_28)*5) [.c, .c, .c, .c, .c] fun ts29=>
 cl2 C 44 J4.sg [(tv (nxT ts29 0)),(tv (nxT ts29 1)),(tv (nxT ts29 2)),(tv (nxT ts29 3)),(tv (nxT ts29 4))] [(nxc k10 2),(nxc k10 3),(nxc k10 4),(nxc k10 5)] fun v30 d31=>
 ixW (cnt 3 (nxc k10 0)) (nx x9 1) fun t37_32=>
 ldg (nxc k10 0) [] ((AA t37_32)*3) [.c, .c, .l 1] fun ts33=>
 cl2 C 45 EN.sg [(nx v30 0),(nx v30 1),(tv (nxT ts33 0)),(tv (nxT ts33 1))] [(nxc d31 4),(F4 (nxc k10 0) [(((AA t37_32)*3)+2)])] fun v34 d35=>
 prP (un .not (nx v34 0)) fun t40_37=>
 AG t40_37 (
 j8 [(nx x9 2),(nx x9 3),(.int .i64 3),(nx x9 5)] [(nxc k10 2),(nxc k10 3),(nxc k10 4),(nxc k10 5),(nxc k10 6),(nxc k10 7)]) (
 prP (bnI .add (nx x9 5) (.int .i64 1)) fun t44_38=>
 apW [T.c (tv (nxT ts29 0)),T.c (tv (nxT ts29 1)),T.c (tv (nxT ts29 2)),T.c (tv (nxT ts29 3)),T.c (tv (nxT ts29 4))] true (cnt 5 (nxc k10 6)) (cnt 5 [T.c (tv (nxT ts29 0)),T.c (tv (nxT ts29 1)),T.c (tv (nxT ts29 2)),T.c (tv (nxT ts29 3)),T.c (tv (nxT ts29 4))]) 48 (
 apW [T.c (nx v30 0),T.c (nx v30 1),T.l 1 (nxc d31 4)] false (cnt 3 (nxc k10 7)) (cnt 3 [T.c (nx v30 0),T.c (nx v30 1),T.l 1 (nxc d31 4)]) 40 (
 prP (bnI .add (nx x9 1) (.int .i64 1)) fun t60_39=>
 r11 [(nx x9 0),t60_39,(nx x9 2),(nx x9 3),(nx x9 4),t44_38] [(nxc k10 0),(nxc k10 1),(nxc d31 0),(nxc d31 1),(nxc d31 2),(nxc d31 3),((nxc k10 6)++[T.c (tv (nxT ts29 0)),T.c (tv (nxT ts29 1)),T.c (tv (nxT ts29 2)),T.c (tv (nxT ts29 3)),T.c (tv (nxT ts29 4))]),((nxc k10 7)++[T.c (nx v30 0),T.c (nx v30 1),T.l 1 (nxc d31 4)])])))) (
 j8 [(nx x9 2),(nx x9 3),(nx x9 4),(nx x9 5)] [(nxc k10 2),(nxc k10 3),(nxc k10 4),(nxc k10 5),(nxc k10 6),(nxc k10 7)])) [(iv (cnt 5 (nxc d2 0))),(.int .i64 0),(.int .i64 0),(.int .i64 0),(nx v1 0),(.int .i64 0)] [(nxc d2 1),(nxc d2 0),(nxc d4 0),(nxc d4 1),(nxc d4 2),(nxc d4 3),[],[]]
theorem IW.cl2 {w0:World} {a0:Value} {K:J2} (h:IW.txt ⟨Tryz.prog,w0⟩ a0 K):Eng.cl2 ⟨Tryz.prog,w0⟩ 15 IW.sg [a0] [] K:=
 AB (C:=⟨Tryz.prog,w0⟩) (f:=15) (fn:=Tryz.f15) [(14,IM.sg),(43,HQ.sg),(44,J4.sg),(45,EN.sg)] [(7,[0,0,0,6,14,31,63])] [(122,⟨[.p (.j 0) 0, .t (.j 1) 3, .p (.j 2) 0, .t (.j 3) 5, .v, .v],[],[.bx [.v, .v, .z, .z, .z, .z, .z, .z], .ls, .bx [.v, .v, .t (.j 4) 8, .t (.j 5) 2, .t (.j 6) 1, .t (.j 7) 1, .t (.j 8) 5, .t (.j 9) 3], .ls, .ls, .ls, .ls, .ls, .ls, .ls]⟩),(15,⟨[.p (.j 0) 0, .p (.j 1) 0],[],[.bx [.v, .v, .z, .z, .z, .z, .z, .z], .bx [.v, .v, .t (.j 2) 8, .t (.j 3) 2, .t (.j 4) 1, .t (.j 5) 1, .t (.j 6) 5, .t (.j 7) 3], .ls, .ls, .ls, .ls, .ls, .ls]⟩)] Tryz.func15 (by kernel_rfl) (by kernel_rfl) (by kernel_rfl) h
def H0.sg:Sg:=⟨[(1,[.v, .v, .t 8 0, .t 2 0, .t 1 0, .t 1 0, .t 5 0, .t 3 0]),(1,[.v, .v, .t 8 0, .t 2 0, .t 1 0, .t 1 0, .t 5 0, .t 3 0])],[(0,[.v])],[]⟩
def H0.txt (C:Ctx) (a0 a1 a2 a3:Value) (c0 c1 c2 c3 c4 c5 c6 c7 c8 c9 c10 c11:List T) (K:J2):Prop:=
 prP (bnI .neq a0 a2) fun t9_1=>
 AG t9_1 (
 K [(.bool false)] []) (
 prP (bnI .neq a1 a3) fun t14_2=>
 AG t14_2 (
 K [(.bool false)] []) (
 cl2 C 61 I2.sg [] [c0,c1,c2,c3,c6,c7,c8,c9] fun v3 d4=>
 prP (un .not (nx v3 0)) fun t20_6=>
 AG t20_6 (
 K [(.bool false)] []) (
 cl2 C 25 JY.sg [] [c4,c10] fun v7 d8=>
 prP (un .not (nx v7 0)) fun t26_10=>
 AG t26_10 (
 K [(.bool false)] []) (
 cl2 C 62 FF.sg [] [c5,c11] fun v11 d12=>
 prP (un .not (nx v11 0)) fun t32_14=>
 AG t32_14 (
 K [(.bool false)] []) (
 K [(.bool true)] [])))))
theorem H0.cl2 {w0:World} {a0 a1 a2 a3:Value} {c0 c1 c2 c3 c4 c5 c6 c7 c8 c9 c10 c11:List T} {K:J2} (h:H0.txt ⟨Tryz.prog,w0⟩ a0 a1 a2 a3 c0 c1 c2 c3 c4 c5 c6 c7 c8 c9 c10 c11 K):Eng.cl2 ⟨Tryz.prog,w0⟩ 29 H0.sg [a0,a1,a2,a3] [c0,c1,c2,c3,c4,c5,c6,c7,c8,c9,c10,c11] K:=
 AB (C:=⟨Tryz.prog,w0⟩) (f:=29) (fn:=Tryz.f29) [(61,I2.sg),(25,JY.sg),(62,FF.sg)] [] [] Tryz.func29 (by kernel_rfl) (by kernel_rfl) (by kernel_rfl) h
def H2.sg:Sg:=⟨[(1,[.v, .v, .t 8 1, .t 2 1, .t 1 1, .t 1 1, .t 5 1, .t 3 1]),(0,[.v])],[(0,[.v])],[]⟩
def H2.txt (C:Ctx) (a0 a1 a2:Value) (c0 c1 c2 c3 c4 c5:List T) (K:J2):Prop:=
 cl2 C 65 GU.sg [a2] [c0,c1,c2,c3] fun v1 d2=>
 cl2 C 26 HT.sg [(nx v1 0)] [c4] fun v3 d4=>
 cl2 C 66 DX.sg [(nx v3 0)] [c5] fun v5 d6=>
 K [(nx v5 0)] [(nxc d2 0),(nxc d2 1),(nxc d2 2),(nxc d2 3),(nxc d4 0),(nxc d6 0)]
theorem H2.cl2 {w0:World} {a0 a1 a2:Value} {c0 c1 c2 c3 c4 c5:List T} {K:J2} (h:H2.txt ⟨Tryz.prog,w0⟩ a0 a1 a2 c0 c1 c2 c3 c4 c5 K):Eng.cl2 ⟨Tryz.prog,w0⟩ 30 H2.sg [a0,a1,a2] [c0,c1,c2,c3,c4,c5] K:=
 AB (C:=⟨Tryz.prog,w0⟩) (f:=30) (fn:=Tryz.f30) [(65,GU.sg),(26,HT.sg),(66,DX.sg)] [] [] Tryz.func30 (by kernel_rfl) (by kernel_rfl) (by kernel_rfl) h
end Go.Proofs.YtnhicpkhkaihoaaGreat.P
