/- A part of the proof. -/
import Derived.Test.YtklmcfpgdfibnaaChecked
import Derived.Test.YtklmcfpgdfibnaaLePZ5
import Derived.KernelRfl
namespace Go.Proofs.Ytklmcfpgdfibnaa.P
open Go Go.Proofs.Ytklmcfpgdfibnaa Go.Proofs.Ytklmcfpgdfibnaa.Eng
set_option linter.unusedVariables false
set_option maxRecDepth 100000
def CE.sg:Sg:=⟨[(2,[.t 7 0, .t 2 0]),(0,[.v])],[(0,[.r 0])],[[.a 0, .a 1]]⟩
def CE.txt (C:Ctx) (a0:Value) (c0 c1:List T) (K:J2):Prop:=
 A6 (fun r3 x1 k2=>
 prP (bnI .lss (nx x1 2) (nx x1 1)) fun t12_5=>
 AJ t12_5 (
 ixW (cnt 7 c0) (nx x1 2) fun t19_6=>
 ldc c0 [] ((AB t19_6)*7) fun t21_7=>
 prP (bnS .eql t21_7 (nx x1 0)) fun t23_8=>
 AJ t23_8 (
 ixW (cnt 7 c0) (nx x1 2) fun t29_9=>
 K [(iv ((AB t29_9)*7))] []) (
 prP (bnI .add (nx x1 2) (.int .i64 1)) fun t30_10=>
 r3 [(nx x1 0),(nx x1 1),t30_10] [])) (
 K [(.int .i64 (-1))] [])) [a0,(iv (cnt 7 c0)),(.int .i64 0)] []
theorem CE.cl2 {w0:World} {a0:Value} {c0 c1:List T} {K:J2} (h:CE.txt ⟨Try.prog,w0⟩ a0 c0 c1 K):Eng.cl2 ⟨Try.prog,w0⟩ 166 CE.sg [a0] [c0,c1] K:=
 AZ (C:=⟨Try.prog,w0⟩) (f:=166) (fn:=Try.f166) [] [] [(26,⟨[.p (.j 0) 0, .v, .v, .v],[.p (.j 0) 0, .t (.f 0) 7, .t (.f 1) 2],[.bx [.t (.f 0) 7, .t (.f 1) 2]]⟩)] Try.func166 (by kernel_rfl) (by kernel_rfl) (by kernel_rfl) h
def C3.sg:Sg:=⟨[(2,[.t 7 0, .t 2 0]),(0,[.v])],[(0,[.r 0])],[[.a 0, .a 1]]⟩
def C3.txt (C:Ctx) (a0:Value) (c0 c1:List T) (K:J2):Prop:=
 prP (bnI .sub (iv (cnt 2 c1)) (.int .i64 1)) fun t11_1=>
 A6 (fun r4 x2 k3=>
 prP (bnI .geq (nx x2 1) (.int .i64 0)) fun t13_6=>
 AJ t13_6 (
 ixW (cnt 2 c1) (nx x2 1) fun t21_7=>
 ldc c1 [] ((AB t21_7)*2) fun t23_8=>
 prP (bnI .eql t23_8 (nx x2 0)) fun t25_9=>
 AJ t25_9 (
 ixW (cnt 2 c1) (nx x2 1) fun t32_10=>
 ldc c1 [] (((AB t32_10)*2)+1) fun t34_11=>
 cl2 C 166 CE.sg [t34_11] [c0,c1] fun v12 d13=>
 K [(nx v12 0)] []) (
 prP (bnI .sub (nx x2 1) (.int .i64 1)) fun t15_14=>
 r4 [(nx x2 0),t15_14] [])) (
 K [(.int .i64 (-1))] [])) [a0,t11_1] []
theorem C3.cl2 {w0:World} {a0:Value} {c0 c1:List T} {K:J2} (h:C3.txt ⟨Try.prog,w0⟩ a0 c0 c1 K):Eng.cl2 ⟨Try.prog,w0⟩ 149 C3.sg [a0] [c0,c1] K:=
 AZ (C:=⟨Try.prog,w0⟩) (f:=149) (fn:=Try.f149) [(166,CE.sg)] [] [(26,⟨[.p (.j 0) 0, .v, .v],[.p (.j 0) 0, .t (.f 0) 7, .t (.f 1) 2],[.bx [.t (.f 0) 7, .t (.f 1) 2]]⟩)] Try.func149 (by kernel_rfl) (by kernel_rfl) (by kernel_rfl) h
def C5.sg:Sg:=⟨[(2,[.t 7 2, .t 2 2]),(0,[.v]),(0,[.v])],[],[[.t 7, .t 2]]⟩
def C5.txt (C:Ctx) (a0 a1:Value) (c0 c1:List T) (K:J2):Prop:=
 apW [T.c a1,T.c a0] true (cnt 2 c1) (cnt 2 [T.c a1,T.c a0]) 24 (
 BF (fun x2 k3=>
 cl2 C 166 CE.sg [(nx x2 0)] [(nxc k3 0),(nxc k3 1)] fun v8 d9=>
 ofW (nx v8 0) fun t36_10=>
 ldc (nxc k3 0) [] ((AB t36_10)+1) fun t38_11=>
 prP (bnI .add t38_11 (.int .i64 1)) fun t39_12=>
 ofW (nx v8 0) fun t40_13=>
 stc (nxc k3 0) [] ((AB t40_13)+1) t39_12 fun k14=>
 K [] [k14,(nxc k3 1)]) fun j4=>
 cl2 C 166 CE.sg [a0] [c0,(c1++[T.c a1,T.c a0])] fun v5 d6=>
 prP (bnM .eql (nx v5 0)) fun t21_7=>
 AJ t21_7 (
 apW [T.c a0,T.c (.int .i64 0),T.c (.int .i64 0),T.c (.int .i64 0),T.c (.int .i64 0),T.c (.int .i64 0),T.c (.int .i64 0)] true (cnt 7 c0) (cnt 7 [T.c a0,T.c (.int .i64 0),T.c (.int .i64 0),T.c (.int .i64 0),T.c (.int .i64 0),T.c (.int .i64 0),T.c (.int .i64 0)]) 64 (
 j4 [a0] [(c0++[T.c a0,T.c (.int .i64 0),T.c (.int .i64 0),T.c (.int .i64 0),T.c (.int .i64 0),T.c (.int .i64 0),T.c (.int .i64 0)]),(c1++[T.c a1,T.c a0])])) (
 j4 [a0] [c0,(c1++[T.c a1,T.c a0])]))
theorem C5.cl2 {w0:World} {a0 a1:Value} {c0 c1:List T} {K:J2} (h:C5.txt ⟨Try.prog,w0⟩ a0 a1 c0 c1 K):Eng.cl2 ⟨Try.prog,w0⟩ 150 C5.sg [a0,a1] [c0,c1] K:=
 AZ (C:=⟨Try.prog,w0⟩) (f:=150) (fn:=Try.f150) [(166,CE.sg)] [] [(3,⟨[.p (.j 0) 0, .v],[.p (.j 0) 0],[.bx [.t (.j 1) 7, .t (.j 2) 2], .ls, .ls]⟩)] Try.func150 (by kernel_rfl) (by kernel_rfl) (by kernel_rfl) h
def C6.sg:Sg:=⟨[(2,[.t 7 2, .t 2 2]),(1,[.v, .v, .v, .v, .v]),(1,[.v, .v, .t 1 0])],[],[[.t 7, .t 2]]⟩
def C6.txt (C:Ctx) (a0 a1 a2 a3 a4 a5 a6:Value) (c0 c1 c2:List T) (K:J2):Prop:=
 BF (fun x2 k3=>
 A6 (fun r34 x32 k33=>
 prP (bnI .lss (nx x32 1) (nx x32 0)) fun t58_36=>
 AJ t58_36 (
 BF (fun x38 k39=>
 prP (bnI .add (nx x38 1) (.int .i64 1)) fun t73_51=>
 r34 [(nx x38 0),t73_51,(nx x38 2),(nx x38 3),(nx x38 4),(nx x38 5),(nx x38 6),(nx x38 7),(nx x38 8)] [(nxc k39 0),(nxc k39 1)]) fun j40=>
 ixW (cnt 1 c2) (nx x32 1) fun t59_41=>
 ldc c2 [] ((AB t59_41)*1) fun t60_42=>
 cl2 C 149 C3.sg [t60_42] [(nxc k33 0),(nxc k33 1)] fun v43 d44=>
 prP (bnM .neq (nx v43 0)) fun t65_45=>
 AJ t65_45 (
 ofW (nx v43 0) fun t67_46=>
 ldc (nxc k33 0) [] ((AB t67_46)+6) fun t69_47=>
 prP (bnI .add t69_47 (.int .i64 1)) fun t70_48=>
 ofW (nx v43 0) fun t71_49=>
 stc (nxc k33 0) [] ((AB t71_49)+6) t70_48 fun k50=>
 j40 [(nx x32 0),(nx x32 1),(nx x32 2),(nx x32 3),(nx x32 4),(nx x32 5),(nx x32 6),(nx x32 7),(nx x32 8)] [k50,(nxc k33 1)]) (
 j40 [(nx x32 0),(nx x32 1),(nx x32 2),(nx x32 3),(nx x32 4),(nx x32 5),(nx x32 6),(nx x32 7),(nx x32 8)] [(nxc k33 0),(nxc k33 1)])) (
 prP (bnI .eql (nx x32 2) (.int .i64 1)) fun t76_52=>
 AJ t76_52 (
 cl2 C 150 C5.sg [(nx x32 6),(nx x32 8)] [(nxc k33 0),(nxc k33 1)] fun v53 d54=>
 K [] [(nxc d54 0),(nxc d54 1)]) (
 K [] [(nxc k33 0),(nxc k33 1)]))) [(iv (cnt 1 c2)),(.int .i64 0),(nx x2 0),(nx x2 1),(nx x2 2),(nx x2 3),(nx x2 4),(nx x2 5),(nx x2 6)] [(nxc k3 0),(nxc k3 1)]) fun j4=>
 cl2 C 149 C3.sg [a1] [c0,c1] fun v5 d6=>
 prP (bnM .neq (nx v5 0)) fun t15_7=>
 AJ t15_7 (
 prP (bnI .eql a0 (.int .i64 2)) fun t19_8=>
 AJ t19_8 (
 ofW (nx v5 0) fun t21_9=>
 ldc c0 [] ((AB t21_9)+2) fun t23_10=>
 prP (bnI .add t23_10 (.int .i64 1)) fun t24_11=>
 ofW (nx v5 0) fun t25_12=>
 stc c0 [] ((AB t25_12)+2) t24_11 fun k13=>
 j4 [a0,a1,a2,a3,a4,a5,a6] [k13,c1]) (
 prP (bnI .eql a0 (.int .i64 3)) fun t28_14=>
 AJ t28_14 (
 ofW (nx v5 0) fun t30_15=>
 ldc c0 [] ((AB t30_15)+3) fun t32_16=>
 prP (bnI .add t32_16 (.int .i64 1)) fun t33_17=>
 ofW (nx v5 0) fun t34_18=>
 stc c0 [] ((AB t34_18)+3) t33_17 fun k19=>
 j4 [a0,a1,a2,a3,a4,a5,a6] [k19,c1]) (
 prP (bnI .eql a0 (.int .i64 5)) fun t37_20=>
 AJ t37_20 (
 ofW (nx v5 0) fun t39_21=>
 ldc c0 [] ((AB t39_21)+4) fun t41_22=>
 prP (bnI .add t41_22 (.int .i64 1)) fun t42_23=>
 ofW (nx v5 0) fun t43_24=>
 stc c0 [] ((AB t43_24)+4) t42_23 fun k25=>
 j4 [a0,a1,a2,a3,a4,a5,a6] [k25,c1]) (
 prP (bnI .eql a0 (.int .i64 6)) fun t46_26=>
 AJ t46_26 (
 ofW (nx v5 0) fun t48_27=>
 ldc c0 [] ((AB t48_27)+5) fun t50_28=>
 prP (bnI .add t50_28 (.int .i64 1)) fun t51_29=>
 ofW (nx v5 0) fun t52_30=>
 stc c0 [] ((AB t52_30)+5) t51_29 fun k31=>
 j4 [a0,a1,a2,a3,a4,a5,a6] [k31,c1]) (
 j4 [a0,a1,a2,a3,a4,a5,a6] [c0,c1]))))) (
 j4 [a0,a1,a2,a3,a4,a5,a6] [c0,c1])
theorem C6.cl2 {w0:World} {a0 a1 a2 a3 a4 a5 a6:Value} {c0 c1 c2:List T} {K:J2} (h:C6.txt ⟨Try.prog,w0⟩ a0 a1 a2 a3 a4 a5 a6 c0 c1 c2 K):Eng.cl2 ⟨Try.prog,w0⟩ 109 C6.sg [a0,a1,a2,a3,a4,a5,a6] [c0,c1,c2] K:=
 AZ (C:=⟨Try.prog,w0⟩) (f:=109) (fn:=Try.f109) [(149,C3.sg),(150,C5.sg)] [] [(3,⟨[.p (.j 0) 0, .p (.j 1) 0, .p (.j 2) 0],[.p (.j 0) 0],[.bx [.t (.j 3) 7, .t (.j 4) 2], .bx [.v, .v, .v, .v, .v], .bx [.v, .v, .t (.f 0) 1], .ls, .ls]⟩),(467,⟨[.p (.j 0) 0, .p (.j 1) 0, .p (.j 2) 0, .t (.f 0) 1, .v, .v],[.p (.j 0) 0],[.bx [.t (.j 3) 7, .t (.j 4) 2], .bx [.v, .v, .v, .v, .v], .bx [.v, .v, .t (.f 0) 1], .ls, .ls]⟩),(58,⟨[.p (.j 0) 0, .p (.j 1) 0, .p (.j 2) 0, .t (.f 0) 1, .v, .v],[.p (.j 0) 0],[.bx [.t (.j 3) 7, .t (.j 4) 2], .bx [.v, .v, .v, .v, .v], .bx [.v, .v, .t (.f 0) 1], .ls, .ls]⟩)] Try.func109 (by kernel_rfl) (by kernel_rfl) (by kernel_rfl) h
def FM.sg:Sg:=⟨[(0,[.t 5 0]),(0,[.t 3 0])],[(0,[.t 7])],[]⟩
def FM.txt (C:Ctx) (c0 c1:List T) (K:J2):Prop:=
 A6 (fun r3 x1 k2=>
 prP (bnI .lss (nx x1 0) (iv (cnt 5 c0))) fun t12_23=>
 gE t12_23 (
 gE t12_23 (
 gE t12_23 (
 gP t12_23 true (prP (bnI .lss (nx x1 0) (iv (cnt 3 c1)))) fun t17_24=>
 prP (pk t12_23 t17_24 (.bool false)) fun t18_25=>
 AJ t18_25 (
 BF (fun x27 k28=>
 prP (bnI .add (nx x27 0) (.int .i64 1)) fun t20_39=>
 r3 [t20_39] [(nxc k28 0),(nxc k28 1)]) fun j29=>
 ixW (cnt 3 c1) (nx x1 0) fun t23_30=>
 ldc c1 [] ((AB t23_30)*3) fun t25_31=>
 prP (bnI .eql t25_31 (.int .i64 0)) fun t26_32=>
 AJ t26_32 (
 ixW (cnt 5 c0) (nx x1 0) fun t30_33=>
 ldg c0 [] ((AB t30_33)*5) [.c, .c, .c, .c, .c] fun ts34=>
 ixW (cnt 3 c1) (nx x1 0) fun t34_35=>
 ldg c1 [] ((AB t34_35)*3) [.c, .c, .l 1] fun ts36=>
 cl2 C 109 C6.sg [(tv (nxT ts34 0)),(tv (nxT ts34 1)),(tv (nxT ts34 2)),(tv (nxT ts34 3)),(tv (nxT ts34 4)),(tv (nxT ts36 0)),(tv (nxT ts36 1))] [(nxc k2 0),(nxc k2 1),(HF c1 [(((AB t34_35)*3)+2)])] fun v37 d38=>
 j29 [(nx x1 0)] [(nxc d38 0),(nxc d38 1)]) (
 j29 [(nx x1 0)] [(nxc k2 0),(nxc k2 1)])) (
 K [] [(nxc k2 0)]))))) [(.int .i64 0)] [[],[]]
theorem FM.cl2 {w0:World} {c0 c1:List T} {K:J2} (h:FM.txt ⟨Try.prog,w0⟩ c0 c1 K):Eng.cl2 ⟨Try.prog,w0⟩ 45 FM.sg [] [c0,c1] K:=
 AZ (C:=⟨Try.prog,w0⟩) (f:=45) (fn:=Try.f45) [(109,C6.sg)] [(6,[0,0,0,6,14,0,0,96,224,511])] [(233,⟨[.t (.f 0) 5, .t (.f 1) 3, .p (.j 0) 0, .v],[],[.bx [.t (.j 1) 7, .t (.j 2) 2], .ls, .ls]⟩),(58,⟨[.t (.f 0) 5, .t (.f 1) 3, .p (.j 0) 0, .v],[],[.bx [.t (.j 1) 7, .t (.j 2) 2], .ls, .ls]⟩)] Try.func45 (by kernel_rfl) (by kernel_rfl) (by kernel_rfl) h
def FP.sg:Sg:=⟨[(1,[.v, .v, .v, .v, .v, .v, .v])],[(0,[.v])],[]⟩
def FP.txt (C:Ctx) (a0 a1 a2 a3 a4 a5 a6:Value) (K:J2):Prop:=
 prP (bnI .add a1 a2) fun t7_1=>
 prP (bnI .sub t7_1 a3) fun t10_2=>
 K [t10_2] []
theorem FP.cl2 {w0:World} {a0 a1 a2 a3 a4 a5 a6:Value} {K:J2} (h:FP.txt ⟨Try.prog,w0⟩ a0 a1 a2 a3 a4 a5 a6 K):Eng.cl2 ⟨Try.prog,w0⟩ 46 FP.sg [a0,a1,a2,a3,a4,a5,a6] [] K:=
 AZ (C:=⟨Try.prog,w0⟩) (f:=46) (fn:=Try.f46) [] [] [] Try.func46 (by kernel_rfl) (by kernel_rfl) (by kernel_rfl) h
end Go.Proofs.Ytklmcfpgdfibnaa.P
