/- A part of the proof. -/
import Derived.Test.YthapfcoajahegaaDoorChecked
import Derived.Test.YthapfcoajahegaaDoorRePZ0
import Derived.KernelRfl
namespace Go.Proofs.YthapfcoajahegaaDoor.P
open Go Go.Proofs.YthapfcoajahegaaDoor Go.Proofs.YthapfcoajahegaaDoor.Eng
set_option linter.unusedVariables false
set_option maxRecDepth 100000
def bytealg_Cutover.sg:Sg:=⟨[(0,[.v])],[(0,[.v])],[]⟩
def bytealg_Cutover.txt (C:Ctx) (a0:Value) (K:J2):Prop:=
 prP (bnI .add a0 (.int .i64 16)) fun t4_1=>
 prP (bnI .quo t4_1 (.int .i64 8)) fun t5_2=>
 K [t5_2] []
theorem bytealg_Cutover.cl2 {w0:World} {a0:Value} {K:J2} (h:bytealg_Cutover.txt ⟨Tryd.prog,w0⟩ a0 K):Eng.cl2 ⟨Tryd.prog,w0⟩ 53 bytealg_Cutover.sg [a0] [] K:=
 AX (C:=⟨Tryd.prog,w0⟩) (f:=53) (fn:=Tryd.f53) [] [] [] Tryd.func53 (by kernel_rfl) (by kernel_rfl) (by kernel_rfl) h
def DJ.sg:Sg:=⟨[(0,[.v])],[(0,[.v]),(0,[.v])],[]⟩
def DJ.txt (C:Ctx) (a0:Value) (K:J2):Prop:=
 A6 (fun r3 x1 k2=>
 prP (lnS (nx x1 0)) fun t11_5=>
 prP (bnI .lss (nx x1 2) t11_5) fun t12_6=>
 AY t12_6 (
 prP (bnI .mul (nx x1 1) (.int .u32 16777619)) fun t16_7=>
 prP (ix (nx x1 0) (nx x1 2)) fun t19_8=>
 prP (cvI .u32 t19_8) fun t20_9=>
 prP (bnI .add t16_7 t20_9) fun t21_10=>
 prP (bnI .add (nx x1 2) (.int .i64 1)) fun t14_11=>
 r3 [(nx x1 0),t21_10,t14_11] []) (
 prP (lnS (nx x1 0)) fun t23_12=>
 A6 (fun r15 x13 k14=>
 prP (bnI .gtr (nx x13 3) (.int .i64 0)) fun t25_17=>
 AY t25_17 (
 BL (fun x19 k20=>
 prP (bnI .mul (nx x19 2) (nx x19 2)) fun t36_25=>
 prP (bnI .shr (nx x19 3) (.int .u64 1)) fun t27_26=>
 r15 [(nx x19 0),(nx x19 1),t36_25,t27_26] []) fun j21=>
 prP (bnI .and (nx x13 3) (.int .i64 1)) fun t29_22=>
 prP (bnI .neq t29_22 (.int .i64 0)) fun t30_23=>
 AY t30_23 (
 prP (bnI .mul (nx x13 1) (nx x13 2)) fun t33_24=>
 j21 [(nx x13 0),t33_24,(nx x13 2),(nx x13 3)] []) (
 j21 [(nx x13 0),(nx x13 1),(nx x13 2),(nx x13 3)] [])) (
 K [(nx x13 0),(nx x13 1)] [])) [(nx x1 1),(.int .u32 1),(.int .u32 16777619),t23_12] [])) [a0,(.int .u32 0),(.int .i64 0)] []
theorem DJ.cl2 {w0:World} {a0:Value} {K:J2} (h:DJ.txt ⟨Tryd.prog,w0⟩ a0 K):Eng.cl2 ⟨Tryd.prog,w0⟩ 56 DJ.sg [a0] [] K:=
 AX (C:=⟨Tryd.prog,w0⟩) (f:=56) (fn:=Tryd.f56) [] [] [(4004,⟨[.v, .v, .v, .v],[],[]⟩),(250,⟨[.v, .v, .v, .v],[],[]⟩),(58,⟨[.v, .v, .v],[],[]⟩)] Tryd.func56 (by kernel_rfl) (by kernel_rfl) (by kernel_rfl) h
def D6.sg:Sg:=⟨[(0,[.v]),(0,[.v])],[(0,[.v])],[]⟩
def D6.txt (C:Ctx) (a0 a1:Value) (K:J2):Prop:=
 cl2 C 56 DJ.sg [a1] [] fun v1 d2=>
 prP (lnS a1) fun t17_3=>
 A6 (fun r6 x4 k5=>
 prP (bnI .lss (nx x4 6) (nx x4 4)) fun t20_8=>
 AY t20_8 (
 prP (bnI .mul (nx x4 5) (.int .u32 16777619)) fun t24_9=>
 prP (ix (nx x4 0) (nx x4 6)) fun t27_10=>
 prP (cvI .u32 t27_10) fun t28_11=>
 prP (bnI .add t24_9 t28_11) fun t29_12=>
 prP (bnI .add (nx x4 6) (.int .i64 1)) fun t22_13=>
 r6 [(nx x4 0),(nx x4 1),(nx x4 2),(nx x4 3),(nx x4 4),t29_12,t22_13] []) (
 prP (bnI .eql (nx x4 5) (nx x4 2)) fun t32_14=>
 gE t32_14 (
 gE t32_14 (
 gP t32_14 true (prP (scS (nx x4 0) none (some (nx x4 4)))) fun t36_15=>
 gE t32_14 (
 gP t32_14 true (prP (bnS .eql t36_15 (nx x4 1))) fun t38_16=>
 prP (pk t32_14 t38_16 (.bool false)) fun t39_17=>
 AY t39_17 (
 K [(.int .i64 0)] []) (
 A6 (fun r20 x18 k19=>
 prP (lnS (nx x18 0)) fun t43_22=>
 prP (bnI .lss (nx x18 6) t43_22) fun t44_23=>
 AY t44_23 (
 prP (bnI .mul (nx x18 5) (.int .u32 16777619)) fun t46_24=>
 prP (ix (nx x18 0) (nx x18 6)) fun t50_25=>
 prP (cvI .u32 t50_25) fun t51_26=>
 prP (bnI .add t46_24 t51_26) fun t52_27=>
 prP (bnI .sub (nx x18 6) (nx x18 4)) fun t58_28=>
 prP (ix (nx x18 0) t58_28) fun t59_29=>
 prP (cvI .u32 t59_29) fun t60_30=>
 prP (bnI .mul (nx x18 3) t60_30) fun t61_31=>
 prP (bnI .sub t52_27 t61_31) fun t62_32=>
 prP (bnI .add (nx x18 6) (.int .i64 1)) fun t64_33=>
 prP (bnI .eql t62_32 (nx x18 2)) fun t67_34=>
 gE t67_34 (
 gE t67_34 (
 gE t67_34 (
 gP t67_34 true (prP (bnI .sub t64_33 (nx x18 4))) fun t72_35=>
 gE t67_34 (
 gP t67_34 true (prP (scS (nx x18 0) (some t72_35) (some t64_33))) fun t74_36=>
 gE t67_34 (
 gP t67_34 true (prP (bnS .eql t74_36 (nx x18 1))) fun t76_37=>
 prP (pk t67_34 t76_37 (.bool false)) fun t77_38=>
 AY t77_38 (
 prP (bnI .sub t64_33 (nx x18 4)) fun t80_39=>
 K [t80_39] []) (
 r20 [(nx x18 0),(nx x18 1),(nx x18 2),(nx x18 3),(nx x18 4),t62_32,t64_33] []))))))) (
 K [(.int .i64 (-1))] [])) [(nx x4 0),(nx x4 1),(nx x4 2),(nx x4 3),(nx x4 4),(nx x4 5),(nx x4 4)] [])))))) [a0,a1,(nx v1 0),(nx v1 1),t17_3,(.int .u32 0),(.int .i64 0)] []
theorem D6.cl2 {w0:World} {a0 a1:Value} {K:J2} (h:D6.txt ⟨Tryd.prog,w0⟩ a0 a1 K):Eng.cl2 ⟨Tryd.prog,w0⟩ 54 D6.sg [a0,a1] [] K:=
 AX (C:=⟨Tryd.prog,w0⟩) (f:=54) (fn:=Tryd.f54) [(56,DJ.sg)] [] [(1018,⟨[.v, .v, .v, .v, .v, .v, .v],[],[]⟩),(250,⟨[.v, .v, .v, .v, .v, .v, .v],[],[]⟩)] Tryd.func54 (by kernel_rfl) (by kernel_rfl) (by kernel_rfl) h
def K8.sg:Sg:=⟨[(0,[.v])],[(0,[.v])],[]⟩
def GH.sg:Sg:=⟨[(0,[.t 1 0])],[(0,[.v])],[]⟩
def GH.txt (C:Ctx) (c0:List T) (K:J2):Prop:=
 cl2 C 4 KD.sg [] [c0] fun v1 d2=>
 AY (nx v1 0) (
 K [(.bool true)] []) (
 A6 (fun r6 x4 k5=>
 prP (bnI .lss (nx x4 0) (.int .i64 20)) fun t16_8=>
 AY t16_8 (
 apW [T.c (.int .i64 5),T.c (.int .i64 8),T.c (.int .i64 0),T.c (.int .i64 0),T.c (.string {data:= #[]})] true (cnt 5 (nxc k5 0)) (cnt 5 [T.c (.int .i64 5),T.c (.int .i64 8),T.c (.int .i64 0),T.c (.int .i64 0),T.c (.string {data:= #[]})]) 48 (
 prP (bnI .add (nx x4 0) (.int .i64 1)) fun t18_9=>
 r6 [t18_9] [((nxc k5 0)++[T.c (.int .i64 5),T.c (.int .i64 8),T.c (.int .i64 0),T.c (.int .i64 0),T.c (.string {data:= #[]})])])) (
 cl2 C 5 JR.sg [(.int .i64 0)] [c0] fun v10 d11=>
 prP (bnI .rem (nx v10 0) (.int .i64 3)) fun t30_13=>
 cl2 C 5 JR.sg [(.int .i64 1)] [c0] fun v14 d15=>
 prP (bnI .add (.int .i64 9) (nx v14 0)) fun t33_17=>
 cl2 C 5 JR.sg [(.int .i64 2)] [c0] fun v18 d19=>
 prP (bnI .rem (nx v18 0) (.int .i64 8)) fun t39_21=>
 cl2 C 5 JR.sg [(.int .i64 3)] [c0] fun v22 d23=>
 prP (bnI .add (.int .i64 11) (nx v22 0)) fun t43_25=>
 apW [T.c (.int .i64 5),T.c (.int .i64 8),T.c (.int .i64 0),T.c (.int .i64 0),T.c (.string {data:= #[]}),T.c (.int .i64 4),T.c (.int .i64 8),T.c (.int .i64 3),T.c (.int .i64 (-1)),T.c (.string {data:= #[]}),T.c (.int .i64 4),T.c (.int .i64 8),T.c t30_13,T.c t33_17,T.c (.string {data:= #[]}),T.c (.int .i64 3),T.c (.int .i64 8),T.c (.int .i64 0),T.c (.int .i64 0),T.c (.string {data:= #[]}),T.c (.int .i64 3),T.c (.int .i64 8),T.c (.int .i64 0),T.c (.int .i64 0),T.c (.string {data:= #[]}),T.c (.int .i64 8),T.c t39_21,T.c (.int .i64 0),T.c (.int .i64 0),T.c (.string {data:= #[]}),T.c t43_25,T.c (.int .i64 0),T.c (.int .i64 0),T.c (.int .i64 0),T.c (.string {data:= #[]}),T.c (.int .i64 1),T.c (.int .i64 0),T.c (.int .i64 0),T.c (.int .i64 0),T.c (.string {data:= #[]})] true (cnt 5 (nxc k5 0)) (cnt 5 [T.c (.int .i64 5),T.c (.int .i64 8),T.c (.int .i64 0),T.c (.int .i64 0),T.c (.string {data:= #[]}),T.c (.int .i64 4),T.c (.int .i64 8),T.c (.int .i64 3),T.c (.int .i64 (-1)),T.c (.string {data:= #[]}),T.c (.int .i64 4),T.c (.int .i64 8),T.c t30_13,T.c t33_17,T.c (.string {data:= #[]}),T.c (.int .i64 3),T.c (.int .i64 8),T.c (.int .i64 0),T.c (.int .i64 0),T.c (.string {data:= #[]}),T.c (.int .i64 3),T.c (.int .i64 8),T.c (.int .i64 0),T.c (.int .i64 0),T.c (.string {data:= #[]}),T.c (.int .i64 8),T.c t39_21,T.c (.int .i64 0),T.c (.int .i64 0),T.c (.string {data:= #[]}),T.c t43_25,T.c (.int .i64 0),T.c (.int .i64 0),T.c (.int .i64 0),T.c (.string {data:= #[]}),T.c (.int .i64 1),T.c (.int .i64 0),T.c (.int .i64 0),T.c (.int .i64 0),T.c (.string {data:= #[]})]) 48 (
 A6 (fun r28 x26 k27=>
 prP (bnI .lss (nx x26 1) (.int .i64 8)) fun t50_30=>
 AY t50_30 (
 apW [T.c (.int .i64 1),T.c (.int .i64 0),T.c (.int .i64 0),T.c (.int .i64 0),T.c (.string {data:= #[98]})] true (cnt 5 (nxc k27 0)) (cnt 5 [T.c (.int .i64 1),T.c (.int .i64 0),T.c (.int .i64 0),T.c (.int .i64 0),T.c (.string {data:= #[98]})]) 48 (
 apW [T.c (.int .i64 0)] true (cnt 1 (nxc k27 1)) (cnt 1 [T.c (.int .i64 0)]) 8 (
 prP (bnI .add (nx x26 1) (.int .i64 1)) fun t52_31=>
 r28 [(nx x26 0),t52_31] [((nxc k27 0)++[T.c (.int .i64 1),T.c (.int .i64 0),T.c (.int .i64 0),T.c (.int .i64 0),T.c (.string {data:= #[98]})]),((nxc k27 1)++[T.c (.int .i64 0)])]))) (
 apW [T.c (.int .i64 1),T.c (.int .i64 0),T.c (.int .i64 0),T.c (.int .i64 0),T.c (.string {data:= #[98]})] true (cnt 5 (nxc k27 0)) (cnt 5 [T.c (.int .i64 1),T.c (.int .i64 0),T.c (.int .i64 0),T.c (.int .i64 0),T.c (.string {data:= #[98]})]) 48 (
 apW [T.c (.int .i64 3)] true (cnt 1 (nxc k27 1)) (cnt 1 [T.c (.int .i64 3)]) 8 (
 cl2 C 6 JB.sg [] [((nxc k27 0)++[T.c (.int .i64 1),T.c (.int .i64 0),T.c (.int .i64 0),T.c (.int .i64 0),T.c (.string {data:= #[98]})])] fun v32 d33=>
 prP (bnI .add (nx x26 0) (iv (cnt 1 ((nxc k27 1)++[T.c (.int .i64 3)])))) fun t77_34=>
 prP (bnI .neq (iv (cnt 3 (nxc d33 4))) t77_34) fun t78_35=>
 AY t78_35 (
 K [(.bool false)] []) (
 A6 (fun r38 x36 k37=>
 prP (bnI .lss (nx x36 1) (iv (cnt 1 (nxc k37 0)))) fun t82_40=>
 AY t82_40 (
 prP (bnI .add (nx x36 0) (nx x36 1)) fun t88_41=>
 ixW (cnt 3 (nxc k37 1)) t88_41 fun t89_42=>
 ldc (nxc k37 1) [] ((AB t89_42)*3) fun t91_43=>
 ixW (cnt 1 (nxc k37 0)) (nx x36 1) fun t94_44=>
 ldc (nxc k37 0) [] ((AB t94_44)*1) fun t95_45=>
 prP (bnI .neq t91_43 t95_45) fun t96_46=>
 gE t96_46 (
 gE t96_46 (
 gP t96_46 false (ixW (cnt 1 (nxc k37 0)) (nx x36 1)) fun t100_47=>
 gP t96_46 false (ldc (nxc k37 0) [] ((AB t100_47)*1)) fun t101_48=>
 gP t96_46 false ((fun K=>cl2 C 7 K8.sg [t101_48] [] fun v49 d50=>K (nx v49 0))) fun t102_51=>
 gP t96_46 false (prP (bnS .eql t102_51 (.string {data:= #[]}))) fun t103_52=>
 prP (pk t96_46 (.bool true) t103_52) fun t104_53=>
 AY t104_53 (
 K [(.bool false)] []) (
 prP (bnI .add (nx x36 1) (.int .i64 1)) fun t84_54=>
 r38 [(nx x36 0),t84_54] [(nxc k37 0),(nxc k37 1)])))) (
 K [(.bool true)] [])) [(nx x26 0),(.int .i64 0)] [((nxc k27 1)++[T.c (.int .i64 3)]),(nxc d33 4)]))))) [(iv (cnt 5 (nxc k5 0))),(.int .i64 1)] [((nxc k5 0)++[T.c (.int .i64 5),T.c (.int .i64 8),T.c (.int .i64 0),T.c (.int .i64 0),T.c (.string {data:= #[]}),T.c (.int .i64 4),T.c (.int .i64 8),T.c (.int .i64 3),T.c (.int .i64 (-1)),T.c (.string {data:= #[]}),T.c (.int .i64 4),T.c (.int .i64 8),T.c t30_13,T.c t33_17,T.c (.string {data:= #[]}),T.c (.int .i64 3),T.c (.int .i64 8),T.c (.int .i64 0),T.c (.int .i64 0),T.c (.string {data:= #[]}),T.c (.int .i64 3),T.c (.int .i64 8),T.c (.int .i64 0),T.c (.int .i64 0),T.c (.string {data:= #[]}),T.c (.int .i64 8),T.c t39_21,T.c (.int .i64 0),T.c (.int .i64 0),T.c (.string {data:= #[]}),T.c t43_25,T.c (.int .i64 0),T.c (.int .i64 0),T.c (.int .i64 0),T.c (.string {data:= #[]}),T.c (.int .i64 1),T.c (.int .i64 0),T.c (.int .i64 0),T.c (.int .i64 0),T.c (.string {data:= #[]})]),[T.c (.int .i64 4),T.c (.int .i64 2),T.c (.int .i64 1),T.c (.int .i64 0),T.c (.int .i64 5),T.c (.int .i64 2),T.c (.int .i64 2),T.c (.int .i64 2)]]))) [(.int .i64 0)] [[T.c (.int .i64 1),T.c (.int .i64 0),T.c (.int .i64 0),T.c (.int .i64 0),T.c (.string {data:= #[97]})]])
theorem GH.cl2 {w0:World} {c0:List T} {K:J2} (h:GH.txt ⟨Tryd.prog,w0⟩ c0 K):Eng.cl2 ⟨Tryd.prog,w0⟩ 3 GH.sg [] [c0] K:=
 AX (C:=⟨Tryd.prog,w0⟩) (f:=3) (fn:=Tryd.f3) [(4,KD.sg),(5,JR.sg),(6,JB.sg),(7,K8.sg)] [(24,[0,0,0,6,15,31,63,0,0,384,896,2047,4095,8191,8191,32767,65535,131071,262143,524287])] [(65530,⟨[.v, .t (.j 0) 1, .t (.j 1) 3, .v],[],[.ls, .ls]⟩),(2042,⟨[.t (.j 0) 5, .v, .t (.j 1) 1, .v],[],[.ls, .ls]⟩),(122,⟨[.t (.f 0) 1, .t (.j 0) 5, .v],[],[.ls]⟩)] Tryd.func3 (by kernel_rfl) (by kernel_rfl) (by kernel_rfl) h
end Go.Proofs.YthapfcoajahegaaDoor.P
