/- A part of the proof. -/
import Derived.Test.YtnhicpkhkaihoaaGreatChecked
import Derived.Test.YtnhicpkhkaihoaaGreatRpPZ4
import Derived.KernelRfl
namespace Go.Proofs.YtnhicpkhkaihoaaGreat.P
open Go Go.Proofs.YtnhicpkhkaihoaaGreat Go.Proofs.YtnhicpkhkaihoaaGreat.Eng
set_option linter.unusedVariables false
set_option maxRecDepth 100000
def HS.sg:Sg:=⟨[(0,[.t 5 0]),(0,[.v])],[(0,[.v])],[]⟩
def HS.txt (C:Ctx) (a0:Value) (c0:List T) (K:J2):Prop:=
 BA (fun r3 x1 k2=>
 prP (bnI .lss (nx x1 1) (iv (cnt 5 c0))) fun t9_5=>
 AG t9_5 (
 ixW (cnt 5 c0) (nx x1 1) fun t14_6=>
 ldc c0 [] ((AA t14_6)*5) fun t16_7=>
 prP (bnI .neq t16_7 (nx x1 0)) fun t18_8=>
 AG t18_8 (
 K [(.int .i64 (-1))] []) (
 prP (bnI .add (nx x1 0) (.int .i64 1)) fun t20_9=>
 ixW (cnt 5 c0) (nx x1 1) fun t23_10=>
 ldc c0 [] (((AA t23_10)*5)+1) fun t25_11=>
 prP (bnI .neq t25_11 t20_9) fun t27_12=>
 AG t27_12 (
 K [(.int .i64 (-1))] []) (
 prP (bnI .add t20_9 (.int .i64 1)) fun t29_13=>
 ixW (cnt 5 c0) (nx x1 1) fun t32_14=>
 ldc c0 [] (((AA t32_14)*5)+2) fun t34_15=>
 prP (bnI .neq t34_15 t29_13) fun t36_16=>
 AG t36_16 (
 K [(.int .i64 (-1))] []) (
 prP (bnI .add t29_13 (.int .i64 1)) fun t38_17=>
 ixW (cnt 5 c0) (nx x1 1) fun t41_18=>
 ldc c0 [] (((AA t41_18)*5)+3) fun t43_19=>
 prP (bnI .neq t43_19 t38_17) fun t45_20=>
 AG t45_20 (
 K [(.int .i64 (-1))] []) (
 prP (bnI .add t38_17 (.int .i64 1)) fun t47_21=>
 ixW (cnt 5 c0) (nx x1 1) fun t50_22=>
 ldc c0 [] (((AA t50_22)*5)+4) fun t52_23=>
 cl2 C 64 CD.sg [t47_21] [] fun v24 d25=>
 prP (bnS .neq t52_23 (nx v24 0)) fun t55_27=>
 AG t55_27 (
 K [(.int .i64 (-1))] []) (
 prP (bnI .add t47_21 (.int .i64 1)) fun t57_28=>
 prP (bnI .add (nx x1 1) (.int .i64 1)) fun t11_29=>
 r3 [t57_28,t11_29] [])))))) (
 K [(nx x1 0)] [])) [a0,(.int .i64 0)] []
theorem HS.cl2 {w0:World} {a0:Value} {c0:List T} {K:J2} (h:HS.txt ⟨Tryz.prog,w0⟩ a0 c0 K):Eng.cl2 ⟨Tryz.prog,w0⟩ 69 HS.sg [a0] [c0] K:=
 AB (C:=⟨Tryz.prog,w0⟩) (f:=69) (fn:=Tryz.f69) [(64,CD.sg)] [(16,[0,0,3,7,15,0,32,127])] [(26,⟨[.t (.f 0) 5, .v, .v],[],[]⟩)] Tryz.func69 (by kernel_rfl) (by kernel_rfl) (by kernel_rfl) h
def GQ.sg:Sg:=⟨[(1,[.v, .v, .t 8 0, .t 2 0, .t 1 0, .t 1 0, .t 5 0, .t 3 0]),(0,[.v])],[(0,[.v])],[]⟩
def GQ.txt (C:Ctx) (a0 a1 a2:Value) (c0 c1 c2 c3 c4 c5:List T) (K:J2):Prop:=
 cl2 C 67 GO.sg [a2] [c0,c1,c2,c3] fun v1 d2=>
 prP (bnI .lss (nx v1 0) (.int .i64 0)) fun t10_4=>
 AG t10_4 (
 K [(.int .i64 (-1))] []) (
 cl2 C 69 HS.sg [(nx v1 0)] [c4] fun v5 d6=>
 prP (bnI .lss (nx v5 0) (.int .i64 0)) fun t16_8=>
 AG t16_8 (
 K [(.int .i64 (-1))] []) (
 cl2 C 68 DW.sg [(nx v5 0)] [c5] fun v9 d10=>
 prP (bnI .lss (nx v9 0) (.int .i64 0)) fun t22_12=>
 AG t22_12 (
 K [(.int .i64 (-1))] []) (
 K [(nx v9 0)] [])))
theorem GQ.cl2 {w0:World} {a0 a1 a2:Value} {c0 c1 c2 c3 c4 c5:List T} {K:J2} (h:GQ.txt ⟨Tryz.prog,w0⟩ a0 a1 a2 c0 c1 c2 c3 c4 c5 K):Eng.cl2 ⟨Tryz.prog,w0⟩ 31 GQ.sg [a0,a1,a2] [c0,c1,c2,c3,c4,c5] K:=
 AB (C:=⟨Tryz.prog,w0⟩) (f:=31) (fn:=Tryz.f31) [(67,GO.sg),(69,HS.sg),(68,DW.sg)] [] [] Tryz.func31 (by kernel_rfl) (by kernel_rfl) (by kernel_rfl) h
def DT.sg:Sg:=⟨[(0,[.v])],[(0,[.v])],[]⟩
def DT.txt (C:Ctx) (a0:Value) (K:J2):Prop:=
 prP (lnS a0) fun t9_1=>
 prP (bnI .gtr t9_1 (.int .i64 1048576)) fun t10_2=>
 AG t10_2 (
 K [(.bool true)] []) (
 cl2 C 20 JV.sg [a0] [] fun v3 d4=>
 cl2 C 15 IW.sg [a0] [] fun v5 d6=>
 cl2 C 29 H0.sg [(nx v5 0),(nx v5 1),(nx v3 0),(nx v3 1)] [(nxc d6 0),(nxc d6 1),(nxc d6 2),(nxc d6 3),(nxc d6 4),(nxc d6 5),(nxc d4 0),(nxc d4 1),(nxc d4 2),(nxc d4 3),(nxc d4 4),(nxc d4 5)] fun v7 d8=>
 prP (un .not (nx v7 0)) fun t18_10=>
 AG t18_10 (
 K [(.bool false)] []) (
 cl2 C 30 H2.sg [(nx v5 0),(nx v5 1),(.int .i64 1)] [(nxc d6 0),(nxc d6 1),(nxc d6 2),(nxc d6 3),(nxc d6 4),(nxc d6 5)] fun v11 d12=>
 cl2 C 31 GQ.sg [(nx v5 0),(nx v5 1),(.int .i64 1)] [(nxc d12 0),(nxc d12 1),(nxc d12 2),(nxc d12 3),(nxc d12 4),(nxc d12 5)] fun v13 d14=>
 prP (bnI .lss (nx v13 0) (.int .i64 0)) fun t26_16=>
 AG t26_16 (
 K [(.bool false)] []) (
 prP (bnI .neq (nx v13 0) (nx v11 0)) fun t29_17=>
 AG t29_17 (
 K [(.bool false)] []) (
 cl2 C 15 IW.sg [a0] [] fun v18 d19=>
 cl2 C 29 H0.sg [(nx v18 0),(nx v18 1),(nx v3 0),(nx v3 1)] [(nxc d19 0),(nxc d19 1),(nxc d19 2),(nxc d19 3),(nxc d19 4),(nxc d19 5),(nxc d4 0),(nxc d4 1),(nxc d4 2),(nxc d4 3),(nxc d4 4),(nxc d4 5)] fun v20 d21=>
 prP (un .not (nx v20 0)) fun t35_23=>
 AG t35_23 (
 K [(.bool false)] []) (
 cl2 C 31 GQ.sg [(nx v5 0),(nx v5 1),(.int .i64 1)] [(nxc d12 0),(nxc d12 1),(nxc d12 2),(nxc d12 3),(nxc d12 4),(nxc d12 5)] fun v24 d25=>
 prP (bnI .lss (nx v24 0) (.int .i64 0)) fun t40_27=>
 AG t40_27 (
 K [(.bool false)] []) (
 prP (bnI .neq (nx v24 0) (nx v11 0)) fun t43_28=>
 AG t43_28 (
 K [(.bool false)] []) (
 K [(.bool true)] [])))))))
theorem DT.cl2 {w0:World} {a0:Value} {K:J2} (h:DT.txt ⟨Tryz.prog,w0⟩ a0 K):Eng.cl2 ⟨Tryz.prog,w0⟩ 6 DT.sg [a0] [] K:=
 AB (C:=⟨Tryz.prog,w0⟩) (f:=6) (fn:=Tryz.f6) [(20,JV.sg),(15,IW.sg),(29,H0.sg),(30,H2.sg),(31,GQ.sg)] [] [] Tryz.func6 (by kernel_rfl) (by kernel_rfl) (by kernel_rfl) h
end Go.Proofs.YtnhicpkhkaihoaaGreat.P
