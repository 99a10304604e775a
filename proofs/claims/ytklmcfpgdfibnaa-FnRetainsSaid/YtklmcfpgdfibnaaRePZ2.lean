/- A part of the proof. -/
import Derived.Test.YtklmcfpgdfibnaaChecked
import Derived.Test.YtklmcfpgdfibnaaRePZ1
import Derived.KernelRfl
namespace Go.Proofs.Ytklmcfpgdfibnaa.P
open Go Go.Proofs.Ytklmcfpgdfibnaa Go.Proofs.Ytklmcfpgdfibnaa.Eng
set_option linter.unusedVariables false
set_option maxRecDepth 100000
def FG.sg:Sg:=⟨[(1,[.t 8 0, .t 2 0, .t 1 0, .t 1 0]),(0,[.v])],[(0,[.t 1])],[]⟩
def FG.txt (C:Ctx) (a0:Value) (c0 c1 c2 c3:List T) (K:J2):Prop:=
 ixW (cnt 8 c0) a0 fun t12_1=>
 ldl c0 [] (((AA t12_1)*8)+6) 1 fun t14_2=>
 BD (fun r5 x3 k4=>
 prP (bnI .lss (nx x3 2) (nx x3 1)) fun t17_20=>
 AY t17_20 (
 BQ (fun x22 k23=>
 prP (bnI .add (nx x22 2) (.int .i64 1)) fun t29_31=>
 r5 [(iv (AA (nx x22 0))),(nx x22 1),t29_31] [(nxc k23 0)]) fun j24=>
 ixW (cnt 1 (EF c0 [(AA (nx x3 0))])) (nx x3 2) fun t18_25=>
 ldc c0 [(AA (nx x3 0))] ((AA t18_25)*1) fun t19_26=>
 cl2 C 81 DT.sg [t19_26] [c0,c1,c2,c3] fun v27 d28=>
 prP (bnI .geq (nx v27 0) (.int .i64 0)) fun t24_30=>
 AY t24_30 (
 apW [T.c (nx v27 0)] true (cnt 1 (nxc k4 0)) (cnt 1 [T.c (nx v27 0)]) 8 (
 j24 [(iv (AA (nx x3 0))),(nx x3 1),(nx x3 2)] [((nxc k4 0)++[T.c (nx v27 0)])])) (
 j24 [(iv (AA (nx x3 0))),(nx x3 1),(nx x3 2)] [(nxc k4 0)])) (
 K [] [(nxc k4 0)])) [(iv (((AA t12_1)*8)+6)),(iv (cnt 1 (EF c0 [(((AA t12_1)*8)+6)]))),(.int .i64 0)] [[]]
theorem FG.cl2 {w0:World} {a0:Value} {c0 c1 c2 c3:List T} {K:J2} (h:FG.txt ⟨Try.prog,w0⟩ a0 c0 c1 c2 c3 K):Eng.cl2 ⟨Try.prog,w0⟩ 118 FG.sg [a0] [c0,c1,c2,c3] K:=
 AX (C:=⟨Try.prog,w0⟩) (f:=118) (fn:=Try.f118) [(81,DT.sg)] [] [(467,⟨[.p (.j 0) 0, .t (.j 1) 1, .n (.f 0) 1 1, .v, .v],[],[.bx [.t (.f 0) 8, .t (.f 1) 2, .t (.f 2) 1, .t (.f 3) 1], .ls]⟩),(58,⟨[.p (.j 0) 0, .t (.j 1) 1, .n (.f 0) 1 1, .v, .v],[],[.bx [.t (.f 0) 8, .t (.f 1) 2, .t (.f 2) 1, .t (.f 3) 1], .ls]⟩)] Try.func118 (by kernel_rfl) (by kernel_rfl) (by kernel_rfl) h
def EN.sg:Sg:=⟨[(0,[.t 1 0]),(0,[.v])],[(0,[.v])],[]⟩
def EN.txt (C:Ctx) (a0:Value) (c0:List T) (K:J2):Prop:=
 BD (fun r3 x1 k2=>
 prP (bnI .lss (nx x1 2) (nx x1 1)) fun t10_5=>
 AY t10_5 (
 ixW (cnt 1 c0) (nx x1 2) fun t11_6=>
 ldc c0 [] ((AA t11_6)*1) fun t12_7=>
 prP (bnI .eql t12_7 (nx x1 0)) fun t15_8=>
 AY t15_8 (
 K [(.bool true)] []) (
 prP (bnI .add (nx x1 2) (.int .i64 1)) fun t16_9=>
 r3 [(nx x1 0),(nx x1 1),t16_9] [])) (
 K [(.bool false)] [])) [a0,(iv (cnt 1 c0)),(.int .i64 0)] []
theorem EN.cl2 {w0:World} {a0:Value} {c0:List T} {K:J2} (h:EN.txt ⟨Try.prog,w0⟩ a0 c0 K):Eng.cl2 ⟨Try.prog,w0⟩ 91 EN.sg [a0] [c0] K:=
 AX (C:=⟨Try.prog,w0⟩) (f:=91) (fn:=Try.f91) [] [] [(26,⟨[.v, .t (.f 0) 1, .v, .v],[],[]⟩)] Try.func91 (by kernel_rfl) (by kernel_rfl) (by kernel_rfl) h
end Go.Proofs.Ytklmcfpgdfibnaa.P
