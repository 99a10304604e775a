/- A part of the proof. -/
import Derived.Test.YtklmcfpgdfibnaaChecked
import Derived.Test.YtklmcfpgdfibnaaWaPZ1
import Derived.KernelRfl
namespace Go.Proofs.Ytklmcfpgdfibnaa.P
open Go Go.Proofs.Ytklmcfpgdfibnaa Go.Proofs.Ytklmcfpgdfibnaa.Eng
set_option linter.unusedVariables false
set_option maxRecDepth 100000
def EP.sg:Sg:=⟨[(1,[.t 8 0, .t 2 0, .t 1 0, .t 1 0]),(0,[.v])],[(0,[.t 1])],[]⟩
def EP.txt (C:Ctx) (a0:Value) (c0 c1 c2 c3:List T) (K:J2):Prop:=
 ixW (cnt 8 c0) a0 fun t12_1=>
 ldl c0 [] (((AD t12_1)*8)+6) 1 fun t14_2=>
 BE (fun r5 x3 k4=>
 prP (bnI .lss (nx x3 2) (nx x3 1)) fun t17_20=>
 AX t17_20 (
 BK (fun x22 k23=>
 prP (bnI .add (nx x22 2) (.int .i64 1)) fun t29_31=>
 r5 [(iv (AD (nx x22 0))),(nx x22 1),t29_31] [(nxc k23 0)]) fun j24=>
 ixW (cnt 1 (FJ c0 [(AD (nx x3 0))])) (nx x3 2) fun t18_25=>
 ldc c0 [(AD (nx x3 0))] ((AD t18_25)*1) fun t19_26=>
 cl2 C 81 DK.sg [t19_26] [c0,c1,c2,c3] fun v27 d28=>
 prP (bnI .geq (nx v27 0) (.int .i64 0)) fun t24_30=>
 AX t24_30 (
 apW [T.c (nx v27 0)] true (cnt 1 (nxc k4 0)) (cnt 1 [T.c (nx v27 0)]) 8 (
 j24 [(iv (AD (nx x3 0))),(nx x3 1),(nx x3 2)] [((nxc k4 0)++[T.c (nx v27 0)])])) (
 j24 [(iv (AD (nx x3 0))),(nx x3 1),(nx x3 2)] [(nxc k4 0)])) (
 K [] [(nxc k4 0)])) [(iv (((AD t12_1)*8)+6)),(iv (cnt 1 (FJ c0 [(((AD t12_1)*8)+6)]))),(.int .i64 0)] [[]]
theorem EP.cl2 {w0:World} {a0:Value} {c0 c1 c2 c3:List T} {K:J2} (h:EP.txt ⟨Try.prog,w0⟩ a0 c0 c1 c2 c3 K):Eng.cl2 ⟨Try.prog,w0⟩ 118 EP.sg [a0] [c0,c1,c2,c3] K:=
 AY (C:=⟨Try.prog,w0⟩) (f:=118) (fn:=Try.f118) [(81,DK.sg)] [] [(467,⟨[.p (.j 0) 0, .t (.j 1) 1, .n (.f 0) 1 1, .v, .v],[],[.bx [.t (.f 0) 8, .t (.f 1) 2, .t (.f 2) 1, .t (.f 3) 1], .ls]⟩),(58,⟨[.p (.j 0) 0, .t (.j 1) 1, .n (.f 0) 1 1, .v, .v],[],[.bx [.t (.f 0) 8, .t (.f 1) 2, .t (.f 2) 1, .t (.f 3) 1], .ls]⟩)] Try.func118 (by kernel_rfl) (by kernel_rfl) (by kernel_rfl) h
end Go.Proofs.Ytklmcfpgdfibnaa.P
