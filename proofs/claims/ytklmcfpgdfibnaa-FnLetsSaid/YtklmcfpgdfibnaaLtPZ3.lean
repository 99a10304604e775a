/- A part of the proof. -/
import Derived.Test.YtklmcfpgdfibnaaChecked
import Derived.Test.YtklmcfpgdfibnaaLtPZ2
import Derived.KernelRfl
namespace Go.Proofs.Ytklmcfpgdfibnaa.P
open Go Go.Proofs.Ytklmcfpgdfibnaa Go.Proofs.Ytklmcfpgdfibnaa.Eng
set_option linter.unusedVariables false
set_option maxRecDepth 100000
def E9.sg:Sg:=⟨[(1,[.t 8 0, .t 2 0, .t 1 0, .t 1 0])],[(0,[.t 1])],[]⟩
def E9.txt (C:Ctx) (c0 c1 c2 c3:List T) (K:J2):Prop:=
 BL (fun r3 x1 k2=>
 prP (bnI .lss (nx x1 1) (nx x1 0)) fun t10_19=>
 AX t10_19 (
 BS (fun x21 k22=>
 prP (bnI .add (nx x21 1) (.int .i64 1)) fun t27_31=>
 r3 [(nx x21 0),t27_31] [(nxc k22 0)]) fun j23=>
 ixW (cnt 8 c0) (nx x1 1) fun t12_24=>
 ldg c0 [] ((AA t12_24)*8) [.c, .c, .c, .c, .c, .c, .l 1, .c] fun ts25=>
 prP (bnI .lss (nx x1 1) (.int .i64 8)) fun t15_26=>
 gE t15_26 (
 gE t15_26 (
 prP (pk t15_26 (tv (nxT ts25 0)) (.bool false)) fun t19_27=>
 AX t19_27 (
 cl2 C 98 DX.sg [(nx x1 1),(tv (nxT ts25 1))] [] fun v28 d29=>
 apW [T.c (nx v28 0)] true (cnt 1 (nxc k2 0)) (cnt 1 [T.c (nx v28 0)]) 8 (
 j23 [(nx x1 0),(nx x1 1)] [((nxc k2 0)++[T.c (nx v28 0)])])) (
 j23 [(nx x1 0),(nx x1 1)] [(nxc k2 0)])))) (
 K [] [(nxc k2 0)])) [(iv (cnt 8 c0)),(.int .i64 0)] [[]]
theorem E9.cl2 {w0:World} {c0 c1 c2 c3:List T} {K:J2} (h:E9.txt ⟨Try.prog,w0⟩ c0 c1 c2 c3 K):Eng.cl2 ⟨Try.prog,w0⟩ 40 E9.sg [] [c0,c1,c2,c3] K:=
 AS (C:=⟨Try.prog,w0⟩) (f:=40) (fn:=Try.f40) [(98,DX.sg)] [] [(467,⟨[.t (.j 0) 1, .t (.f 0) 8, .v, .v],[],[.ls]⟩),(58,⟨[.t (.j 0) 1, .t (.f 0) 8, .v, .v],[],[.ls]⟩)] Try.func40 (by kernel_rfl) (by kernel_rfl) (by kernel_rfl) h
end Go.Proofs.Ytklmcfpgdfibnaa.P
