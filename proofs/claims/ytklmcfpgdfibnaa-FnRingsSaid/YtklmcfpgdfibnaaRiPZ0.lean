/- A part of the proof. -/
import Derived.Test.YtklmcfpgdfibnaaChecked
import Derived.Test.YtklmcfpgdfibnaaRiEngM5
import Derived.KernelRfl
namespace Go.Proofs.Ytklmcfpgdfibnaa.P
open Go Go.Proofs.Ytklmcfpgdfibnaa Go.Proofs.Ytklmcfpgdfibnaa.Eng
set_option linter.unusedVariables false
set_option maxRecDepth 100000
def IK.sg:Sg:=⟨[(0,[.t 1 0])],[(0,[.v])],[]⟩
def IK.txt (C:Ctx) (c0:List T) (K:J2):Prop:=
 prP (bnI .gtr (iv (cnt 1 c0)) (.int .i64 1048576)) fun t5_1=>
 K [t5_1] []
theorem IK.cl2 {w0:World} {c0:List T} {K:J2} (h:IK.txt ⟨Try.prog,w0⟩ c0 K):Eng.cl2 ⟨Try.prog,w0⟩ 17 IK.sg [] [c0] K:=
 AV (C:=⟨Try.prog,w0⟩) (f:=17) (fn:=Try.f17) [] [] [] Try.func17 (by kernel_rfl) (by kernel_rfl) (by kernel_rfl) h
end Go.Proofs.Ytklmcfpgdfibnaa.P
