/- A part of the proof. -/
import Derived.Test.YtklmcfpgdfibnaaChecked
import Derived.Test.YtklmcfpgdfibnaaLkPZ3
import Derived.KernelRfl
namespace Go.Proofs.Ytklmcfpgdfibnaa.P
open Go Go.Proofs.Ytklmcfpgdfibnaa Go.Proofs.Ytklmcfpgdfibnaa.Eng
set_option linter.unusedVariables false
set_option maxRecDepth 100000
def DF.sg:Sg:=⟨[(1,[.t 8 0, .t 2 0, .t 1 0, .t 1 0]),(0,[.v]),(0,[.v])],[(0,[.v])],[]⟩
def DF.txt (C:Ctx) (a0 a1:Value) (c0 c1 c2 c3:List T) (K:J2):Prop:=
 prP (bnI .neq (iv (cnt 8 c0)) (.int .i64 8)) fun t10_1=>
 gE t10_1 (
 gE t10_1 (
 gP t10_1 false ((fun K=>cl2 C 24 BS.sg [a0] [c0,c1,c2,c3] fun v2 d3=>K (nx v2 0))) fun t14_4=>
 gP t10_1 false (prP (bnI .lss t14_4 (.int .i64 0))) fun t15_5=>
 prP (pk t10_1 (.bool true) t15_5) fun t16_6=>
 gE t16_6 (
 gE t16_6 (
 gP t16_6 false ((fun K=>cl2 C 24 BS.sg [a1] [c0,c1,c2,c3] fun v7 d8=>K (nx v7 0))) fun t20_9=>
 gP t16_6 false (prP (bnI .lss t20_9 (.int .i64 0))) fun t21_10=>
 prP (pk t16_6 (.bool true) t21_10) fun t22_11=>
 A6 t22_11 (
 K [(.bool false)] []) (
 cl2 C 24 BS.sg [a0] [c0,c1,c2,c3] fun v12 d13=>
 ixW (cnt 8 c0) (nx v12 0) fun t29_15=>
 ldl c0 [] (((AD t29_15)*8)+6) 1 fun t31_16=>
 cl2 C 93 DI.sg [(.int .i64 (-1))] [c0,c1,c2,c3,(EK c0 [(((AD t29_15)*8)+6)])] fun v17 d18=>
 cl2 C 89 B7.sg [a1] [(nxc d18 0)] fun v19 d20=>
 K [(nx v19 0)] [])))))
theorem DF.cl2 {w0:World} {a0 a1:Value} {c0 c1 c2 c3:List T} {K:J2} (h:DF.txt ⟨Try.prog,w0⟩ a0 a1 c0 c1 c2 c3 K):Eng.cl2 ⟨Try.prog,w0⟩ 26 DF.sg [a0,a1] [c0,c1,c2,c3] K:=
 AV (C:=⟨Try.prog,w0⟩) (f:=26) (fn:=Try.f26) [(24,BS.sg),(93,DI.sg),(89,B7.sg)] [(3,[0,0,2,0,0,24,62,126,254,511,0,2047,4095])] [] Try.func26 (by kernel_rfl) (by kernel_rfl) (by kernel_rfl) h
end Go.Proofs.Ytklmcfpgdfibnaa.P
