/- A part of the proof. -/
import Derived.Test.YtklmcfpgdfibnaaChecked
import Derived.Test.YtklmcfpgdfibnaaPtPZ2
import Derived.KernelRfl
namespace Go.Proofs.Ytklmcfpgdfibnaa.P
open Go Go.Proofs.Ytklmcfpgdfibnaa Go.Proofs.Ytklmcfpgdfibnaa.Eng
set_option linter.unusedVariables false
set_option maxRecDepth 100000
def GV.sg:Sg:=⟨[(0,[.t 1 0])],[(0,[.v])],[]⟩
def GV.txt (C:Ctx) (c0:List T) (K:J2):Prop:=
 cl2 C 17 JG.sg [] [c0] fun v1 d2=>
 AW (nx v1 0) (
 K [(.bool true)] []) (
 cl2 C 43 ET.sg [] [c0] fun v4 d5=>
 BW (fun x7 k8=>
 scW (cnt 5 (nxc k8 0)) none (some (nx x7 0)) fun l16 m17=>
 cl2 C 39 HT.sg [] [(GD (nxc k8 0) [] ((AA l16)*5) ((AA m17)*5))] fun v18 d19=>
 cl2 C 39 HT.sg [] [(nxc k8 0)] fun v20 d21=>
 prP (bnI .neq (iv (cnt 3 (nxc d19 4))) (nx x7 0)) fun t40_22=>
 gE t40_22 (
 gE t40_22 (
 gE t40_22 (
 gE t40_22 (
 gP t40_22 false (prP (bnI .neq (iv (cnt 3 (nxc d21 4))) (iv (cnt 5 (nxc k8 0))))) fun t46_23=>
 prP (pk t40_22 (.bool true) t46_23) fun t47_24=>
 gE t47_24 (
 gE t47_24 (
 gE t47_24 (
 gP t47_24 false ((fun K=>scW (cnt 3 (nxc d21 4)) none (some (nx x7 0)) fun l m=>K (two l m))) fun t52_25=>
 gP t47_24 false ((fun K=>cl2 C 78 DG.sg [] [(nxc d19 4),(GD (nxc d21 4) [] ((AA (Q9 t52_25))*3) ((AA (RV t52_25))*3))] fun v26 d27=>K (nx v26 0))) fun t53_28=>
 gP t47_24 false (prP (un .not t53_28)) fun t54_29=>
 prP (pk t47_24 (.bool true) t54_29) fun t55_30=>
 AW t55_30 (
 K [(.bool false)] []) (
 BK (fun r33 x31 k32=>
 prP (bnI .lss (nx x31 0) (iv (cnt 5 (nxc k32 0)))) fun t60_35=>
 AW t60_35 (
 ixW (cnt 5 (nxc k32 0)) (nx x31 0) fun t67_36=>
 ldg (nxc k32 0) [] ((AA t67_36)*5) [.c, .c, .c, .c, .c] fun ts37=>
 cl2 C 42 HK.sg [(tv (nxT ts37 0)),(tv (nxT ts37 1)),(tv (nxT ts37 2)),(tv (nxT ts37 3)),(tv (nxT ts37 4))] [(nxc k32 2),(nxc k32 3),(nxc k32 4),(nxc k32 5)] fun v38 d39=>
 ixW (cnt 3 (nxc k32 1)) (nx x31 0) fun t75_40=>
 ldg (nxc k32 1) [] ((AA t75_40)*3) [.c, .c, .l 1] fun ts41=>
 cl2 C 79 CX.sg [(nx v38 0),(nx v38 1),(tv (nxT ts41 0)),(tv (nxT ts41 1))] [(nxc d39 4),(FL (nxc k32 1) [(((AA t75_40)*3)+2)])] fun v42 d43=>
 prP (un .not (nx v42 0)) fun t78_45=>
 AW t78_45 (
 K [(.bool false)] []) (
 prP (bnI .add (nx x31 0) (.int .i64 1)) fun t62_46=>
 r33 [t62_46] [(nxc k32 0),(nxc k32 1),(nxc d39 0),(nxc d39 1),(nxc d39 2),(nxc d39 3),(nxc k32 6),(nxc k32 7),(nxc k32 8),(nxc k32 9)])) (
 cl2 C 36 FA.sg [] [(nxc k32 2),(nxc k32 3),(nxc k32 4),(nxc k32 5),(nxc k32 6),(nxc k32 7),(nxc k32 8),(nxc k32 9)] fun v47 d48=>
 K [(nx v47 0)] [])) [(nx x7 0)] [(nxc k8 0),(nxc d21 4),(nxc d19 0),(nxc d19 1),(nxc d19 2),(nxc d19 3),(nxc d21 0),(nxc d21 1),(nxc d21 2),(nxc d21 3)]))))))))) fun j9=>
 prP (bnI .gtr (iv (cnt 5 (nxc d5 0))) (.int .i64 0)) fun t18_10=>
 AW t18_10 (
 cl2 C 38 K2.sg [(.int .i64 0)] [c0] fun v11 d12=>
 prP (bnI .add (iv (cnt 5 (nxc d5 0))) (.int .i64 1)) fun t23_14=>
 prP (bnI .rem (nx v11 0) t23_14) fun t24_15=>
 j9 [t24_15] [(nxc d5 0)]) (
 j9 [(.int .i64 0)] [(nxc d5 0)]))
theorem GV.cl2 {w0:World} {c0:List T} {K:J2} (h:GV.txt ⟨Try.prog,w0⟩ c0 K):Eng.cl2 ⟨Try.prog,w0⟩ 14 GV.sg [] [c0] K:=
 AS (C:=⟨Try.prog,w0⟩) (f:=14) (fn:=Try.f14) [(17,JG.sg),(43,ET.sg),(38,K2.sg),(39,HT.sg),(78,DG.sg),(42,HK.sg),(79,CX.sg),(36,FA.sg)] [(14,[0,0,0,6,14,31,63,127,127,0,0,1791,4095]),(15,[0,0,0,6,14,31,63])] [(31,⟨[.t (.j 0) 5, .v],[],[.ls]⟩),(4090,⟨[.t (.j 0) 5, .p (.j 1) 0, .p (.j 2) 0, .t (.j 3) 3, .v],[],[.ls, .bx [.t (.j 4) 8, .t (.j 5) 2, .t (.j 6) 1, .t (.j 7) 1], .bx [.t (.j 8) 8, .t (.j 9) 2, .t (.j 10) 1, .t (.j 11) 1], .ls, .ls, .ls, .ls, .ls, .ls, .ls, .ls, .ls]⟩)] Try.func14 (by kernel_rfl) (by kernel_rfl) (by kernel_rfl) h
end Go.Proofs.Ytklmcfpgdfibnaa.P
