/- A part of the proof. -/
import Derived.Test.YtklmcfpgdfibnaaChecked
import Derived.Test.YtklmcfpgdfibnaaNwPZ3
import Derived.KernelRfl
namespace Go.Proofs.Ytklmcfpgdfibnaa.P
open Go Go.Proofs.Ytklmcfpgdfibnaa Go.Proofs.Ytklmcfpgdfibnaa.Eng
set_option linter.unusedVariables false
set_option maxRecDepth 100000
def HY.sg:Sg:=⟨[(0,[.t 1 0])],[(0,[.v])],[]⟩
def HY.txt (C:Ctx) (c0:List T) (K:J2):Prop:=
 cl2 C 17 JF.sg [] [c0] fun v1 d2=>
 AV (nx v1 0) (
 K [(.bool true)] []) (
 cl2 C 43 EW.sg [] [c0] fun v4 d5=>
 cl2 C 39 H0.sg [] [(nxc d5 0)] fun v6 d7=>
 prP (bnI .neq (iv (cnt 3 (nxc d7 4))) (iv (cnt 5 (nxc d5 0)))) fun t24_8=>
 AV t24_8 (
 K [(.bool false)] []) (
 cl2 C 74 DM.sg [] [] fun v9 d10=>
 BL (fun r13 x11 k12=>
 prP (bnI .lss (nx x11 0) (iv (cnt 5 (nxc k12 0)))) fun t30_15=>
 AV t30_15 (
 BS (fun x17 k18=>
 ixW (cnt 5 (nxc k18 0)) (nx x17 0) fun t85_46=>
 ldg (nxc k18 0) [] ((AA t85_46)*5) [.c, .c, .c, .c, .c] fun ts47=>
 cl2 C 76 F5.sg [(tv (nxT ts47 0)),(tv (nxT ts47 1)),(tv (nxT ts47 2)),(tv (nxT ts47 3)),(tv (nxT ts47 4))] [(nxc k18 3),(nxc k18 4),(nxc k18 5),(nxc k18 6)] fun v48 d49=>
 prP (bnI .add (nx x17 0) (.int .i64 1)) fun t32_50=>
 r13 [t32_50] [(nxc k18 0),(nxc k18 1),(nxc k18 2),(nxc d49 0),(nxc d49 1),(nxc d49 2),(nxc d49 3)]) fun j19=>
 ixW (cnt 5 (nxc k12 0)) (nx x11 0) fun t35_20=>
 ldc (nxc k12 0) [] ((AA t35_20)*5) fun t37_21=>
 prP (bnI .eql t37_21 (.int .i64 1)) fun t38_22=>
 gE t38_22 (
 gE t38_22 (
 gP t38_22 true (ixW (cnt 3 (nxc k12 1)) (nx x11 0)) fun t42_23=>
 gE t38_22 (
 gP t38_22 true (ldc (nxc k12 1) [] ((AA t42_23)*3)) fun t44_24=>
 gP t38_22 true (prP (bnI .eql t44_24 (.int .i64 0))) fun t45_25=>
 prP (pk t38_22 t45_25 (.bool false)) fun t46_26=>
 AV t46_26 (
 ixW (cnt 3 (nxc k12 1)) (nx x11 0) fun t50_27=>
 ldc (nxc k12 1) [] (((AA t50_27)*3)+1) fun t52_28=>
 cl2 C 25 I5.sg [t52_28] [(nxc k12 2)] fun v29 d30=>
 gE (nx v29 0) (
 gP (nx v29 0) false ((fun K=>cl2 C 75 DG.sg [] [(nxc k12 3),(nxc k12 4),(nxc k12 5),(nxc k12 6)] fun v32 d33=>K (nx v32 0))) fun t56_34=>
 gE (nx v29 0) (
 gE (nx v29 0) (
 gP (nx v29 0) false (ixW (cnt 3 (nxc k12 1)) (nx x11 0)) fun t59_35=>
 gE (nx v29 0) (
 gP (nx v29 0) false (ldc (nxc k12 1) [] (((AA t59_35)*3)+1)) fun t61_36=>
 gP (nx v29 0) false (prP (bnI .rem t61_36 (.int .i64 8))) fun t62_37=>
 gP (nx v29 0) false (prP (bnI .neq t56_34 t62_37)) fun t63_38=>
 prP (pk (nx v29 0) (.bool true) t63_38) fun t64_39=>
 gE t64_39 (
 gE t64_39 (
 gP t64_39 false (ixW (cnt 3 (nxc k12 1)) (nx x11 0)) fun t68_40=>
 gE t64_39 (
 gP t64_39 false (ldc (nxc k12 1) [] (((AA t68_40)*3)+1)) fun t70_41=>
 gP t64_39 false (prP (bnI .lss t70_41 (.int .i64 8))) fun t71_42=>
 prP (pk t64_39 (.bool true) t71_42) fun t72_43=>
 AV t72_43 (
 K [(.bool false)] []) (
 ixW (cnt 3 (nxc k12 1)) (nx x11 0) fun t76_44=>
 ldc (nxc k12 1) [] (((AA t76_44)*3)+1) fun t78_45=>
 apW [T.c t78_45] true (cnt 1 (nxc k12 2)) (cnt 1 [T.c t78_45]) 8 (
 j19 [(nx x11 0)] [(nxc k12 0),(nxc k12 1),((nxc k12 2)++[T.c t78_45]),(nxc k12 3),(nxc k12 4),(nxc k12 5),(nxc k12 6)])))))))))) (
 j19 [(nx x11 0)] [(nxc k12 0),(nxc k12 1),(nxc k12 2),(nxc k12 3),(nxc k12 4),(nxc k12 5),(nxc k12 6)]))))) (
 cl2 C 77 DK.sg [] [] fun v51 d52=>
 cl2 C 74 DM.sg [] [] fun v53 d54=>
 cl2 C 36 EZ.sg [] [(nxc d52 0),(nxc d52 1),(nxc d52 2),(nxc d52 3),(nxc d54 0),(nxc d54 1),(nxc d54 2),(nxc d54 3)] fun v55 d56=>
 gC (nx v55 0) true (cl2 C 77 DK.sg [] []) fun v58 d59=>
 gP (nx v55 0) true ((fun K=>cl2 C 19 FD.sg [] [(nxc d59 0),(nxc d59 1),(nxc d59 2),(nxc d59 3)] fun v60 d61=>K (nx v60 0))) fun t96_62=>
 prP (pk (nx v55 0) t96_62 (.bool false)) fun t97_63=>
 K [t97_63] [])) [(.int .i64 0)] [(nxc d5 0),(nxc d7 4),[],(nxc d10 0),(nxc d10 1),(nxc d10 2),(nxc d10 3)]))
theorem HY.cl2 {w0:World} {c0:List T} {K:J2} (h:HY.txt ⟨Try.prog,w0⟩ c0 K):Eng.cl2 ⟨Try.prog,w0⟩ 12 HY.sg [] [c0] K:=
 AT (C:=⟨Try.prog,w0⟩) (f:=12) (fn:=Try.f12) [(17,JF.sg),(43,EW.sg),(39,H0.sg),(74,DM.sg),(25,I5.sg),(75,DG.sg),(76,F5.sg),(77,DK.sg),(36,EZ.sg),(19,FD.sg)] [(13,[0,0,0,6,14,30,63,127,255,511,255,255,3327,7423,15615,31999,65535,131071,262143,524287,524287,2097151,4194303,8388607,16777215,33554431]),(16,[0,0,0,6,14,31,63,127,127,0,0,1791,4095])] [(32676,⟨[.t (.j 0) 5, .t (.j 1) 3, .t (.j 2) 1, .p (.j 3) 0, .v],[],[.ls, .ls, .ls, .bx [.t (.j 4) 8, .t (.j 5) 2, .t (.j 6) 1, .t (.j 7) 1], .ls, .ls, .ls, .ls]⟩),(2042,⟨[.t (.j 0) 5, .t (.j 1) 3, .t (.j 2) 1, .p (.j 3) 0, .v],[],[.ls, .ls, .ls, .bx [.t (.j 4) 8, .t (.j 5) 2, .t (.j 6) 1, .t (.j 7) 1], .ls, .ls, .ls, .ls]⟩)] Try.func12 (by kernel_rfl) (by kernel_rfl) (by kernel_rfl) h
end Go.Proofs.Ytklmcfpgdfibnaa.P
