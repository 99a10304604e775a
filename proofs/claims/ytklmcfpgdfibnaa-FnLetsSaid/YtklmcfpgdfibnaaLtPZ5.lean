/- A part of the proof. -/
import Derived.Test.YtklmcfpgdfibnaaChecked
import Derived.Test.YtklmcfpgdfibnaaLtPZ4
import Derived.KernelRfl
namespace Go.Proofs.Ytklmcfpgdfibnaa.P
open Go Go.Proofs.Ytklmcfpgdfibnaa Go.Proofs.Ytklmcfpgdfibnaa.Eng
set_option linter.unusedVariables false
set_option maxRecDepth 100000
def HA.sg:Sg:=⟨[(0,[.t 1 0])],[(0,[.v])],[]⟩
def HA.txt (C:Ctx) (c0:List T) (K:J2):Prop:=
 cl2 C 17 JH.sg [] [c0] fun v1 d2=>
 AX (nx v1 0) (
 K [(.bool true)] []) (
 cl2 C 43 EW.sg [] [c0] fun v4 d5=>
 cl2 C 39 II.sg [] [(nxc d5 0)] fun v6 d7=>
 cl2 C 19 EG.sg [] [(nxc d7 0),(nxc d7 1),(nxc d7 2),(nxc d7 3)] fun v8 d9=>
 prP (un .not (nx v8 0)) fun t26_11=>
 gE t26_11 (
 gC t26_11 false (cl2 C 30 C3.sg [] [(nxc d7 0),(nxc d7 1),(nxc d7 2),(nxc d7 3)]) fun v12 d13=>
 gE t26_11 (
 gP t26_11 false (prP (bnI .eql (iv (cnt 1 (nxc d13 0))) (.int .i64 0))) fun t31_14=>
 gE t26_11 (
 gE (B8 t26_11 false t31_14) (
 gE (B8 t26_11 false t31_14) (
 gP (B8 t26_11 false t31_14) true (prP (bnI .gtr (iv (cnt 5 (nxc d5 0))) (.int .i64 12))) fun t35_15=>
 gP t26_11 false (prP (pk t31_14 t35_15 (.bool false))) fun t36_16=>
 gE t26_11 (
 gE (B8 t26_11 false t36_16) (
 gC (B8 t26_11 false t36_16) true (cl2 C 40 E9.sg [] [(nxc d7 0),(nxc d7 1),(nxc d7 2),(nxc d7 3)]) fun v17 d18=>
 gE (B8 t26_11 false t36_16) (
 gP (B8 t26_11 false t36_16) true (prP (bnI .neq (iv (cnt 1 (nxc d18 0))) (.int .i64 0))) fun t41_19=>
 gP t26_11 false (prP (pk t36_16 t41_19 (.bool false))) fun t42_20=>
 prP (pk t26_11 (.bool true) t42_20) fun t43_21=>
 AX t43_21 (
 K [(.bool false)] []) (
 cl2 C 30 C3.sg [] [(nxc d7 0),(nxc d7 1),(nxc d7 2),(nxc d7 3)] fun v22 d23=>
 BL (fun r26 x24 k25=>
 prP (bnI .lss (nx x24 0) (iv (cnt 1 (nxc k25 0)))) fun t49_28=>
 AX t49_28 (
 BS (fun x30 k31=>
 prP (bnI .add (nx x30 0) (.int .i64 1)) fun t51_64=>
 r26 [t51_64] [(nxc k31 0),(nxc k31 1),(nxc k31 2),(nxc k31 3),(nxc k31 4)]) fun j32=>
 BL (fun r35 x33 k34=>
 prP (bnI .leq (nx x33 1) (.int .i64 40)) fun t53_37=>
 AX t53_37 (
 ixW (cnt 1 (nxc k34 0)) (nx x33 0) fun t59_38=>
 ldc (nxc k34 0) [] ((AA t59_38)*1) fun t60_39=>
 cl2 C 24 BV.sg [t60_39] [(nxc k34 1),(nxc k34 2),(nxc k34 3),(nxc k34 4)] fun v40 d41=>
 prP (bnI .lss (nx v40 0) (.int .i64 0)) fun t63_43=>
 gE t63_43 (
 gE t63_43 (
 gE t63_43 (
 gP t63_43 false (ixW (cnt 8 (nxc k34 1)) (nx v40 0)) fun t68_44=>
 gE t63_43 (
 gP t63_43 false (ldc (nxc k34 1) [] (((AA t68_44)*8)+3)) fun t70_45=>
 gE t63_43 (
 gE t63_43 (
 gE t63_43 (
 gP t63_43 false (ixW (cnt 8 (nxc k34 1)) (nx v40 0)) fun t74_46=>
 gE t63_43 (
 gP t63_43 false (ldc (nxc k34 1) [] (((AA t74_46)*8)+4)) fun t76_47=>
 gP t63_43 false (prP (bnI .add t70_45 t76_47)) fun t77_48=>
 gP t63_43 false (prP (bnI .eql t77_48 (.int .i64 0))) fun t78_49=>
 prP (pk t63_43 (.bool true) t78_49) fun t79_50=>
 AX t79_50 (
 j32 [(nx x33 0)] [(nxc k34 0),(nxc k34 1),(nxc k34 2),(nxc k34 3),(nxc k34 4)]) (
 BS (fun x52 k53=>
 ixW (cnt 1 (nxc k53 0)) (nx x52 0) fun t92_58=>
 ldc (nxc k53 0) [] ((AA t92_58)*1) fun t93_59=>
 cl2 C 42 GV.sg [(nx x52 2),t93_59,(.int .i64 0),(.int .i64 0),(.string {data:= #[]})] [(nxc k53 1),(nxc k53 2),(nxc k53 3),(nxc k53 4)] fun v60 d61=>
 prP (bnI .neq (nx v60 0) (.int .i64 0)) fun t100_62=>
 AX t100_62 (
 K [(.bool false)] []) (
 prP (bnI .add (nx x52 1) (.int .i64 1)) fun t55_63=>
 r35 [(nx x52 0),t55_63] [(nxc k53 0),(nxc d61 0),(nxc d61 1),(nxc d61 2),(nxc d61 3)])) fun j54=>
 ixW (cnt 8 (nxc k34 1)) (nx v40 0) fun t83_55=>
 ldc (nxc k34 1) [] (((AA t83_55)*8)+3) fun t85_56=>
 prP (bnI .eql t85_56 (.int .i64 0)) fun t86_57=>
 AX t86_57 (
 j54 [(nx x33 0),(nx x33 1),(.int .i64 6)] [(nxc k34 0),(nxc k34 1),(nxc k34 2),(nxc k34 3),(nxc k34 4)]) (
 j54 [(nx x33 0),(nx x33 1),(.int .i64 3)] [(nxc k34 0),(nxc k34 1),(nxc k34 2),(nxc k34 3),(nxc k34 4)]))))))))))) (
 j32 [(nx x33 0)] [(nxc k34 0),(nxc k34 1),(nxc k34 2),(nxc k34 3),(nxc k34 4)])) [(nx x24 0),(.int .i64 0)] [(nxc k25 0),(nxc k25 1),(nxc k25 2),(nxc k25 3),(nxc k25 4)]) (
 cl2 C 42 GV.sg [(.int .i64 10),(.int .i64 0),(.int .i64 0),(.int .i64 0),(.string {data:= #[]})] [(nxc k25 1),(nxc k25 2),(nxc k25 3),(nxc k25 4)] fun v65 d66=>
 prP (bnI .eql (nx v65 0) (.int .i64 0)) fun t110_67=>
 gE t110_67 (
 gC t110_67 true (cl2 C 30 C3.sg [] [(nxc d66 0),(nxc d66 1),(nxc d66 2),(nxc d66 3)]) fun v68 d69=>
 gE t110_67 (
 gP t110_67 true (prP (bnI .eql (iv (cnt 1 (nxc d69 0))) (.int .i64 0))) fun t115_70=>
 prP (pk t110_67 t115_70 (.bool false)) fun t116_71=>
 gE t116_71 (
 gE t116_71 (
 gE t116_71 (
 gP t116_71 true (prP (bnI .eql (iv (cnt 8 (nxc d66 0))) (.int .i64 8))) fun t121_72=>
 prP (pk t116_71 t121_72 (.bool false)) fun t122_73=>
 gE t122_73 (
 gP t122_73 true ((fun K=>cl2 C 19 EG.sg [] [(nxc d66 0),(nxc d66 1),(nxc d66 2),(nxc d66 3)] fun v74 d75=>K (nx v74 0))) fun t125_76=>
 prP (pk t122_73 t125_76 (.bool false)) fun t126_77=>
 K [t126_77] [])))))))) [(.int .i64 0)] [(nxc d23 0),(nxc d7 0),(nxc d7 1),(nxc d7 2),(nxc d7 3)]))))))))))
theorem HA.cl2 {w0:World} {c0:List T} {K:J2} (h:HA.txt ⟨Try.prog,w0⟩ c0 K):Eng.cl2 ⟨Try.prog,w0⟩ 13 HA.sg [] [c0] K:=
 AS (C:=⟨Try.prog,w0⟩) (f:=13) (fn:=Try.f13) [(17,JH.sg),(43,EW.sg),(39,II.sg),(19,EG.sg),(30,C3.sg),(40,E9.sg),(24,BV.sg),(42,GV.sg)] [(14,[0,0,0,6,14,31,63]),(15,[0,1,3,7,15,7,63,127,255,7,519,7,3591,7687,15879,32767,65535,131071]),(19,[0,0,0,0,12,28,62,127,255,511,511,0,0,7167,16383])] [(8341799,⟨[.p (.j 0) 0, .t (.j 1) 1, .v, .v, .v],[],[.bx [.t (.j 2) 8, .t (.j 3) 2, .t (.j 4) 1, .t (.j 5) 1], .ls, .ls, .ls, .ls, .ls]⟩),(65170,⟨[.p (.j 0) 0, .t (.j 1) 1, .v, .v],[],[.bx [.t (.j 2) 8, .t (.j 3) 2, .t (.j 4) 1, .t (.j 5) 1], .ls, .ls, .ls, .ls, .ls]⟩),(4073,⟨[.p (.j 0) 0, .t (.j 1) 1, .v],[],[.bx [.t (.j 2) 8, .t (.j 3) 2, .t (.j 4) 1, .t (.j 5) 1], .ls, .ls, .ls, .ls, .ls]⟩),(1018,⟨[.p (.j 0) 0, .t (.j 1) 1, .v],[],[.bx [.t (.j 2) 8, .t (.j 3) 2, .t (.j 4) 1, .t (.j 5) 1], .ls, .ls, .ls, .ls, .ls]⟩)] Try.func13 (by kernel_rfl) (by kernel_rfl) (by kernel_rfl) h
end Go.Proofs.Ytklmcfpgdfibnaa.P
