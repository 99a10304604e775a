/- A part of the proof. -/
import Derived.Test.YtklmcfpgdfibnaaChecked
import Derived.Test.YtklmcfpgdfibnaaRtPZ4
import Derived.KernelRfl
namespace Go.Proofs.Ytklmcfpgdfibnaa.P
open Go Go.Proofs.Ytklmcfpgdfibnaa Go.Proofs.Ytklmcfpgdfibnaa.Eng
set_option linter.unusedVariables false
set_option maxRecDepth 100000
def EK.sg:Sg:=⟨[(0,[.t 1 0])],[(1,[.t 8, .t 2, .t 1, .t 1]),(1,[.v, .v, .v, .v, .v])],[]⟩
def EK.txt (C:Ctx) (c0:List T) (K:J2):Prop:=
 cl2 C 85 HM.sg [] [c0] fun v1 d2=>
 cl2 C 94 GC.sg [(nx v1 0),(nx v1 1)] [c0] fun v3 d4=>
 BV (fun x6 k7=>
 cl2 C 128 HE.sg [(nx x6 5),(nx x6 6)] [c0,(nxc k7 0),(nxc k7 1),(nxc k7 2),(nxc k7 3)] fun v13 d14=>
 K [(nx v13 0),(nx v13 1),(nx v13 2),(nx v13 3),(nx v13 4)] [(nxc k7 0),(nxc k7 1),(nxc k7 2),(nxc k7 3)]) fun j8=>
 cl2 C 95 DN.sg [(nx v3 0),(nx v3 1),(.int .i64 10)] [c0] fun v9 d10=>
 AX (nx v9 0) (
 cl2 C 96 HT.sg [(nx v9 1),(nx v9 2)] [c0] fun v11 d12=>
 j8 [(.int .i64 0),(.int .i64 0),(.int .i64 0),(.int .i64 0),(.string {data:= #[]}),(nx v11 0),(nx v11 1)] [(nxc d12 0),(nxc d12 1),(nxc d12 2),(nxc d12 3)]) (
 j8 [(.int .i64 0),(.int .i64 0),(.int .i64 0),(.int .i64 0),(.string {data:= #[]}),(nx v9 1),(nx v9 2)] [(nxc d4 0),(nxc d4 1),(nxc d4 2),(nxc d4 3)])
theorem EK.cl2 {w0:World} {c0:List T} {K:J2} (h:EK.txt ⟨Try.prog,w0⟩ c0 K):Eng.cl2 ⟨Try.prog,w0⟩ 80 EK.sg [] [c0] K:=
 AU (C:=⟨Try.prog,w0⟩) (f:=80) (fn:=Try.f80) [(85,HM.sg),(94,GC.sg),(95,DN.sg),(96,HT.sg),(128,HE.sg)] [(5,[0,0,0,6,15,31])] [(15,⟨[.p (.j 0) 0, .p (.j 1) 0, .p (.j 2) 0, .p (.j 3) 0],[],[.bx [.z, .z, .z, .z], .bx [.v, .v, .v, .v, .v], .bx [.t (.f 0) 1, .v, .v], .bx [.t (.j 4) 8, .t (.j 5) 2, .t (.j 6) 1, .t (.j 7) 1], .ls, .ls, .ls, .ls]⟩)] Try.func80 (by kernel_rfl) (by kernel_rfl) (by kernel_rfl) h
def FY.sg:Sg:=⟨[(1,[.t 8 0, .t 2 0, .t 1 0, .t 1 0])],[(0,[.v])],[]⟩
def FY.txt (C:Ctx) (c0 c1 c2 c3:List T) (K:J2):Prop:=
 BN (fun r3 x1 k2=>
 prP (bnI .lss (nx x1 1) (nx x1 0)) fun t9_5=>
 AX t9_5 (
 ixW (cnt 8 c0) (nx x1 1) fun t11_6=>
 ldg c0 [] ((AA t11_6)*8) [.c, .c, .c, .c, .c, .c, .l 1, .c] fun ts7=>
 gE (tv (nxT ts7 0)) (
 gE (tv (nxT ts7 0)) (
 gE (tv (nxT ts7 0)) (
 gE (tv (nxT ts7 0)) (
 gE (tv (nxT ts7 0)) (
 gE (tv (nxT ts7 0)) (
 gP (tv (nxT ts7 0)) true (prP (bnI .add (tv (nxT ts7 3)) (tv (nxT ts7 4)))) fun t22_8=>
 gE (tv (nxT ts7 0)) (
 gE (tv (nxT ts7 0)) (
 gP (tv (nxT ts7 0)) true ((fun K=>cl2 C 100 DJ.sg [(nx x1 1)] [c0,c1,c2,c3] fun v9 d10=>K (nx v9 0))) fun t25_11=>
 gP (tv (nxT ts7 0)) true (prP (bnI .add t22_8 t25_11)) fun t26_12=>
 gP (tv (nxT ts7 0)) true (prP (bnI .neq (tv (nxT ts7 5)) t26_12)) fun t27_13=>
 prP (pk (tv (nxT ts7 0)) t27_13 (.bool false)) fun t28_14=>
 AX t28_14 (
 K [(.bool false)] []) (
 prP (bnI .add (nx x1 1) (.int .i64 1)) fun t29_15=>
 r3 [(nx x1 0),t29_15] [])))))))))) (
 K [(.bool true)] [])) [(iv (cnt 8 c0)),(.int .i64 0)] []
theorem FY.cl2 {w0:World} {c0 c1 c2 c3:List T} {K:J2} (h:FY.txt ⟨Try.prog,w0⟩ c0 c1 c2 c3 K):Eng.cl2 ⟨Try.prog,w0⟩ 83 FY.sg [] [c0,c1,c2,c3] K:=
 AU (C:=⟨Try.prog,w0⟩) (f:=83) (fn:=Try.f83) [(100,DJ.sg)] [(4,[0,1,3,7,15,7,39,7,135,487,7,7,3079,8167,16383,32767])] [(26,⟨[.p (.j 0) 0, .t (.f 0) 8, .v, .v],[],[.bx [.t (.f 0) 8, .t (.f 1) 2, .t (.f 2) 1, .t (.f 3) 1]]⟩)] Try.func83 (by kernel_rfl) (by kernel_rfl) (by kernel_rfl) h
def G4.sg:Sg:=⟨[(0,[.t 1 0])],[(0,[.v])],[]⟩
def G4.txt (C:Ctx) (c0:List T) (K:J2):Prop:=
 cl2 C 17 J1.sg [] [c0] fun v1 d2=>
 AX (nx v1 0) (
 K [(.bool true)] []) (
 cl2 C 80 EK.sg [] [c0] fun v4 d5=>
 cl2 C 42 HU.sg [(nx v4 0),(nx v4 1),(nx v4 2),(nx v4 3),(nx v4 4)] [(nxc d5 0),(nxc d5 1),(nxc d5 2),(nxc d5 3)] fun v6 d7=>
 cl2 C 76 EU.sg [(nx v4 0),(nx v4 1),(nx v4 2),(nx v4 3),(nx v4 4)] [(nxc d5 0),(nxc d5 1),(nxc d5 2),(nxc d5 3)] fun v8 d9=>
 cl2 C 79 DQ.sg [(nx v6 0),(nx v6 1),(nx v8 0),(nx v8 1)] [(nxc d7 4),(nxc d9 4)] fun v10 d11=>
 prP (un .not (nx v10 0)) fun t32_13=>
 AX t32_13 (
 K [(.bool false)] []) (
 prP (bnI .neq (nx v6 0) (.int .i64 0)) fun t35_14=>
 AX t35_14 (
 cl2 C 36 FC.sg [] [(nxc d7 0),(nxc d7 1),(nxc d7 2),(nxc d7 3),(nxc d5 0),(nxc d5 1),(nxc d5 2),(nxc d5 3)] fun v15 d16=>
 gE (nx v15 0) (
 gE (nx v15 0) (
 gE (nx v15 0) (
 gP (nx v15 0) true (prP (bnI .eql (iv (cnt 1 (nxc d7 4))) (.int .i64 0))) fun t43_18=>
 prP (pk (nx v15 0) t43_18 (.bool false)) fun t44_19=>
 K [t44_19] [])))) (
 BN (fun r22 x20 k21=>
 prP (bnI .lss (nx x20 0) (iv (cnt 1 (nxc k21 8)))) fun t49_24=>
 AX t49_24 (
 ixW (cnt 1 (nxc k21 8)) (nx x20 0) fun t56_25=>
 ldc (nxc k21 8) [] ((AA t56_25)*1) fun t57_26=>
 cl2 C 81 BS.sg [t57_26] [(nxc k21 4),(nxc k21 5),(nxc k21 6),(nxc k21 7)] fun v27 d28=>
 prP (bnI .neq (nx v27 0) (.int .i64 (-1))) fun t59_30=>
 gE t59_30 (
 gE t59_30 (
 gE t59_30 (
 gE t59_30 (
 gP t59_30 false (ixW (cnt 1 (nxc k21 8)) (nx x20 0)) fun t65_31=>
 gP t59_30 false (ldc (nxc k21 8) [] ((AA t65_31)*1)) fun t66_32=>
 gP t59_30 false ((fun K=>cl2 C 24 BX.sg [t66_32] [(nxc k21 0),(nxc k21 1),(nxc k21 2),(nxc k21 3)] fun v33 d34=>K (nx v33 0))) fun t67_35=>
 gP t59_30 false (prP (bnI .lss t67_35 (.int .i64 0))) fun t68_36=>
 prP (pk t59_30 (.bool true) t68_36) fun t69_37=>
 gE t69_37 (
 gE t69_37 (
 gE t69_37 (
 gP t69_37 false ((fun K=>scW (cnt 1 (nxc k21 8)) none (some (nx x20 0)) fun l m=>K (two l m))) fun t74_38=>
 gE t69_37 (
 gE t69_37 (
 gE t69_37 (
 gP t69_37 false (ixW (cnt 1 (nxc k21 8)) (nx x20 0)) fun t78_39=>
 gP t69_37 false (ldc (nxc k21 8) [] ((AA t78_39)*1)) fun t79_40=>
 gP t69_37 false ((fun K=>cl2 C 25 J5.sg [t79_40] [(GM (nxc k21 8) [] ((AA (SQ t74_38))*1) ((AA (RY t74_38))*1))] fun v41 d42=>K (nx v41 0))) fun t80_43=>
 prP (pk t69_37 (.bool true) t80_43) fun t81_44=>
 AX t81_44 (
 K [(.bool false)] []) (
 prP (bnI .add (nx x20 0) (.int .i64 1)) fun t51_45=>
 r22 [t51_45,(nx x20 1),(nx x20 2)] [(nxc k21 0),(nxc k21 1),(nxc k21 2),(nxc k21 3),(nxc k21 4),(nxc k21 5),(nxc k21 6),(nxc k21 7),(nxc k21 8)])))))))))))) (
 cl2 C 19 FQ.sg [] [(nxc k21 4),(nxc k21 5),(nxc k21 6),(nxc k21 7)] fun v46 d47=>
 gE (nx v46 0) (
 gP (nx v46 0) true ((fun K=>cl2 C 82 FK.sg [] [(nxc k21 4),(nxc k21 5),(nxc k21 6),(nxc k21 7)] fun v49 d50=>K (nx v49 0))) fun t86_51=>
 prP (pk (nx v46 0) t86_51 (.bool false)) fun t87_52=>
 gE t87_52 (
 gP t87_52 true ((fun K=>cl2 C 83 FY.sg [] [(nxc k21 4),(nxc k21 5),(nxc k21 6),(nxc k21 7)] fun v53 d54=>K (nx v53 0))) fun t90_55=>
 prP (pk t87_52 t90_55 (.bool false)) fun t91_56=>
 gE t91_56 (
 gC t91_56 true (cl2 C 40 FW.sg [] [(nxc k21 4),(nxc k21 5),(nxc k21 6),(nxc k21 7)]) fun v57 d58=>
 gE t91_56 (
 gE t91_56 (
 gC t91_56 true (cl2 C 30 EM.sg [] [(nxc k21 4),(nxc k21 5),(nxc k21 6),(nxc k21 7)]) fun v59 d60=>
 gE t91_56 (
 gP t91_56 true (prP (bnI .eql (iv (cnt 1 (nxc d58 0))) (iv (cnt 1 (nxc d60 0))))) fun t99_61=>
 prP (pk t91_56 t99_61 (.bool false)) fun t100_62=>
 K [t100_62] [])))))))) [(.int .i64 0),(nx v6 0),(nx v6 1)] [(nxc d5 0),(nxc d5 1),(nxc d5 2),(nxc d5 3),(nxc d7 0),(nxc d7 1),(nxc d7 2),(nxc d7 3),(nxc d7 4)])))
theorem G4.cl2 {w0:World} {c0:List T} {K:J2} (h:G4.txt ⟨Try.prog,w0⟩ c0 K):Eng.cl2 ⟨Try.prog,w0⟩ 15 G4.sg [] [c0] K:=
 AU (C:=⟨Try.prog,w0⟩) (f:=15) (fn:=Try.f15) [(17,J1.sg),(80,EK.sg),(42,HU.sg),(76,EU.sg),(79,DQ.sg),(36,FC.sg),(81,BS.sg),(24,BX.sg),(25,J5.sg),(19,FQ.sg),(82,FK.sg),(83,FY.sg),(40,FW.sg),(30,EM.sg)] [(13,[0,0,2,0,14,30,63,127,255,511,511,1535,511,7679,15871,32767,65535,131071,262143,524287,1048575,524287,4194303,524287,8912895,524287,59244543,126353407,268435455,536870911]),(15,[0,1,3,7,15,31,63,127,255,511,1023,2047,4095,8191,2047,24575,57343,131071,262143,524287])] [(2042,⟨[.p (.j 0) 0, .p (.j 1) 0, .p (.j 2) 0, .v],[],[.bx [.t (.j 3) 8, .t (.j 4) 2, .t (.j 5) 1, .t (.j 6) 1], .bx [.t (.j 7) 8, .t (.j 8) 2, .t (.j 9) 1, .t (.j 10) 1], .bx [.v, .v, .t (.j 11) 1], .ls, .ls, .ls, .ls, .ls, .ls, .ls, .ls, .ls]⟩)] Try.func15 (by kernel_rfl) (by kernel_rfl) (by kernel_rfl) h
end Go.Proofs.Ytklmcfpgdfibnaa.P
